/- style.Parse: what it reads. -/
import Derived.Test.YtaipemiaphpojaaGreatDoorCatch
import Derived.Test.YtaipemiaphpojaaGreatDoorLines
import Derived.Test.YtaipemiaphpojaaGreatDoorLaw
import Derived.Deep.AppendLies
import Derived.Deep.RegionHeld3
namespace Go.Proofs.YtaipemiaphpojaaGreatDoor
open Go Go.Proofs Go.RowKit
theorem split_c (s : ByteArray) (w : World) (hs : s.size ≤ 1048576) (hm : ∃ m, w.cell? ⟨4, 0, none⟩ = some (.int .i64 m)) :
    Calls Tryz.prog 44 #[.string s, .string ⟨#[10]⟩] w fun e w' => e = .returned (.slice (some ⟨w.heap.size, 0, none⟩) (linesP s.data.toList).length (linesP s.data.toList).length) ∧ w' = w.alloc (.cells ((linesP s.data.toList).map fun l => Value.string ⟨l.toArray⟩).toArray 9) := by
  obtain ⟨m, hm⟩ := hm
  obtain ⟨h1, h2⟩ := split_pieces s
  have h3 : (linesP s.data.toList).length = Lib.countB s ⟨#[10]⟩ + 1 := by rw [← h1, List.length_map, h2]
  have h4 : (Lib.splitB ⟨#[10]⟩ 0 (Lib.countB s ⟨#[10]⟩) s).map Value.string = (linesP s.data.toList).map fun l => Value.string ⟨l.toArray⟩ := by
    rw [← h1, List.map_map]
    apply List.map_congr_left
    intro b _
    show Value.string b = Value.string ⟨b.data.toList.toArray⟩
    rw [← bytes_back]
  rw [h3, ← h4]
  exact Any.strings_Split { Tryz.laysM146 with } Tryz.laysM146.i9 s ⟨#[10]⟩ m w (by omega) hm (by decide)
/-- What Parse hands back. -/
def ParseRes (B : Nat) (t : List UInt8) (e : Ending) (w' : World) : Prop := match parseP t with
  | .error f => ∃ q, B ≤ q ∧ e = .returned (.tuple #[.slice none 0 0, .iface 91 (.pointer (some ⟨q, 0, none⟩))]) ∧ w'.heap[q]? = some (.cells #[.int .i64 f.1, .int .i64 f.2.1, .string ⟨f.2.2.toArray⟩] 60 (0, 0))
  | .ok l => ∃ v, e = .returned (.tuple #[v, .nilIface]) ∧ w'.ownsRow B 33 6 v l.length (l.flatMap Rl.cells)
theorem parseRes_err {B : Nat} {t : List UInt8} {e : Ending} {w' : World} {f : Flt} (h : parseP t = .error f) (q : Nat) (hq : B ≤ q) (he : e = .returned (.tuple #[.slice none 0 0, .iface 91 (.pointer (some ⟨q, 0, none⟩))])) (hc : w'.heap[q]? = some (.cells #[.int .i64 f.1, .int .i64 f.2.1, .string ⟨f.2.2.toArray⟩] 60 (0, 0))) : ParseRes B t e w' := by
  unfold ParseRes; rw [h]; exact ⟨q, hq, he, hc⟩
theorem parseRes_ok {B : Nat} {t : List UInt8} {e : Ending} {w' : World} {l : List Rl} (h : parseP t = .ok l) {v : Value} (he : e = .returned (.tuple #[v, .nilIface])) (hc : w'.ownsRow B 33 6 v l.length (l.flatMap Rl.cells)) : ParseRes B t e w' := by
  unfold ParseRes; rw [h]; exact ⟨v, he, hc⟩
/-- What stands while the lines are gone through: the results' cells, the pieces, what was read. -/
structure PState (w : World) (ls : List (List UInt8)) (v : Value) (acc : List Rl) (wr : World) : Prop where
  a : wr.heap[w.heap.size]? = some (.cells #[v] 22 (0, 0))
  b : wr.heap[w.heap.size + 1]? = some (.cells #[.nilIface] 45 (0, 0))
  c : wr.heap[w.heap.size + 2]? = some (.cells (ls.map fun l => Value.string ⟨l.toArray⟩).toArray 9 (0, 0))
  own : wr.ownsRow (w.heap.size + 3) 33 6 v acc.length (acc.flatMap Rl.cells)
  below : Below w.heap.size w wr
  size : w.heap.size + 3 ≤ wr.heap.size
theorem sumT_mem {z : Wd} : ∀ {ws : List Wd}, z ∈ ws → z.text.length ≤ sumT ws
  | w :: ws, h => by
    rw [sumT_cons]
    rcases List.mem_cons.1 h with rfl | h
    · omega
    · have := sumT_mem h; omega
theorem Wd.ok.sort_le {z : Wd} (h : z.ok) : z.sort ≤ 2 := by
  rcases h.2 with h | h
  · omega
  · omega
theorem PState.on {w : World} {ls : List (List UInt8)} {v : Value} {acc : List Rl} {wr wx : World} (h : PState w ls v acc wr) (hb : Below wr.heap.size wr wx) : PState w ls v acc wx :=
  ⟨heap_onward hb h.a, heap_onward hb h.b, heap_onward hb h.c, own_onward h.own hb, h.below.trans (hb.mono h.below.size), Nat.le_trans h.size hb.size⟩
theorem Below.heapAt {B : Nat} {w w' : World} (h : Below B w w') {k : Nat} {o : Obj} (hk : w.heap[k]? = some o) (hB : k < B) : w'.heap[k]? = some o := by rw [h.block k hB]; exact hk
theorem PState.grow {w : World} {ls : List (List UInt8)} {v v' : Value} {acc acc' : List Rl} {wr w1 : World} (h : PState w ls v acc wr) (hb : Below (w.heap.size + 3) wr w1) (ho : w1.ownsRow (w.heap.size + 3) 33 6 v' acc'.length (acc'.flatMap Rl.cells)) : PState w ls v' acc' (w1.setCell ⟨w.heap.size, 0, none⟩ v') := by
  refine ⟨Lib.heap_setCell_same (i := 0) (Below.heapAt hb h.a (by omega)) _, ?_, ?_, own_setCell ho v' (fun k hk => ?_), (h.below.trans (hb.mono (by omega))).setCell (p := ⟨w.heap.size, 0, none⟩) (Nat.le_refl _) _, ?_⟩
  · rw [Below.heap_setCell _ _ _ _ (show w.heap.size + 1 ≠ w.heap.size by omega)]; exact Below.heapAt hb h.b (by omega)
  · rw [Below.heap_setCell _ _ _ _ (show w.heap.size + 2 ≠ w.heap.size by omega)]; exact Below.heapAt hb h.c (by omega)
  · have := (ho.lt k hk).1
    show k ≠ w.heap.size
    omega
  · have := hb.size
    have := h.size
    simp [World.setCell]
    omega
theorem PState.touch {w : World} {ls : List (List UInt8)} {v : Value} {acc : List Rl} {wr wx : World} {r : Nat} (h : PState w ls v acc wr) (hT : Touch r wr wx) (hr : w.heap.size + 3 ≤ r) (hv : ∀ g, v.ownBlock = some g → g < r) : PState w ls v acc wx := by
  refine ⟨hT.heap h.a (by omega), hT.heap h.b (by omega), hT.heap h.c (by omega), ?_, h.below.trans (hT.below (by omega) h.below.size), Nat.le_trans h.size hT.size⟩
  obtain ⟨h1, h2⟩ := h.own
  refine ⟨h1, ?_⟩
  rcases h2 with h2 | ⟨g, cap, cur, hvv, hg, hh, rr⟩
  · exact Or.inl h2
  · exact Or.inr ⟨g, cap, cur, hvv, hg, hT.heap hh (Nat.ne_of_lt (hv g (by rw [hvv]; rfl))), rr⟩
abbrev PS2 (w W3 : World) (v : Value) (wx : World) : Prop := wx.cell? ⟨w.heap.size, 0, none⟩ = some v ∧ wx.frozen? ⟨w.heap.size, 0, none⟩ = false ∧ Below (w.heap.size + 3) W3 wx
theorem ps2_on {w W3 wx wy : World} {v : Value} (h : PS2 w W3 v wx) (hb : Below (w.heap.size + 3) wx wy) : PS2 w W3 v wy :=
  ⟨(hb.cell (p := ⟨w.heap.size, 0, none⟩) (by show w.heap.size < _; omega)).trans h.1, (hb.frozen (p := ⟨w.heap.size, 0, none⟩) (by show w.heap.size < _; omega)).trans h.2.1, h.2.2.trans hb⟩
theorem ps2_alloc {w W3 wx : World} {v : Value} (h : PS2 w W3 v wx) (hs : w.heap.size + 3 ≤ W3.heap.size) (o : Obj) : PS2 w W3 v (wx.alloc o) :=
  ps2_on h ((Below.refl _ wx).alloc (Nat.le_trans hs h.2.2.size) o)
theorem ps2_grow {w W3 w3 w1 : World} {ls : List (List UInt8)} {v : Value} {acc : List Rl} {o : Obj} (h : PS2 w W3 v (w3.alloc o)) (hP : PState w ls v acc w3) (hg : (w3.alloc o).grownBy w1 v.ownBlock) : PS2 w W3 v w1 :=
  ps2_on h (row33_below (Nat.le_trans hP.size (by simp)) (hP.own.alloc o) hg)
theorem six_one (x : ByteArray) (a b c : Bool) (s r : Int) : ∀ u ∈ [Value.string x, .bool a, .bool b, .bool c, .int .u16 s, .int .i64 r], u.oneCell' = true := by
  intro u hu
  simp only [List.mem_cons, List.not_mem_nil, or_false] at hu
  rcases hu with rfl | rfl | rfl | rfl | rfl | rfl <;> rfl
set_option maxHeartbeats 4000000 in
set_option maxRecDepth 1000000 in
/-- The door, behind a fault. -/
theorem door_panic {t : List UInt8} {w w3 : World} {q : Nat} {f : Flt} {T : Array Value} {v1 : Value} (ha : w3.heap[w.heap.size]? = some (.cells #[v1] 22 (0, 0))) (hb : w3.heap[w.heap.size + 1]? = some (.cells #[.nilIface] 45 (0, 0))) (hbel : Below w.heap.size w w3)
    (hqn : w.heap.size + 3 ≤ q) (hcc : w3.heap[q]? = some (.cells #[.int .i64 f.1, .int .i64 f.2.1, .string ⟨f.2.2.toArray⟩] 60 (0, 0))) (hpe : parseP t = .error f)
    (h2 : T.getD 2 undef = .pointer (some ⟨w.heap.size, 0, none⟩)) (h3 : T.getD 3 undef = .pointer (some ⟨w.heap.size + 1, 0, none⟩)) :
    bodyPostD Tryz.prog Tryz.f20 (fun e w' => ParseRes w.heap.size t e w' ∧ Below w.heap.size w w') (Exit.panic [{ v := .iface 91 (.pointer (some ⟨q, 0, none⟩)), recovered := false }])
      { tmps := T, defers := [{ target := Target.fn (Fn.func 43) #[.pointer (some ⟨w.heap.size, 0, none⟩), .pointer (some ⟨w.heap.size + 1, 0, none⟩)], args := #[] }] } w3 := by
  refine leaves_cons (f := 43) (args := #[.pointer (some ⟨w.heap.size, 0, none⟩), .pointer (some ⟨w.heap.size + 1, 0, none⟩)]) (by simp) (by simp [go_sem]) ?_
  refine (catch_panicking ⟨w.heap.size, 0, none⟩ ⟨w.heap.size + 1, 0, none⟩ q _ _ [] _ (cell_of5 ha 0 rfl) (cell_of5 hb 0 rfl) (Lib.frozen_of_heap ha 0) (Lib.frozen_of_heap hb 0) (by simp)).mono ?_
  rintro e u' w'' ⟨rfl, rfl, hww⟩
  have hfa : w''.cell? ⟨w.heap.size, 0, none⟩ = some (.slice none 0 0) := by
    rw [hww]
    refine cell_of5 (c := #[.slice none 0 0]) (T := 22) ?_ 0 rfl
    rw [Below.heap_setCell _ _ _ _ (show w.heap.size ≠ w.heap.size + 1 by omega)]
    exact Lib.heap_setCell_same (i := 0) ha _
  have hfb : w''.cell? ⟨w.heap.size + 1, 0, none⟩ = some (.iface 91 (.pointer (some ⟨q, 0, none⟩))) := by
    rw [hww]
    refine cell_of5 (c := #[.iface 91 (.pointer (some ⟨q, 0, none⟩))]) (T := 45) ?_ 0 rfl
    refine Lib.heap_setCell_same (i := 0) (cs := #[.nilIface]) ?_ _
    rw [Below.heap_setCell _ _ _ _ (show w.heap.size + 1 ≠ w.heap.size by omega)]
    exact hb
  have hfq : w''.heap[q]? = w3.heap[q]? := by
    rw [hww, Below.heap_setCell _ _ _ _ (show q ≠ w.heap.size + 1 by omega), Below.heap_setCell _ _ _ _ (show q ≠ w.heap.size by omega)]
  rw [hcc] at hfq
  have hfB : Below w.heap.size w w'' := by
    rw [hww]
    exact (hbel.setCell (p := ⟨w.heap.size, 0, none⟩) (Nat.le_refl _) _).setCell (p := ⟨w.heap.size + 1, 0, none⟩) (Nat.le_succ _) _
  clear hww
  have h2' := h2
  have h3' := h3
  rw [Array.getD_eq_getD_getElem?] at h2' h3'
  simp [Leaves, settle, results, Tryz.results20, go_sem, hfa, hfb, h2', h3']
  exact ⟨parseRes_err hpe q (by omega) rfl hfq, hfB⟩
set_option maxHeartbeats 4000000 in
set_option maxRecDepth 1000000 in
theorem door_ok {t : List UInt8} {w w3 : World} {T : Array Value} {v : Value} {acc : List Rl} (ha : w3.heap[w.heap.size]? = some (.cells #[v] 22 (0, 0))) (hb : w3.heap[w.heap.size + 1]? = some (.cells #[.nilIface] 45 (0, 0))) (hbel : Below w.heap.size w w3)
    (ho : w3.ownsRow (w.heap.size + 3) 33 6 v acc.length (acc.flatMap Rl.cells)) (hpe : parseP t = .ok acc)
    (h2 : T.getD 2 undef = .pointer (some ⟨w.heap.size, 0, none⟩)) (h3 : T.getD 3 undef = .pointer (some ⟨w.heap.size + 1, 0, none⟩)) :
    bodyPostD Tryz.prog Tryz.f20 (fun e w' => ParseRes w.heap.size t e w' ∧ Below w.heap.size w w') Exit.ret
      { tmps := T, defers := [{ target := Target.fn (Fn.func 43) #[.pointer (some ⟨w.heap.size, 0, none⟩), .pointer (some ⟨w.heap.size + 1, 0, none⟩)], args := #[] }] } w3 := by
  refine leaves_cons (f := 43) (args := #[.pointer (some ⟨w.heap.size, 0, none⟩), .pointer (some ⟨w.heap.size + 1, 0, none⟩)]) (by simp) (by simp [go_sem]) ?_
  refine (catch_idle ⟨w.heap.size, 0, none⟩ ⟨w.heap.size + 1, 0, none⟩ _).mono ?_
  rintro e u' w'' ⟨rfl, rfl, rfl⟩
  have hfa := cell_of5 ha 0 rfl
  have hfb := cell_of5 hb 0 rfl
  have h2' := h2
  have h3' := h3
  rw [Array.getD_eq_getD_getElem?] at h2' h3'
  have ho' : w''.ownsRow w.heap.size 33 6 v acc.length (acc.flatMap Rl.cells) := by
    obtain ⟨g1, g2⟩ := ho
    refine ⟨g1, ?_⟩
    rcases g2 with g2 | ⟨g, cap, cur, hv, hg, rr⟩
    · exact Or.inl g2
    · exact Or.inr ⟨g, cap, cur, hv, by omega, rr⟩
  obtain ⟨A1, cap1, rfl, hc1, hRA⟩ := rows_new ho'
  simp [Leaves, settle, results, Tryz.results20, go_sem, hfa, hfb, h2', h3']
  exact ⟨parseRes_ok hpe rfl ho', hbel⟩
set_option maxHeartbeats 4000000 in
set_option maxRecDepth 1000000 in
theorem parse_walk (s : ByteArray) (w : World) (hE : Env w) (h9 : 9 ≤ w.heap.size) :
    Calls Tryz.prog 20 #[.string s] w fun e w' => ParseRes w.heap.size s.data.toList e w' ∧ Below w.heap.size w w' := by
  obtain ⟨i0, hi, hz0', hz1', hz2'⟩ := info_parts info33
  have hmf : ∀ (fn : Fn) (first cap : Array Value) (w : World), (Instr.makeFunc fn first cap).run Tryz.prog w = .ok (.func fn first cap) w := fun _ _ _ _ => rfl
  have hsl : s.data.toList.length = s.size := by rw [Array.length_toList]; rfl
  by_cases hlong : 1048576 < s.size
  · have hp : parseP s.data.toList = .error (3, 0, []) := by unfold parseP; rw [if_pos (by omega)]
    go_enter_defers Tryz.func20, Tryz.ntmps20
    go_wp2
    simp only [bodyPostD, Leaves, settle]
    simp [results, Tryz.results20, go_sem]
    refine ⟨parseRes_err hp (w.heap.size + 1 + 1) (by omega) rfl ?_, (((Below.refl _ w).alloc (Nat.le_refl _) _).alloc (by simp) _).alloc (by simp; omega) _⟩
    have := heap_alloc_new ((w.alloc (.cells #[.slice none 0 0] 22)).alloc (.cells #[.iface 91 (.pointer (some ⟨w.heap.size + 1 + 1, 0, none⟩))] 45)) (.cells #[.int .i64 3, .int .i64 0, .string ⟨#[]⟩] 60)
    rw [World.size_alloc, World.size_alloc] at this
    exact this
  · have hE0 := hE
    obtain ⟨mz, hmz⟩ := hE.mx
    have hsm : s.size ≤ 1048576 := by omega
    have hsi : ¬ (1048576 : Int) < (s.size : Int) := by omega
    clear hE
    go_enter_defers Tryz.func20, Tryz.ntmps20
    go_wp2_with fail
    have hb0 : Below w.heap.size w ((w.alloc (Obj.cells #[Value.slice none 0 0] 22)).alloc (Obj.cells #[Value.nilIface] 45)) := ((Below.refl _ w).alloc (Nat.le_refl _) _).alloc (by simp) _
    have hE1 := hE0.keep (hb0.mono h9)
    have hA : ((w.alloc (Obj.cells #[Value.slice none 0 0] 22)).alloc (Obj.cells #[Value.nilIface] 45)).heap[w.heap.size]? = some (.cells #[.slice none 0 0] 22 (0, 0)) :=
      heap_onward ((Below.refl _ _).alloc (Nat.le_refl _) _) (heap_alloc_new w _)
    have hB : ((w.alloc (Obj.cells #[Value.slice none 0 0] 22)).alloc (Obj.cells #[Value.nilIface] 45)).heap[w.heap.size + 1]? = some (.cells #[.nilIface] 45 (0, 0)) := by
      have := heap_alloc_new (w.alloc (Obj.cells #[Value.slice none 0 0] 22)) (Obj.cells #[Value.nilIface] 45)
      rw [World.size_alloc] at this
      exact this
    have hz0 : ((w.alloc (Obj.cells #[Value.slice none 0 0] 22)).alloc (Obj.cells #[Value.nilIface] 45)).heap.size = w.heap.size + 2 := by simp
    generalize (w.alloc (Obj.cells #[Value.slice none 0 0] 22)).alloc (Obj.cells #[Value.nilIface] 45) = W0 at hb0 hE1 hA hB hz0 ⊢
    refine (hidC (split_c s W0 hsm hE1.mx)).mono ?_
    intro en W1 hh
    obtain ⟨rfl, hW1⟩ := hh.out
    clear hh
    rw [hz0]
    have hC : W1.heap[w.heap.size + 2]? = some (.cells ((linesP s.data.toList).map fun l => Value.string ⟨l.toArray⟩).toArray 9 (0, 0)) := by
      rw [hW1, ← hz0]; exact heap_alloc_new _ _
    have hb1 : Below W0.heap.size W0 W1 := by rw [hW1]; exact (Below.refl _ _).alloc (Nat.le_refl _) _
    have hz1 : W1.heap.size = w.heap.size + 3 := by rw [hW1]; simp; omega
    clear hW1
    have hPS : PState w (linesP s.data.toList) (.slice none 0 0) [] W1 := ⟨heap_onward hb1 hA, heap_onward hb1 hB, hC, World.ownsRow_nil _ _ 33 6, hb0.trans (hb1.mono (by omega)), by omega⟩
    have htot := lines_total s.data.toList
    rw [hsl] at htot
    have hpp : parseP s.data.toList = goL 0 (linesP s.data.toList) [] := by unfold parseP; rw [if_neg (by omega)]
    clear hA hB hC hb1 hz1 hE1 hb0 hz0
    generalize hls : linesP s.data.toList = ls at hPS htot hpp ⊢
    have hll : ls.length ≤ 1048577 := by omega
    go_wp2_with fail
    go_loopw [4, 18] (fun a i wr => ∃ (j p : Nat) (acc : List Rl) (v : Value), j ≤ ls.length ∧ i = .int .i64 j ∧ a = .int .i64 p ∧ Hid (goL 0 ls [] = goL p (ls.drop j) acc) ∧ p + (sumL (ls.drop j) + (ls.drop j).length) = s.size + 1 ∧ acc.length ≤ 64 ∧ PState w ls v acc wr) (fun _ i _ => ls.length - (intOf i).toNat)
    case atStart => exact ⟨0, 0, [], _, by omega, rfl, rfl, Lib.hid rfl, by simpa using htot, by simp, hPS⟩
    case round =>
      obtain ⟨j, p, acc, v, hj, rfl, rfl, hgo, hsum, h64, hPS'⟩ := hrel
      clear hPS
      by_cases hlt : j < ls.length
      · obtain ⟨bs, hbs, hbl⟩ : ∃ bs : ByteArray, bs = ⟨(ls[j]).toArray⟩ ∧ bs.data.toList = ls[j] := ⟨_, rfl, rfl⟩
        have hbz : bs.size = ls[j].length := by rw [← hbl, Array.length_toList]; rfl
        have cj : wr.cell? ⟨w.heap.size + 2, j, none⟩ = some (.string bs) := cell_of5 hPS'.c j (by rw [hbs]; simp [List.getElem?_eq_getElem hlt])
        have hdj : ls.drop j = ls[j] :: ls.drop (j + 1) := List.drop_eq_getElem_cons hlt
        rw [hdj] at hgo hsum
        rw [sumL_cons] at hsum
        simp only [List.length_cons] at hsum
        rw [← hbl] at hgo
        rw [← hbz] at hsum
        have hgo' := hgo
        clear hgo hbs hdj hbl hbz
        generalize hR : ls.drop (j + 1) = rest at hgo' hsum
        have hE2 := hE0.keep (hPS'.below.mono h9)
        have hp1 : p + bs.size ≤ 1048576 := by omega
        have hpw : IntKind.i64.wrap ((p : Int) + (bs.size : Int)) = (p : Int) + (bs.size : Int) := IntWalk.i64_in _ (by omega)
        have hpw2 : IntKind.i64.wrap ((bs.size : Int) + 1) = (bs.size : Int) + 1 := IntWalk.i64_in _ (by omega)
        have hpw3 : IntKind.i64.wrap ((p : Int) + ((bs.size : Int) + 1)) = (p : Int) + ((bs.size : Int) + 1) := IntWalk.i64_in _ (by omega)
        have hSW := split_walk bs p wr (by omega) (by omega) hE2.e5
        go_wp2_with (go_at_call 45; refine (hidC hSW).mono ?_)
        intro en W2 hh
        obtain ⟨⟨xs, A, cap, hlk, rfl, hxc, hAb, hwat⟩, hb2⟩ := hh.out
        clear hh hSW cj
        have hb3 : Below W2.heap.size W2 (W2.alloc (.cells #[.slice A xs.length cap, .int .i64 ((p : Int) + (bs.size : Int))] 128)) := (Below.refl _ _).alloc (Nat.le_refl _) _
        have hrd : RdAt (W2.alloc (.cells #[.slice A xs.length cap, .int .i64 ((p : Int) + (bs.size : Int))] 128)) W2.heap.size ((p : Int) + (bs.size : Int)) xs :=
          ⟨A, cap, heap_alloc_new _ _, hxc, hwat.onward hb3, hAb⟩
        have hP3 := (hPS'.on hb2).on hb3
        have hrl : W2.heap.size < (W2.alloc (.cells #[.slice A xs.length cap, .int .i64 ((p : Int) + (bs.size : Int))] 128)).heap.size := by simp
        have hr3 : w.heap.size + 3 ≤ W2.heap.size := (hPS'.on hb2).size
        have hvr : ∀ g, v.ownBlock = some g → g < W2.heap.size := fun g hg => ((hPS'.on hb2).own.lt g hg).2
        clear hPS' hE2 hb2 hb3 hAb hwat
        rw [show ((p + bs.size : Nat) : Int) = (p : Int) + (bs.size : Int) by omega] at hlk
        go_upto_region 10 with (fail)
        obtain ⟨r, hr⟩ : ∃ r, r = W2.heap.size := ⟨_, rfl⟩
        generalize W2.alloc (.cells #[.slice A xs.length cap, .int .i64 ((p : Int) + (bs.size : Int))] 128) = W3 at hrd hP3 hrl ⊢
        rw [← hr] at hrd hrl hr3 hvr ⊢
        clear hr
        have hok := words_ok ((p : Int) + (bs.size : Int)) bs.data.toList
        have hlen := (wds_len ((p : Int) + (bs.size : Int)) bs.data.toList).1
        have hgl : goL p (bs.data.toList :: rest) acc = match words ((p : Int) + (bs.size : Int)) bs.data.toList with
            | [] => goL ((p + bs.size + 1 : Nat) : Int) rest acc
            | y :: us => if y.text.head? = some 35 then goL ((p + bs.size + 1 : Nat) : Int) rest acc else if 64 ≤ acc.length then .error (3, y.place, y.text) else match ruleP ((p : Int) + (bs.size : Int)) (y :: us) with
              | .error f => .error f
              | .ok x => goL ((p + bs.size + 1 : Nat) : Int) rest (acc ++ [x]) := by
          rw [goL.eq_2, show ((bs.data.toList.length : Nat) : Int) = (bs.size : Int) by rw [Array.length_toList]; rfl, show (p : Int) + (bs.size : Int) + 1 = ((p + bs.size + 1 : Nat) : Int) by omega]
          rfl
        generalize words ((p : Int) + (bs.size : Int)) bs.data.toList = ws at hok hlen hgl hlk
        obtain ⟨A1, cap1, rfl, hc1, hRA⟩ := rows_new hP3.own
        obtain ⟨A2, cap2, q1, q2, q3, q4⟩ := hrd
        have k0 : W3.cell? ⟨r, 0, none⟩ = some (.slice A2 xs.length cap2) := cell_of5 q1 0 rfl
        have ca := cell_of5 hP3.a 0 rfl
        cases xs with
        | nil =>
          cases ws with
          | cons y us => exact hlk.elim
          | nil =>
            simp only [List.length_nil] at k0
            clear hok hlen hlk q1 q2 q3 q4 hRA hc1
            go_wp2_with fail
            go_roundw
            case rel => exact ⟨j + 1, p + bs.size + 1, acc, _, by omega, by go_num, congrArg (Value.int .i64) (by omega), Lib.hid (by rw [hR]; exact hgo'.out.trans hgl), by rw [hR]; omega, h64, hP3⟩
            case measure => simp [intOf]; omega
        | cons x xs =>
          cases ws with
          | nil => exact hlk.elim
          | cons y us =>
            obtain ⟨ad, rfl, d0, d1, d2, d3, d4⟩ := word_at q3
            have hrd : RdAt W3 r ((p : Int) + (bs.size : Int)) (x :: xs) := ⟨some ad, cap2, q1, q2, q3, q4⟩
            have hy := hok y (by simp)
            obtain ⟨xt, xv, xp, xq, xb⟩ := x
            obtain ⟨l1, l2, -, -, -⟩ := hlk.1
            dsimp only at l1 l2 d0 d1 d2 d3 d4
            have hyt : y.text = xt.data.toList := by rw [l1]
            have hx0 : 0 < xt.size := by
              have h1 := List.length_pos_iff.2 hy.1
              rw [hyt, Array.length_toList] at h1
              exact h1
            have hh : y.text.head? = some xt[0] := by
              have h1 := drop_at xt 0 hx0
              rw [List.drop_zero] at h1
              rw [hyt, h1]; rfl
            simp only [List.length_cons] at k0
            have hxi : (0 : Int) < (xt.size : Int) := by omega
            by_cases h35 : xt[0] = 35
            · have e35 : ((xt[0].toNat : Int) == 35) = true := (u8_beq xt[0] 35).trans (decide_eq_true h35)
              have hgg : goL p (bs.data.toList :: rest) acc = goL ((p + bs.size + 1 : Nat) : Int) rest acc := by
                rw [hgl]; dsimp only; rw [hh, h35, if_pos rfl]
              clear hok hlen hlk q1 q2 q3 q4 hRA hc1 hgl hh hyt l1 l2 hrd hy
              go_wp2_with fail
              go_roundw
              case rel => exact ⟨j + 1, p + bs.size + 1, acc, _, by omega, by go_num, congrArg (Value.int .i64) (by omega), Lib.hid (by rw [hR]; exact hgo'.out.trans hgg), by rw [hR]; omega, h64, hP3⟩
              case measure => simp [intOf]; omega
            · have e35 : ((xt[0].toNat : Int) == 35) = false := (u8_beq xt[0] 35).trans (decide_eq_false h35)
              by_cases hfull : 64 ≤ acc.length
              · have hgg : goL p (bs.data.toList :: rest) acc = .error (3, y.place, y.text) := by
                  rw [hgl]; dsimp only; rw [hh, if_neg (fun h => h35 (Option.some.inj h)), if_pos hfull]
                have hpe := hpp.trans (hgo'.out.trans hgg)
                have hF := fail_e 3 xt xv y.place xq xb y.text l1
                have hfi : (64 : Int) ≤ (acc.length : Int) := by omega
                subst l2
                clear hok hlen hlk q1 q2 q3 q4 hRA hc1 hgl hh hyt l1 hrd hy hgg
                go_wp2_with (go_at_call 46; refine (hidC (hF _)).mono ?_)
                intro en w3 hh
                obtain ⟨⟨q, hq, rfl, hcc⟩, hb3⟩ := hh.out
                clear hh
                have hPz := hP3.on hb3
                go_wp2
                exact door_panic hPz.a hPz.b hPz.below (Nat.le_trans (by omega) hq) hcc hpe rfl rfl
              · have hfi : ¬ (64 : Int) ≤ (acc.length : Int) := by omega
                have hgg : goL p (bs.data.toList :: rest) acc = match ruleP ((p : Int) + (bs.size : Int)) (y :: us) with
                    | .error f => .error f
                    | .ok x => goL ((p + bs.size + 1 : Nat) : Int) rest (acc ++ [x]) := by
                  rw [hgl]; dsimp only; rw [hh, if_neg (fun h => h35 (Option.some.inj h)), if_neg hfull]
                have hE3 := hE0.keep (hP3.below.drew.mono h9)
                have hrdD : RdAt W3.drew r ((p : Int) + (bs.size : Int)) (⟨xt, xv, xp, xq, xb⟩ :: xs) := hrd
                have hRW := rule_walk r ((p : Int) + (bs.size : Int)) _ y us W3.drew hrdD hlk hE3 (by omega) hrl (fun z hz => by
                  have h1 : z.text.length ≤ sumT (y :: us) := sumT_mem hz
                  rw [Array.length_toList] at hlen
                  exact Nat.le_trans h1 (Nat.le_trans hlen (show bs.size ≤ 1048576 by omega))) (fun z hz => (hok z hz).sort_le)
                subst l2
                clear hok hlen hlk q1 q2 q3 q4 hRA hc1 hgl hh hyt l1 hrd hrdD hy
                have hP3d : PState w ls (.slice A1 acc.length cap1) acc W3.drew := ⟨hP3.a, hP3.b, hP3.c, hP3.own, hP3.below.drew, hP3.size⟩
                unfold RuleRes at hRW
                go_upto_region 13 with (fail)
                cases hrp : ruleP ((p : Int) + (bs.size : Int)) (y :: us) with
                | error f =>
                  rw [hrp] at hRW hgg
                  have hRF : Calls Tryz.prog 47 #[.pointer (some ⟨r, 0, none⟩)] W3.drew fun en w' => Faulted W3.drew.heap.size f en w' ∧ Touch r W3.drew w' := hRW
                  have hpe : parseP s.data.toList = .error f := hpp.trans (hgo'.out.trans hgg)
                  clear hRW hgg
                  have ca' : W3.drew.cell? ⟨w.heap.size, 0, none⟩ = some (.slice A1 acc.length cap1) := ca
                  refine wp_region_any (by kernel_rfl) ?_
                  change wpAny _ _ _ _ _ _ _ (World.drew _)
                  refine wpAny_ready (rs := [0, 1]) (by kernel_rfl) (by simp) ?_
                  refine AllReady.cons rfl (fun K hK => ?_) (AllReady.cons rfl (fun K hK => ?_) AllReady.nil)
                  · go_simp
                    refine hK _ _ ?_
                    clear hK K
                    refine wpAny_ready (rs := [1]) (by kernel_rfl) (by simp) (AllReady.cons rfl (fun K hK => ?_) AllReady.nil)
                    go_simp
                    refine hK _ _ ?_
                    clear hK K
                    refine wpAny_ready (rs := [2]) (by kernel_rfl) (by simp) (AllReady.cons rfl (fun K hK => ?_) AllReady.nil)
                    go_simp
                    go_wp2_with (go_at_call 47; refine hRF.mono ?_; rintro en w3 ⟨⟨q, hq, rfl, hcc⟩, hT3⟩; exact door_panic (hP3d.touch hT3 hr3 hvr).a (hP3d.touch hT3 hr3 hvr).b (hP3d.touch hT3 hr3 hvr).below (Nat.le_trans hP3d.size hq) hcc hpe rfl rfl)
                  · go_simp
                    refine hK _ _ ?_
                    clear hK K
                    refine wpAny_ready (rs := [0, 2]) (by kernel_rfl) (by simp) (AllReady.cons rfl (fun K hK => ?_) (AllReady.cons rfl (fun K hK => ?_) AllReady.nil))
                    · go_simp
                      refine hK _ _ ?_
                      clear hK K
                      refine wpAny_ready (rs := [2]) (by kernel_rfl) (by simp) (AllReady.cons rfl (fun K hK => ?_) AllReady.nil)
                      go_simp
                      go_wp2_with (go_at_call 47; refine hRF.mono ?_; rintro en w3 ⟨⟨q, hq, rfl, hcc⟩, hT3⟩; exact door_panic (hP3d.touch hT3 hr3 hvr).a (hP3d.touch hT3 hr3 hvr).b (hP3d.touch hT3 hr3 hvr).below (Nat.le_trans hP3d.size hq) hcc hpe rfl rfl)
                    · go_simp
                      go_wp2_with (go_at_call 47; refine hRF.mono ?_; rintro en w3 ⟨⟨q, hq, rfl, hcc⟩, hT3⟩; exact door_panic (hP3d.touch hT3 hr3 hvr).a (hP3d.touch hT3 hr3 hvr).b (hP3d.touch hT3 hr3 hvr).below (Nat.le_trans hP3d.size hq) hcc hpe rfl rfl)
                | ok x =>
                  rw [hrp] at hRW hgg
                  obtain ⟨t0, t1, t2, t3, t4, t5⟩ := x
                  have hRO : Calls Tryz.prog 47 #[.pointer (some ⟨r, 0, none⟩)] W3.drew fun en w' => en = .returned (.agg #[.string t0, .bool t1, .bool t2, .bool t3, .int .u16 t4, .int .i64 t5]) ∧ Touch r W3.drew w' := hRW
                  have hgk : goL p (bs.data.toList :: rest) acc = goL ((p + bs.size + 1 : Nat) : Int) rest (acc ++ [⟨t0, t1, t2, t3, t4, t5⟩]) := hgg
                  have HL : acc.length + 1 ≤ maxLen := by simp only [maxLen]; omega
                  have HM : (acc.length + 1) * 40 ≤ 140737488355328 := by omega
                  have fa := Lib.frozen_of_heap hP3d.a 0
                  have ca0 : W3.drew.cell? ⟨w.heap.size, 0, none⟩ = some (.slice A1 acc.length cap1) := ca
                  clear hRW hgg hE3
                  refine wp_region_any (by kernel_rfl) ?_
                  change wpAny _ _ _ _ _ _ _ (World.drew _)
                  refine wpAny_ready (rs := [0, 1]) (by kernel_rfl) (by simp) ?_
                  refine AllReady.cons rfl (fun K hK => ?_) (AllReady.cons rfl (fun K hK => ?_) AllReady.nil)
                  · go_simp
                    refine hK _ _ ?_
                    clear hK K
                    refine wpAny_ready (rs := [1]) (by kernel_rfl) (by simp) (AllReady.cons rfl (fun K hK => ?_) AllReady.nil)
                    go_simp
                    refine hK _ _ ?_
                    clear hK K
                    refine wpAny_ready (rs := [2]) (by kernel_rfl) (by simp) (AllReady.cons rfl (fun K hK => ?_) AllReady.nil)
                    go_simp
                    go_wp2_with (go_at_call 47; refine (hidC hRO).mono ?_)
                    intro en w3 hh
                    obtain ⟨rfl, hT3⟩ := hh.out
                    clear hh
                    refine hK _ _ ?_
                    clear hK K
                    have hP4 := hP3d.touch hT3 hr3 hvr
                    refine wpAny_ready (rs := [3]) (by kernel_rfl) (by simp) (AllReady.cons rfl (fun K hK => ?_) AllReady.nil)
                    go_simp
                    refine hK _ _ ?_
                    clear hK K
                    refine wpAny_ready (rs := [4]) (by kernel_rfl) (by simp) (AllReady.cons rfl (fun K hK => ?_) AllReady.nil)
                    refine step_append_lies _ rfl (.tmp 63) (.tmp 66) 22 rfl (w.heap.size + 3) 33 i0 (.agg #[.string ⟨#[]⟩, .bool false, .bool false, .bool false, .int .u16 0, .int .i64 0]) 6 40 Tryz.underlying22 hi hz0' hz1' hz2' rfl (by decide) _ _ _ rfl (hP4.own.alloc _) ⟨w3.heap.size, 0, none⟩ 1 1 [.string t0, .bool t1, .bool t2, .bool t3, .int .u16 t4, .int .i64 t5] rfl rfl (new_cells w3 33 _) (six_one _ _ _ _ _ _) (by decide) HL HM (Nat.le_trans hP4.size (by simp)) _ rfl ?_
                    intro g cap w1 hown' hgrow _ _
                    refine hK _ _ ?_
                    clear hK K
                    have hown2 : w1.ownsRow (w.heap.size + 3) 33 6 (.slice (some ⟨g, 0, none⟩) (acc.length + 1) cap) (acc ++ [⟨t0, t1, t2, t3, t4, t5⟩] : List Rl).length ((acc ++ [⟨t0, t1, t2, t3, t4, t5⟩] : List Rl).flatMap Rl.cells) := by simpa [Rl.cells] using hown'
                    have hB1 := row33_below (Nat.le_trans hP4.size (by simp)) (hP4.own.alloc (Obj.cells #[.string t0, .bool t1, .bool t2, .bool t3, .int .u16 t4, .int .i64 t5] 33)) hgrow
                    have hP5 := hP4.on ((Below.refl _ w3).alloc (Nat.le_refl _) (Obj.cells #[.string t0, .bool t1, .bool t2, .bool t3, .int .u16 t4, .int .i64 t5] 33))
                    have hP6 := hP5.grow hB1 hown2
                    have c6 : w1.cell? ⟨w.heap.size, 0, none⟩ = some (.slice A1 acc.length cap1) := cell_of5 (Below.heapAt hB1 hP5.a (by omega)) 0 rfl
                    have f6 : w1.frozen? ⟨w.heap.size, 0, none⟩ = false := Lib.frozen_of_heap (Below.heapAt hB1 hP5.a (by omega)) 0
                    clear hown' hgrow hP5 hP4
                    refine wpAny_ready (rs := [5]) (by kernel_rfl) (by simp) (AllReady.cons rfl (fun K hK => ?_) AllReady.nil)
                    go_simp
                    refine hK _ _ ?_
                    clear hK K
                    refine wpAny_done (by kernel_rfl) ?_ _
                    go_wp2
                    go_roundw
                    case rel => exact ⟨j + 1, p + bs.size + 1, acc ++ [⟨t0, t1, t2, t3, t4, t5⟩], _, by omega, by go_num, congrArg (Value.int .i64) (by omega), Lib.hid (by rw [hR]; exact hgo'.out.trans hgk), by rw [hR]; omega, by simp; omega, hP6⟩
                    case measure => simp [intOf]; omega
                  · go_simp
                    refine hK _ _ ?_
                    clear hK K
                    refine wpAny_ready (rs := [0, 2]) (by kernel_rfl) (by simp) (AllReady.cons rfl (fun K hK => ?_) (AllReady.cons rfl (fun K hK => ?_) AllReady.nil))
                    · go_simp
                      refine hK _ _ ?_
                      clear hK K
                      refine wpAny_ready (rs := [2]) (by kernel_rfl) (by simp) (AllReady.cons rfl (fun K hK => ?_) AllReady.nil)
                      go_simp
                      go_wp2_with (go_at_call 47; refine (hidC hRO).mono ?_)
                      intro en w3 hh
                      obtain ⟨rfl, hT3⟩ := hh.out
                      clear hh
                      refine hK _ _ ?_
                      clear hK K
                      have hP4 := hP3d.touch hT3 hr3 hvr
                      refine wpAny_ready (rs := [3]) (by kernel_rfl) (by simp) (AllReady.cons rfl (fun K hK => ?_) AllReady.nil)
                      go_simp
                      refine hK _ _ ?_
                      clear hK K
                      refine wpAny_ready (rs := [4]) (by kernel_rfl) (by simp) (AllReady.cons rfl (fun K hK => ?_) AllReady.nil)
                      refine step_append_lies _ rfl (.tmp 63) (.tmp 66) 22 rfl (w.heap.size + 3) 33 i0 (.agg #[.string ⟨#[]⟩, .bool false, .bool false, .bool false, .int .u16 0, .int .i64 0]) 6 40 Tryz.underlying22 hi hz0' hz1' hz2' rfl (by decide) _ _ _ rfl (hP4.own.alloc _) ⟨w3.heap.size, 0, none⟩ 1 1 [.string t0, .bool t1, .bool t2, .bool t3, .int .u16 t4, .int .i64 t5] rfl rfl (new_cells w3 33 _) (six_one _ _ _ _ _ _) (by decide) HL HM (Nat.le_trans hP4.size (by simp)) _ rfl ?_
                      intro g cap w1 hown' hgrow _ _
                      refine hK _ _ ?_
                      clear hK K
                      have hown2 : w1.ownsRow (w.heap.size + 3) 33 6 (.slice (some ⟨g, 0, none⟩) (acc.length + 1) cap) (acc ++ [⟨t0, t1, t2, t3, t4, t5⟩] : List Rl).length ((acc ++ [⟨t0, t1, t2, t3, t4, t5⟩] : List Rl).flatMap Rl.cells) := by simpa [Rl.cells] using hown'
                      have hB1 := row33_below (Nat.le_trans hP4.size (by simp)) (hP4.own.alloc (Obj.cells #[.string t0, .bool t1, .bool t2, .bool t3, .int .u16 t4, .int .i64 t5] 33)) hgrow
                      have hP5 := hP4.on ((Below.refl _ w3).alloc (Nat.le_refl _) (Obj.cells #[.string t0, .bool t1, .bool t2, .bool t3, .int .u16 t4, .int .i64 t5] 33))
                      have hP6 := hP5.grow hB1 hown2
                      have c6 : w1.cell? ⟨w.heap.size, 0, none⟩ = some (.slice A1 acc.length cap1) := cell_of5 (Below.heapAt hB1 hP5.a (by omega)) 0 rfl
                      have f6 : w1.frozen? ⟨w.heap.size, 0, none⟩ = false := Lib.frozen_of_heap (Below.heapAt hB1 hP5.a (by omega)) 0
                      clear hown' hgrow hP5 hP4
                      refine wpAny_ready (rs := [5]) (by kernel_rfl) (by simp) (AllReady.cons rfl (fun K hK => ?_) AllReady.nil)
                      go_simp
                      refine hK _ _ ?_
                      clear hK K
                      refine wpAny_done (by kernel_rfl) ?_ _
                      go_wp2
                      go_roundw
                      case rel => exact ⟨j + 1, p + bs.size + 1, acc ++ [⟨t0, t1, t2, t3, t4, t5⟩], _, by omega, by go_num, congrArg (Value.int .i64) (by omega), Lib.hid (by rw [hR]; exact hgo'.out.trans hgk), by rw [hR]; omega, by simp; omega, hP6⟩
                      case measure => simp [intOf]; omega
                    · go_simp
                      go_wp2_with (go_at_call 47; refine (hidC hRO).mono ?_)
                      intro en w3 hh
                      obtain ⟨rfl, hT3⟩ := hh.out
                      clear hh
                      refine hK _ _ ?_
                      clear hK K
                      have hP4 := hP3d.touch hT3 hr3 hvr
                      have ca3 : w3.cell? ⟨w.heap.size, 0, none⟩ = some (.slice A1 acc.length cap1) := cell_of5 (hP3d.touch hT3 hr3 hvr).a 0 rfl
                      refine wpAny_ready (rs := [0, 3]) (by kernel_rfl) (by simp) (AllReady.cons rfl (fun K hK => ?_) (AllReady.cons rfl (fun K hK => ?_) AllReady.nil))
                      · go_simp
                        refine hK _ _ ?_
                        clear hK K
                        clear ca3
                        refine wpAny_ready (rs := [3]) (by kernel_rfl) (by simp) (AllReady.cons rfl (fun K hK => ?_) AllReady.nil)
                        go_simp
                        refine hK _ _ ?_
                        clear hK K
                        refine wpAny_ready (rs := [4]) (by kernel_rfl) (by simp) (AllReady.cons rfl (fun K hK => ?_) AllReady.nil)
                        refine step_append_lies _ rfl (.tmp 63) (.tmp 66) 22 rfl (w.heap.size + 3) 33 i0 (.agg #[.string ⟨#[]⟩, .bool false, .bool false, .bool false, .int .u16 0, .int .i64 0]) 6 40 Tryz.underlying22 hi hz0' hz1' hz2' rfl (by decide) _ _ _ rfl (hP4.own.alloc _) ⟨w3.heap.size, 0, none⟩ 1 1 [.string t0, .bool t1, .bool t2, .bool t3, .int .u16 t4, .int .i64 t5] rfl rfl (new_cells w3 33 _) (six_one _ _ _ _ _ _) (by decide) HL HM (Nat.le_trans hP4.size (by simp)) _ rfl ?_
                        intro g cap w1 hown' hgrow _ _
                        refine hK _ _ ?_
                        clear hK K
                        have hown2 : w1.ownsRow (w.heap.size + 3) 33 6 (.slice (some ⟨g, 0, none⟩) (acc.length + 1) cap) (acc ++ [⟨t0, t1, t2, t3, t4, t5⟩] : List Rl).length ((acc ++ [⟨t0, t1, t2, t3, t4, t5⟩] : List Rl).flatMap Rl.cells) := by simpa [Rl.cells] using hown'
                        have hB1 := row33_below (Nat.le_trans hP4.size (by simp)) (hP4.own.alloc (Obj.cells #[.string t0, .bool t1, .bool t2, .bool t3, .int .u16 t4, .int .i64 t5] 33)) hgrow
                        have hP5 := hP4.on ((Below.refl _ w3).alloc (Nat.le_refl _) (Obj.cells #[.string t0, .bool t1, .bool t2, .bool t3, .int .u16 t4, .int .i64 t5] 33))
                        have hP6 := hP5.grow hB1 hown2
                        have c6 : w1.cell? ⟨w.heap.size, 0, none⟩ = some (.slice A1 acc.length cap1) := cell_of5 (Below.heapAt hB1 hP5.a (by omega)) 0 rfl
                        have f6 : w1.frozen? ⟨w.heap.size, 0, none⟩ = false := Lib.frozen_of_heap (Below.heapAt hB1 hP5.a (by omega)) 0
                        clear hown' hgrow hP5 hP4
                        refine wpAny_ready (rs := [5]) (by kernel_rfl) (by simp) (AllReady.cons rfl (fun K hK => ?_) AllReady.nil)
                        go_simp
                        refine hK _ _ ?_
                        clear hK K
                        refine wpAny_done (by kernel_rfl) ?_ _
                        go_wp2
                        go_roundw
                        case rel => exact ⟨j + 1, p + bs.size + 1, acc ++ [⟨t0, t1, t2, t3, t4, t5⟩], _, by omega, by go_num, congrArg (Value.int .i64) (by omega), Lib.hid (by rw [hR]; exact hgo'.out.trans hgk), by rw [hR]; omega, by simp; omega, hP6⟩
                        case measure => simp [intOf]; omega
                      · go_simp
                        refine hK _ _ ?_
                        clear hK K
                        refine wpAny_ready (rs := [0]) (by kernel_rfl) (by simp) (AllReady.cons rfl (fun K hK => ?_) AllReady.nil)
                        have ca4 : (w3.alloc (Obj.cells #[.string t0, .bool t1, .bool t2, .bool t3, .int .u16 t4, .int .i64 t5] 33)).cell? ⟨w.heap.size, 0, none⟩ = some (.slice A1 acc.length cap1) := cell_onward ((Below.refl _ w3).alloc (Nat.le_refl _) _) ca3
                        go_simp
                        refine hK _ _ ?_
                        clear hK K
                        clear ca3 ca4
                        refine wpAny_ready (rs := [4]) (by kernel_rfl) (by simp) (AllReady.cons rfl (fun K hK => ?_) AllReady.nil)
                        refine step_append_lies _ rfl (.tmp 63) (.tmp 66) 22 rfl (w.heap.size + 3) 33 i0 (.agg #[.string ⟨#[]⟩, .bool false, .bool false, .bool false, .int .u16 0, .int .i64 0]) 6 40 Tryz.underlying22 hi hz0' hz1' hz2' rfl (by decide) _ _ _ rfl (hP4.own.alloc _) ⟨w3.heap.size, 0, none⟩ 1 1 [.string t0, .bool t1, .bool t2, .bool t3, .int .u16 t4, .int .i64 t5] rfl rfl (new_cells w3 33 _) (six_one _ _ _ _ _ _) (by decide) HL HM (Nat.le_trans hP4.size (by simp)) _ rfl ?_
                        intro g cap w1 hown' hgrow _ _
                        refine hK _ _ ?_
                        clear hK K
                        have hown2 : w1.ownsRow (w.heap.size + 3) 33 6 (.slice (some ⟨g, 0, none⟩) (acc.length + 1) cap) (acc ++ [⟨t0, t1, t2, t3, t4, t5⟩] : List Rl).length ((acc ++ [⟨t0, t1, t2, t3, t4, t5⟩] : List Rl).flatMap Rl.cells) := by simpa [Rl.cells] using hown'
                        have hB1 := row33_below (Nat.le_trans hP4.size (by simp)) (hP4.own.alloc (Obj.cells #[.string t0, .bool t1, .bool t2, .bool t3, .int .u16 t4, .int .i64 t5] 33)) hgrow
                        have hP5 := hP4.on ((Below.refl _ w3).alloc (Nat.le_refl _) (Obj.cells #[.string t0, .bool t1, .bool t2, .bool t3, .int .u16 t4, .int .i64 t5] 33))
                        have hP6 := hP5.grow hB1 hown2
                        have c6 : w1.cell? ⟨w.heap.size, 0, none⟩ = some (.slice A1 acc.length cap1) := cell_of5 (Below.heapAt hB1 hP5.a (by omega)) 0 rfl
                        have f6 : w1.frozen? ⟨w.heap.size, 0, none⟩ = false := Lib.frozen_of_heap (Below.heapAt hB1 hP5.a (by omega)) 0
                        clear hown' hgrow hP5 hP4
                        refine wpAny_ready (rs := [5]) (by kernel_rfl) (by simp) (AllReady.cons rfl (fun K hK => ?_) AllReady.nil)
                        go_simp
                        refine hK _ _ ?_
                        clear hK K
                        refine wpAny_done (by kernel_rfl) ?_ _
                        go_wp2
                        go_roundw
                        case rel => exact ⟨j + 1, p + bs.size + 1, acc ++ [⟨t0, t1, t2, t3, t4, t5⟩], _, by omega, by go_num, congrArg (Value.int .i64) (by omega), Lib.hid (by rw [hR]; exact hgo'.out.trans hgk), by rw [hR]; omega, by simp; omega, hP6⟩
                        case measure => simp [intOf]; omega
      · have hje : j = ls.length := by omega
        have hpe : parseP s.data.toList = .ok acc := by
          rw [hpp, hgo.out, hje, List.drop_length]; rfl
        have ca := cell_of5 hPS'.a 0 rfl
        have cb := cell_of5 hPS'.b 0 rfl
        have fa := Lib.frozen_of_heap hPS'.a 0
        have fb := Lib.frozen_of_heap hPS'.b 0
        obtain ⟨A1, cap1, rfl, hc1, hRA⟩ := rows_new hPS'.own
        clear hgo hsum hc1 hRA
        go_wp2
        refine door_ok (v := .slice A1 acc.length cap1) (acc := acc) ?_ ?_ ((hPS'.below.setCell (p := ⟨w.heap.size, 0, none⟩) (Nat.le_refl _) _).setCell (p := ⟨w.heap.size + 1, 0, none⟩) (Nat.le_succ _) _) (own_setCell (own_setCell hPS'.own _ (fun k hk => ?_)) _ (fun k hk => ?_)) hpe rfl rfl
        · rw [Below.heap_setCell _ _ _ _ (show w.heap.size ≠ w.heap.size + 1 by omega)]
          exact Lib.heap_setCell_same (i := 0) hPS'.a _
        · refine Lib.heap_setCell_same (i := 0) (cs := #[.nilIface]) ?_ _
          rw [Below.heap_setCell _ _ _ _ (show w.heap.size + 1 ≠ w.heap.size by omega)]
          exact hPS'.b
        · have := (hPS'.own.lt k hk).1
          show k ≠ w.heap.size
          omega
        · have := (hPS'.own.lt k hk).1
          show k ≠ w.heap.size + 1
          omega
end Go.Proofs.YtaipemiaphpojaaGreatDoor
