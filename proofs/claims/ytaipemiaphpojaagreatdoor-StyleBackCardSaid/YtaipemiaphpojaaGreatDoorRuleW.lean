/- style's reader: rule. -/
import Derived.Test.YtaipemiaphpojaaGreatDoorNumb
namespace Go.Proofs.YtaipemiaphpojaaGreatDoor
open Go Go.Proofs Go.RowKit
theorem Touch.new {r : Nat} {a w : World} (h : Touch r a w) {n : Nat} (hn : a.heap.size ≤ n) (o : Nat) (u : Value) : Touch r a (w.setCell ⟨n, o, none⟩ u) :=
  ⟨h.os, h.tape, h.output, by simp [World.setCell]; exact h.size, fun k hk hr => by
    rw [Below.heap_setCell _ _ _ _ (show k ≠ n by omega)]
    exact h.block k hk hr⟩
theorem RdAt.set {w : World} {r : Nat} {e : Int} {xs : List SW} (h : RdAt w r e xs) {n : Nat} (hn : r < n) (o : Nat) (u : Value) : RdAt (w.setCell ⟨n, o, none⟩ u) r e xs := by
  obtain ⟨A, cap, h1, h2, h3, h4⟩ := h
  refine ⟨A, cap, by rw [Below.heap_setCell _ _ _ _ (show r ≠ n by omega)]; exact h1, h2, ?_, h4⟩
  rcases h3 with h3 | ⟨ad, e, h3⟩
  · exact .inl h3
  · refine .inr ⟨ad, e, fun i x hi j u hj => ?_⟩
    have := h4 ad e
    have e2 : (ad.add (i * 5 + j)).block = ad.block := by unfold Addr.add; split <;> rfl
    have h5 := h3 i x hi j u hj
    unfold World.cell? at h5 ⊢
    rw [Below.heap_setCell _ _ _ _ (show (ad.add (i * 5 + j)).block ≠ n by omega)]
    exact h5
theorem Env.set {w : World} (h : Env w) {n : Nat} (hn : 9 ≤ n) (o : Nat) (u : Value) : Env (w.setCell ⟨n, o, none⟩ u) := h.keep ((Below.refl _ w).setCell (p := ⟨n, o, none⟩) hn u)
theorem Env.alloc {w : World} (h : Env w) (hn : 9 ≤ w.heap.size) (o : Obj) : Env (w.alloc o) := h.keep ((Below.refl _ w).alloc hn o)
/-- A rule in the box n. -/
def Box33 (w : World) (n : Nat) (x : Rl) : Prop := w.heap[n]? = some (.cells x.cells.toArray 33 (0, 0))
theorem Box33.all {w : World} {n : Nat} {x : Rl} (h : Box33 w n x) : w.cell? ⟨n, 0, none⟩ = some (.string x.text) ∧ w.cell? ⟨n, 1, none⟩ = some (.bool x.plain) ∧ w.cell? ⟨n, 2, none⟩ = some (.bool x.fold) ∧ w.cell? ⟨n, 3, none⟩ = some (.bool x.word) ∧ w.cell? ⟨n, 4, none⟩ = some (.int .u16 x.style) ∧ w.cell? ⟨n, 5, none⟩ = some (.int .i64 x.rank) ∧ (∀ i, w.frozen? ⟨n, i, none⟩ = false) :=
  ⟨cell_of5 h 0 rfl, cell_of5 h 1 rfl, cell_of5 h 2 rfl, cell_of5 h 3 rfl, cell_of5 h 4 rfl, cell_of5 h 5 rfl, fun i => Lib.frozen_of_heap h i⟩
theorem Box33.on {r : Nat} {w w' : World} {n : Nat} {x : Rl} (h : Box33 w n x) (ht : Touch r w w') (hn : n ≠ r) : Box33 w' n x := ht.heap h hn
theorem Box33.at5 {w : World} {n : Nat} {x : Rl} (h : Box33 w n x) (z : Int) : Box33 (w.setCell ⟨n, 5, none⟩ (.int .i64 z)) n { x with rank := z } := Lib.heap_setCell_same (i := 5) h _
theorem Box33.at4 {w : World} {n : Nat} {x : Rl} (h : Box33 w n x) (z : Int) : Box33 (w.setCell ⟨n, 4, none⟩ (.int .u16 z)) n { x with style := z } := Lib.heap_setCell_same (i := 4) h _
theorem Box33.at0 {w : World} {n : Nat} {x : Rl} (h : Box33 w n x) (z : ByteArray) : Box33 (w.setCell ⟨n, 0, none⟩ (.string z)) n { x with text := z } := Lib.heap_setCell_same (i := 0) h _
theorem Box33.at1 {w : World} {n : Nat} {x : Rl} (h : Box33 w n x) (z : Bool) : Box33 (w.setCell ⟨n, 1, none⟩ (.bool z)) n { x with plain := z } := Lib.heap_setCell_same (i := 1) h _
theorem Box33.at2 {w : World} {n : Nat} {x : Rl} (h : Box33 w n x) (z : Bool) : Box33 (w.setCell ⟨n, 2, none⟩ (.bool z)) n { x with fold := z } := Lib.heap_setCell_same (i := 2) h _
theorem Box33.at3 {w : World} {n : Nat} {x : Rl} (h : Box33 w n x) (z : Bool) : Box33 (w.setCell ⟨n, 3, none⟩ (.bool z)) n { x with word := z } := Lib.heap_setCell_same (i := 3) h _
/-- What rule does. -/
def RuleRes (e : Int) (ws : List Wd) (B : Nat) (en : Ending) (w' : World) : Prop := match ruleP e ws with
  | .error f => Faulted B f en w'
  | .ok x => en = .returned (.agg x.cells.toArray)
theorem ruleRes_err {e : Int} {ws : List Wd} {B : Nat} {en : Ending} {w' : World} {f : Flt} (h : ruleP e ws = .error f) (hf : Faulted B f en w') : RuleRes e ws B en w' := by
  unfold RuleRes; rw [h]; exact hf
theorem ruleRes_ok {e : Int} {ws : List Wd} {B : Nat} {en : Ending} {w' : World} {x : Rl} (h : ruleP e ws = .ok x) (hf : en = .returned (.agg x.cells.toArray)) : RuleRes e ws B en w' := by
  unfold RuleRes; rw [h]; exact hf
theorem Box33.set {w : World} {n m : Nat} {x : Rl} (h : Box33 w n x) (hm : n ≠ m) (o : Nat) (u : Value) : Box33 (w.setCell ⟨m, o, none⟩ u) n x := by
  unfold Box33; rw [Below.heap_setCell _ _ _ _ hm]; exact h
theorem ruleP_not {e : Int} {y : Wd} {us : List Wd} (h : y.text ≠ [114, 117, 108, 101]) : ruleP e (y :: us) = .error (230, y.place, y.text) := by
  show (if y.text = [114, 117, 108, 101] then _ else _) = _
  rw [if_neg h]
theorem ruleP_n1 {e : Int} {y : Wd} {us : List Wd} (h : y.text = [114, 117, 108, 101]) {f : Flt} (h1 : numberP e (-2147483648) 2147483647 us = .error f) : ruleP e (y :: us) = .error f := by
  show (if y.text = [114, 117, 108, 101] then _ else _) = _
  rw [if_pos h, h1]
theorem ruleP_n2 {e rank : Int} {y : Wd} {us r1 : List Wd} (h : y.text = [114, 117, 108, 101]) {f : Flt} (h1 : numberP e (-2147483648) 2147483647 us = .ok (rank, r1)) (h2 : numberP e 0 65535 r1 = .error f) : ruleP e (y :: us) = .error f := by
  show (if y.text = [114, 117, 108, 101] then _ else _) = _
  rw [if_pos h, h1]; dsimp only; rw [h2]
theorem ruleP_n3 {e rank style : Int} {y : Wd} {us r1 r2 : List Wd} (h : y.text = [114, 117, 108, 101]) {R : Except Flt Rl} (h1 : numberP e (-2147483648) 2147483647 us = .ok (rank, r1)) (h2 : numberP e 0 65535 r1 = .ok (style, r2)) (h3 : tailP e rank style r2 = R) : ruleP e (y :: us) = R := by
  show (if y.text = [114, 117, 108, 101] then _ else _) = _
  rw [if_pos h, h1]; dsimp only; rw [h2]; exact h3
theorem tailP_t {e rank style : Int} {ws : List Wd} {f : Flt} (h : takeP e ws = .error f) : tailP e rank style ws = .error f := by unfold tailP; rw [h]
theorem tailP_b {e rank style : Int} {ws r : List Wd} {t : Wd} (h : takeP e ws = .ok (t, r)) (hs : t.sort ≠ 1) : tailP e rank style ws = .error (230, t.place, t.text) := by
  unfold tailP; rw [h]; dsimp only; rw [if_neg hs]
theorem tailP_m {e rank style : Int} {ws r s : List Wd} {t z : Wd} (h : takeP e ws = .ok (t, r)) (hs : t.sort = 1) (hf : (flagsP r).2.2.2 = z :: s) : tailP e rank style ws = .error (230, z.place, z.text) := by
  unfold tailP; rw [h]; dsimp only; rw [if_pos hs, hf]
theorem tailP_o {e rank style : Int} {ws r : List Wd} {t : Wd} (h : takeP e ws = .ok (t, r)) (hs : t.sort = 1) (hf : (flagsP r).2.2.2 = []) : tailP e rank style ws = .ok ⟨⟨t.value.toArray⟩, (flagsP r).1, (flagsP r).2.1, (flagsP r).2.2.1, style, rank⟩ := by
  unfold tailP; rw [h]; dsimp only; rw [if_pos hs, hf]
set_option maxHeartbeats 4000000 in
set_option maxRecDepth 1000000 in
theorem rule_walk (r : Nat) (e : Int) (xs : List SW) (y : Wd) (us : List Wd) (w : World) (h : RdAt w r e xs) (hl : Likes xs (y :: us)) (hE : Env w) (hr : 9 ≤ r) (hrw : r < w.heap.size) (hsm : ∀ z ∈ y :: us, z.text.length ≤ 1048576) (hso : ∀ z ∈ y :: us, z.sort ≤ 2) :
    Calls Tryz.prog 47 #[.pointer (some ⟨r, 0, none⟩)] w fun en w' => RuleRes e (y :: us) w.heap.size en w' ∧ Touch r w w' := by
  cases xs with
  | nil => exact hl.elim
  | cons x xs =>
    obtain ⟨A, cap, h1, h2, h3, h4⟩ := h
    obtain ⟨ad, rfl, d0, d1, d2, d3, d4⟩ := word_at h3
    have h4' : ad.block < r := h4 ad rfl
    have hadn : ad.block ≠ w.heap.size := by omega
    have hadn' : ad.block ≠ w.heap.size + 1 := by omega
    have hrn : r ≠ w.heap.size := by omega
    have hrn' : r ≠ w.heap.size + 1 := by omega
    have d0' : ∀ o o', ((w.alloc o).alloc o').cell? ad = some (.string x.text) := fun o o' => cell_onward (Below.alloc (Below.alloc (Below.refl _ w) (Nat.le_refl _) o) (by simp) o') d0
    have d1' : ∀ o o', ((w.alloc o).alloc o').cell? ⟨ad.block, ad.off + 1, none⟩ = some (.string x.value) := fun o o' => cell_onward (Below.alloc (Below.alloc (Below.refl _ w) (Nat.le_refl _) o) (by simp) o') d1
    have d2' : ∀ o o', ((w.alloc o).alloc o').cell? ⟨ad.block, ad.off + 2, none⟩ = some (.int .i64 x.place) := fun o o' => cell_onward (Below.alloc (Below.alloc (Below.refl _ w) (Nat.le_refl _) o) (by simp) o') d2
    have d3' : ∀ o o', ((w.alloc o).alloc o').cell? ⟨ad.block, ad.off + 3, none⟩ = some (.bool x.quoted) := fun o o' => cell_onward (Below.alloc (Below.alloc (Below.refl _ w) (Nat.le_refl _) o) (by simp) o') d3
    have d4' : ∀ o o', ((w.alloc o).alloc o').cell? ⟨ad.block, ad.off + 4, none⟩ = some (.bool x.broken) := fun o o' => cell_onward (Below.alloc (Below.alloc (Below.refl _ w) (Nat.le_refl _) o) (by simp) o') d4
    obtain ⟨xt, xv, xp, xq, xb⟩ := x
    have hlx := hl.1
    obtain ⟨l1, l2, l3, l4, l5⟩ := hlx
    simp only [List.length_cons] at h1 h2
    dsimp only at l1 l2 l3 l4 l5 d0 d1 d2 d3 d4 d0' d1' d2' d3' d4'
    have c0 : w.cell? ⟨r, 0, none⟩ = some (.slice (some ad) (xs.length + 1) cap) := cell_of5 h1 0 rfl
    subst l1
    subst l2
    clear l3 l4 l5
    have hrd0 : RdAt w r e (⟨⟨y.text.toArray⟩, xv, y.place, xq, xb⟩ :: xs) := ⟨_, cap, h1, by simpa using h2, h3, h4⟩
    have hT1 : Touch r w (((w.alloc (Obj.cells #[.string ⟨#[]⟩, .bool false, .bool false, .bool false, .int .u16 0, .int .i64 0] 33)).alloc (Obj.cells #[.string ⟨#[]⟩, .bool false, .bool false, .bool false, .int .u16 0, .int .i64 0] 33)).alloc (Obj.cells #[.string ⟨y.text.toArray⟩, .string xv, .int .i64 y.place, .bool xq, .bool xb] 130)) := (((Touch.refl r w).alloc _).alloc _).alloc _
    have hrd1 : RdAt (((w.alloc (Obj.cells #[.string ⟨#[]⟩, .bool false, .bool false, .bool false, .int .u16 0, .int .i64 0] 33)).alloc (Obj.cells #[.string ⟨#[]⟩, .bool false, .bool false, .bool false, .int .u16 0, .int .i64 0] 33)).alloc (Obj.cells #[.string ⟨y.text.toArray⟩, .string xv, .int .i64 y.place, .bool xq, .bool xb] 130)) r e (⟨⟨y.text.toArray⟩, xv, y.place, xq, xb⟩ :: xs) := ((hrd0.alloc _).alloc _).alloc _
    have hE1 : Env (((w.alloc (Obj.cells #[.string ⟨#[]⟩, .bool false, .bool false, .bool false, .int .u16 0, .int .i64 0] 33)).alloc (Obj.cells #[.string ⟨#[]⟩, .bool false, .bool false, .bool false, .int .u16 0, .int .i64 0] 33)).alloc (Obj.cells #[.string ⟨y.text.toArray⟩, .string xv, .int .i64 y.place, .bool xq, .bool xb] 130)) := ((hE.alloc (by omega) _).alloc (by simp; omega) _).alloc (by simp; omega) _
    have hX : Box33 (((w.alloc (Obj.cells #[.string ⟨#[]⟩, .bool false, .bool false, .bool false, .int .u16 0, .int .i64 0] 33)).alloc (Obj.cells #[.string ⟨#[]⟩, .bool false, .bool false, .bool false, .int .u16 0, .int .i64 0] 33)).alloc (Obj.cells #[.string ⟨y.text.toArray⟩, .string xv, .int .i64 y.place, .bool xq, .bool xb] 130)) (w.heap.size + 1) ⟨⟨#[]⟩, false, false, false, 0, 0⟩ := by
      have := heap_alloc_new (w.alloc (Obj.cells #[.string ⟨#[]⟩, .bool false, .bool false, .bool false, .int .u16 0, .int .i64 0] 33)) (Obj.cells #[.string ⟨#[]⟩, .bool false, .bool false, .bool false, .int .u16 0, .int .i64 0] 33)
      rw [World.size_alloc] at this
      exact heap_onward ((Below.refl _ _).alloc (Nat.le_refl _) _) this
    have hY : Box33 (((w.alloc (Obj.cells #[.string ⟨#[]⟩, .bool false, .bool false, .bool false, .int .u16 0, .int .i64 0] 33)).alloc (Obj.cells #[.string ⟨#[]⟩, .bool false, .bool false, .bool false, .int .u16 0, .int .i64 0] 33)).alloc (Obj.cells #[.string ⟨y.text.toArray⟩, .string xv, .int .i64 y.place, .bool xq, .bool xb] 130)) w.heap.size ⟨⟨#[]⟩, false, false, false, 0, 0⟩ := by
      have := heap_alloc_new w (Obj.cells #[.string ⟨#[]⟩, .bool false, .bool false, .bool false, .int .u16 0, .int .i64 0] 33)
      exact heap_onward ((Below.refl _ _).alloc (Nat.le_refl _) _) (heap_onward ((Below.refl _ _).alloc (Nat.le_refl _) _) this)
    have hN : Boxed (((w.alloc (Obj.cells #[.string ⟨#[]⟩, .bool false, .bool false, .bool false, .int .u16 0, .int .i64 0] 33)).alloc (Obj.cells #[.string ⟨#[]⟩, .bool false, .bool false, .bool false, .int .u16 0, .int .i64 0] 33)).alloc (Obj.cells #[.string ⟨y.text.toArray⟩, .string xv, .int .i64 y.place, .bool xq, .bool xb] 130)) (w.heap.size + 2) ⟨⟨y.text.toArray⟩, xv, y.place, xq, xb⟩ := by
      have := heap_alloc_new ((w.alloc (Obj.cells #[.string ⟨#[]⟩, .bool false, .bool false, .bool false, .int .u16 0, .int .i64 0] 33)).alloc (Obj.cells #[.string ⟨#[]⟩, .bool false, .bool false, .bool false, .int .u16 0, .int .i64 0] 33)) (Obj.cells #[.string ⟨y.text.toArray⟩, .string xv, .int .i64 y.place, .bool xq, .bool xb] 130)
      rw [World.size_alloc, World.size_alloc] at this
      exact this
    have hs1 : w.heap.size + 3 = (((w.alloc (Obj.cells #[.string ⟨#[]⟩, .bool false, .bool false, .bool false, .int .u16 0, .int .i64 0] 33)).alloc (Obj.cells #[.string ⟨#[]⟩, .bool false, .bool false, .bool false, .int .u16 0, .int .i64 0] 33)).alloc (Obj.cells #[.string ⟨y.text.toArray⟩, .string xv, .int .i64 y.place, .bool xq, .bool xb] 130)).heap.size := by simp
    clear hrd0 hE
    go_enter Tryz.func47, Tryz.ntmps47
    go_wp2_with fail
    generalize ((w.alloc (Obj.cells #[.string ⟨#[]⟩, .bool false, .bool false, .bool false, .int .u16 0, .int .i64 0] 33)).alloc (Obj.cells #[.string ⟨#[]⟩, .bool false, .bool false, .bool false, .int .u16 0, .int .i64 0] 33)).alloc (Obj.cells #[.string ⟨y.text.toArray⟩, .string xv, .int .i64 y.place, .bool xq, .bool xb] 130) = W1 at hT1 hrd1 hE1 hX hY hN hs1 ⊢
    clear c0 d0 d1 d2 d3 d4 d0' d1' d2' d3' d4' h1 h2 h3 h4 hadn hadn' h4'
    have hS := said_walk r e [114, 117, 108, 101] _ _ W1 hrd1 hl
    clear hrd1 hl
    by_cases hw : y.text = [114, 117, 108, 101]
    · have hsd : saidP [114, 117, 108, 101] (y :: us) = (true, us) := by show (if y.text = _ then _ else _) = _; rw [if_pos hw]
      rw [hsd] at hS
      refine (hidC hS).mono ?_
      intro en W2 hh
      obtain ⟨rfl, hT2, ys, hys, hrd2⟩ := hh.out
      clear hh hS hN
      have hTa := hT1.trans hT2
      have hE2 := hE1.keep (hT2.below hr (by omega))
      have hX2 := hX.on hT2 (by omega)
      have hY2 := hY.on hT2 (by omega)
      have hz2 := hT2.size
      clear hT1 hT2 hE1 hX hY
      go_wp2_with (go_at_call 64; refine (hidC (number_walk r e (-2147483648) 2147483647 (by decide) (by decide) ys us W2 hrd2 hys hE2 hr (by omega) (fun z hz => hsm z (List.mem_cons_of_mem _ hz)))).mono ?_)
      intro en W3 hh
      obtain ⟨hx, hT3⟩ := hh.out
      clear hh hrd2 hys
      unfold NumRes at hx
      cases hn1 : numberP e (-2147483648) 2147483647 us with
      | error f =>
        rw [hn1] at hx
        obtain ⟨q, hq, rfl, hcc⟩ := (hx : Faulted W2.heap.size f en W3)
        have hR := ruleP_n1 hw hn1
        go_wp2
        exact ⟨rfl, ruleRes_err hR ⟨q, by omega, rfl, hcc⟩, hTa.trans hT3⟩
      | ok p1 =>
        obtain ⟨rank, r1⟩ := p1
        rw [hn1] at hx
        obtain ⟨ys1, hys1, rfl, hrd3⟩ := (hx : ∃ ys, Likes ys r1 ∧ en = .returned (.int .i64 rank) ∧ RdAt W3 r e ys)
        have hTb := hTa.trans hT3
        have hE3 := hE2.keep (hT3.below hr (by omega))
        have hX3 := hX2.on hT3 (by omega)
        have hY3 := hY2.on hT3 (by omega)
        have hz3 := hT3.size
        clear hTa hT3 hE2 hX2 hY2
        obtain ⟨-, -, -, -, -, c5, ff⟩ := hX3.all
        have f5 := ff 5
        have hsm1 : ∀ z ∈ r1, z.text.length ≤ 1048576 := by
          obtain ⟨wq, hwq, -⟩ := numberP_inv hn1
          intro z hz
          exact hsm z (by rw [hwq]; exact List.mem_cons_of_mem _ (List.mem_cons_of_mem _ hz))
        go_wp2_with fail
        have hX4 := hX3.at5 rank
        have hY4 := hY3.set (show w.heap.size ≠ w.heap.size + 1 by omega) 5 (.int .i64 rank)
        have hrd4 := hrd3.set (show r < w.heap.size + 1 by omega) 5 (.int .i64 rank)
        have hE4 := hE3.set (show 9 ≤ w.heap.size + 1 by omega) 5 (.int .i64 rank)
        have hTc := hTb.new (show w.heap.size ≤ w.heap.size + 1 by omega) 5 (.int .i64 rank)
        have hzs : (W3.setCell ⟨w.heap.size + 1, 5, none⟩ (.int .i64 rank)).heap.size = W3.heap.size := by simp
        generalize W3.setCell ⟨w.heap.size + 1, 5, none⟩ (.int .i64 rank) = W4 at hX4 hY4 hrd4 hE4 hTc hzs ⊢
        clear hX3 hY3 hrd3 hE3 hTb
        refine (hidC (number_walk r e 0 65535 (by decide) (by decide) ys1 r1 W4 hrd4 hys1 hE4 hr (by omega) hsm1)).mono ?_
        intro en W5 hh
        obtain ⟨hx, hT5⟩ := hh.out
        clear hh hrd4 hys1 c5 f5 ff
        unfold NumRes at hx
        cases hn2 : numberP e 0 65535 r1 with
        | error f =>
          rw [hn2] at hx
          obtain ⟨q, hq, rfl, hcc⟩ := (hx : Faulted W4.heap.size f en W5)
          have hR := ruleP_n2 hw hn1 hn2
          go_wp2
          exact ⟨rfl, ruleRes_err hR ⟨q, by omega, rfl, hcc⟩, hTc.trans hT5⟩
        | ok p2 =>
          obtain ⟨style, r2⟩ := p2
          rw [hn2] at hx
          obtain ⟨ys2, hys2, rfl, hrd5⟩ := (hx : ∃ ys, Likes ys r2 ∧ en = .returned (.int .i64 style) ∧ RdAt W5 r e ys)
          obtain ⟨wq2, hwq2, hst0, hst1, -⟩ := numberP_inv hn2
          have hsw : IntKind.u16.wrap style = style := IntWalk.u16_in _ (by omega)
          have hTd := hTc.trans hT5
          have hE5 := hE4.keep (hT5.below hr (by omega))
          have hX5 := hX4.on hT5 (by omega)
          have hY5 := hY4.on hT5 (by omega)
          have hz5 := hT5.size
          have hsm2 : ∀ z ∈ r2, z.text.length ≤ 1048576 := fun z hz => hsm1 z (by rw [hwq2]; exact List.mem_cons_of_mem _ hz)
          clear hTc hT5 hE4 hX4 hY4 hwq2
          obtain ⟨-, -, -, -, c4, -, ff⟩ := hX5.all
          have f4 := ff 4
          go_wp2_with fail
          have hX6 := hX5.at4 style
          have hY6 := hY5.set (show w.heap.size ≠ w.heap.size + 1 by omega) 4 (.int .u16 style)
          have hrd6 := hrd5.set (show r < w.heap.size + 1 by omega) 4 (.int .u16 style)
          have hE6 := hE5.set (show 9 ≤ w.heap.size + 1 by omega) 4 (.int .u16 style)
          have hTe := hTd.new (show w.heap.size ≤ w.heap.size + 1 by omega) 4 (.int .u16 style)
          have hzs : (W5.setCell ⟨w.heap.size + 1, 4, none⟩ (.int .u16 style)).heap.size = W5.heap.size := by simp
          generalize W5.setCell ⟨w.heap.size + 1, 4, none⟩ (.int .u16 style) = W6 at hX6 hY6 hrd6 hE6 hTe hzs ⊢
          clear hX5 hY5 hrd5 hE5 hTd
          have hT65 := take_walk r e ys2 r2 W6 hrd6 hys2
          refine (hidC hT65).mono ?_
          intro en W7 hh
          obtain ⟨hx, hT7⟩ := hh.out
          clear hh hrd6 hys2 c4 f4 ff hT65
          unfold TakeRes at hx
          cases htk : takeP e r2 with
          | error f =>
            rw [htk] at hx
            obtain ⟨q, hq, rfl, hcc⟩ := (hx : Faulted W6.heap.size f en W7)
            have hR := ruleP_n3 hw hn1 hn2 (tailP_t htk)
            go_wp2
            exact ⟨rfl, ruleRes_err hR ⟨q, by omega, rfl, hcc⟩, hTe.trans hT7⟩
          | ok p3 =>
            obtain ⟨t, r3⟩ := p3
            rw [htk] at hx
            obtain ⟨x3, ys3, hx3, hys3, rfl, hrd7⟩ := (hx : ∃ x ys, Like x t ∧ Likes ys r3 ∧ en = .returned (.agg x.cells.toArray) ∧ RdAt W7 r e ys)
            obtain ⟨tt, tv, tp, tq, tb⟩ := x3
            obtain ⟨m1, m2, m3, m4, m5⟩ := hx3
            dsimp only at m1 m2 m3 m4 m5
            subst m1
            subst m2
            simp only [SW.cells]
            have hne2 : t.sort ≠ 2 := by
              intro h2
              have h3 := htk
              rw [takeP_inv htk] at h3
              have h4 : takeP e (t :: r3) = .error (230, t.place, t.text) := if_pos h2
              rw [h4] at h3
              cases h3
            have hmt : t ∈ y :: us := by
              obtain ⟨wq1, hwq1, -⟩ := numberP_inv hn1
              obtain ⟨wq2, hwq2, -⟩ := numberP_inv hn2
              rw [hwq1, hwq2, takeP_inv htk]; simp
            have hts := hso t hmt
            have hTf := hTe.trans hT7
            have hX7 := hX6.on hT7 (by omega)
            have hY7 := hY6.on hT7 (by omega)
            have hz7 := hT7.size
            have hN8 : Boxed (W7.alloc (.cells #[.string ⟨t.text.toArray⟩, .string tv, .int .i64 t.place, .bool tq, .bool tb] 130)) W7.heap.size ⟨⟨t.text.toArray⟩, tv, t.place, tq, tb⟩ := heap_alloc_new _ _
            have hb8 : Below W7.heap.size W7 (W7.alloc (.cells #[.string ⟨t.text.toArray⟩, .string tv, .int .i64 t.place, .bool tq, .bool tb] 130)) := (Below.refl _ _).alloc (Nat.le_refl _) _
            have hX8 : Box33 (W7.alloc (.cells #[.string ⟨t.text.toArray⟩, .string tv, .int .i64 t.place, .bool tq, .bool tb] 130)) (w.heap.size + 1) _ := heap_onward hb8 hX7
            have hY8 : Box33 (W7.alloc (.cells #[.string ⟨t.text.toArray⟩, .string tv, .int .i64 t.place, .bool tq, .bool tb] 130)) w.heap.size _ := heap_onward hb8 hY7
            have hrd8 := hrd7.onward hb8
            have hTg := hTf.trans (Touch.of hb8)
            have hz8 : (W7.alloc (.cells #[.string ⟨t.text.toArray⟩, .string tv, .int .i64 t.place, .bool tq, .bool tb] 130)).heap.size = W7.heap.size + 1 := by simp
            clear hTe hT7 hE6 hX6 hY6 hX7 hY7 hrd7 hTf
            have HM := Lib.hid (And.intro m3 (And.intro m4 m5))
            clear m3 m4 m5
            go_upto_region 8 with (fail)
            obtain ⟨m3, m4, m5⟩ := HM.out
            clear HM
            obtain ⟨n3, hn3⟩ : ∃ n3, n3 = W7.heap.size := ⟨_, rfl⟩
            generalize W7.alloc (.cells #[.string ⟨t.text.toArray⟩, .string tv, .int .i64 t.place, .bool tq, .bool tb] 130) = W8 at hN8 hb8 hX8 hY8 hrd8 hTg hz8 ⊢
            rw [← hn3] at hN8 hz8 hz7 ⊢
            have hn3r : r < n3 := by omega
            have hn3w : w.heap.size + 1 < n3 := by omega
            clear hn3
            obtain ⟨c0, c1, c2, c3, c4, f0, f1, f4⟩ := hN8.all
            by_cases hs1' : t.sort = 1
            · have hq1 : tq = true := by rw [m3, hs1']; rfl
              subst hq1
              obtain rfl := m5 hne2
              obtain ⟨x0, -, -, -, -, -, ff⟩ := hX8.all
              have ff0 := ff 0
              dsimp only at x0 c1 c3
              clear c0 c2 c4 f0 f1 f4 hb8
              clear m3 m4 m5
              go_wp2_with fail
              clear hN8 c1 c3
              have z1 := hX8.at0 ⟨t.value.toArray⟩
              have z2 := hY8.set (show w.heap.size ≠ w.heap.size + 1 by omega) 0 (.string ⟨t.value.toArray⟩)
              have z3 := hrd8.set (show r < w.heap.size + 1 by omega) 0 (.string ⟨t.value.toArray⟩)
              have z4 := hTg.new (show w.heap.size ≤ w.heap.size + 1 by omega) 0 (.string ⟨t.value.toArray⟩)
              have hzs : (W8.setCell ⟨w.heap.size + 1, 0, none⟩ (.string ⟨t.value.toArray⟩)).heap.size = W8.heap.size := by simp
              generalize W8.setCell ⟨w.heap.size + 1, 0, none⟩ (.string ⟨t.value.toArray⟩) = W9 at z1 z2 z3 z4 hzs ⊢
              clear hX8 hY8 hrd8 hTg x0 ff ff0
              have hS := said_walk r e [112, 108, 97, 105, 110] _ _ W9 z3 hys3
              refine (hidC hS).mono ?_
              intro en V1 hh
              obtain ⟨rfl, hTx, zs1, hzs1, hrd9⟩ := hh.out
              clear hh hS z3 hys3
              obtain ⟨b1, hb1⟩ : ∃ b, b = (saidP [112, 108, 97, 105, 110] r3).1 := ⟨_, rfl⟩
              obtain ⟨s1, hs1⟩ : ∃ s, s = (saidP [112, 108, 97, 105, 110] r3).2 := ⟨_, rfl⟩
              rw [← hs1] at hzs1
              rw [← hb1]
              have hB1 := Lib.hid hb1
              have hC1 := Lib.hid hs1
              clear hb1 hs1
              have v1 := z1.on hTx (by omega)
              have v2 := z2.on hTx (by omega)
              have v4 := z4.trans hTx
              have hzx1 := hTx.size
              clear z1 z2 z4 hTx
              obtain ⟨-, x1, x2, x3, -, -, ff⟩ := v1.all
              have ff1 := ff 1
              dsimp only at x1 x2 x3
              go_wp2_with fail
              have z1 := v1.at1 b1
              have z2 := v2.set (show w.heap.size ≠ w.heap.size + 1 by omega) 1 (.bool b1)
              have z3 := hrd9.set (show r < w.heap.size + 1 by omega) 1 (.bool b1)
              have z4 := v4.new (show w.heap.size ≤ w.heap.size + 1 by omega) 1 (.bool b1)
              have hzy1 : (V1.setCell ⟨w.heap.size + 1, 1, none⟩ (.bool b1)).heap.size = V1.heap.size := by simp
              generalize V1.setCell ⟨w.heap.size + 1, 1, none⟩ (.bool b1) = U1 at z1 z2 z3 z4 hzy1 ⊢
              clear v1 v2 v4 hrd9 x1 x2 x3 ff ff1
              have hS := said_walk r e [102, 111, 108, 100] _ _ U1 z3 hzs1
              refine (hidC hS).mono ?_
              intro en V2 hh
              obtain ⟨rfl, hTx, zs2, hzs2, hrd9⟩ := hh.out
              clear hh hS z3 hzs1
              obtain ⟨b2, hb2⟩ : ∃ b, b = (saidP [102, 111, 108, 100] s1).1 := ⟨_, rfl⟩
              obtain ⟨s2, hs2⟩ : ∃ s, s = (saidP [102, 111, 108, 100] s1).2 := ⟨_, rfl⟩
              rw [← hs2] at hzs2
              rw [← hb2]
              have hB2 := Lib.hid hb2
              have hC2 := Lib.hid hs2
              clear hb2 hs2
              have v1 := z1.on hTx (by omega)
              have v2 := z2.on hTx (by omega)
              have v4 := z4.trans hTx
              have hzx2 := hTx.size
              clear z1 z2 z4 hTx
              obtain ⟨-, x1, x2, x3, -, -, ff⟩ := v1.all
              have ff1 := ff 2
              dsimp only at x1 x2 x3
              go_wp2_with fail
              have z1 := v1.at2 b2
              have z2 := v2.set (show w.heap.size ≠ w.heap.size + 1 by omega) 2 (.bool b2)
              have z3 := hrd9.set (show r < w.heap.size + 1 by omega) 2 (.bool b2)
              have z4 := v4.new (show w.heap.size ≤ w.heap.size + 1 by omega) 2 (.bool b2)
              have hzy2 : (V2.setCell ⟨w.heap.size + 1, 2, none⟩ (.bool b2)).heap.size = V2.heap.size := by simp
              generalize V2.setCell ⟨w.heap.size + 1, 2, none⟩ (.bool b2) = U2 at z1 z2 z3 z4 hzy2 ⊢
              clear v1 v2 v4 hrd9 x1 x2 x3 ff ff1
              have hS := said_walk r e [119, 111, 114, 100] _ _ U2 z3 hzs2
              refine (hidC hS).mono ?_
              intro en V3 hh
              obtain ⟨rfl, hTx, zs3, hzs3, hrd9⟩ := hh.out
              clear hh hS z3 hzs2
              obtain ⟨b3, hb3⟩ : ∃ b, b = (saidP [119, 111, 114, 100] s2).1 := ⟨_, rfl⟩
              obtain ⟨s3, hs3⟩ : ∃ s, s = (saidP [119, 111, 114, 100] s2).2 := ⟨_, rfl⟩
              rw [← hs3] at hzs3
              rw [← hb3]
              have hB3 := Lib.hid hb3
              have hC3 := Lib.hid hs3
              clear hb3 hs3
              have v1 := z1.on hTx (by omega)
              have v2 := z2.on hTx (by omega)
              have v4 := z4.trans hTx
              have hzx3 := hTx.size
              clear z1 z2 z4 hTx
              obtain ⟨-, x1, x2, x3, -, -, ff⟩ := v1.all
              have ff1 := ff 3
              dsimp only at x1 x2 x3
              go_upto_region 14 with (fail)
              have z1 := v1.at3 b3
              have z2 := v2.set (show w.heap.size ≠ w.heap.size + 1 by omega) 3 (.bool b3)
              have z3 := hrd9.set (show r < w.heap.size + 1 by omega) 3 (.bool b3)
              have z4 := v4.new (show w.heap.size ≤ w.heap.size + 1 by omega) 3 (.bool b3)
              have hzy3 : (V3.setCell ⟨w.heap.size + 1, 3, none⟩ (.bool b3)).heap.size = V3.heap.size := by simp
              generalize V3.setCell ⟨w.heap.size + 1, 3, none⟩ (.bool b3) = U3 at z1 z2 z3 z4 hzy3 ⊢
              clear v1 v2 v4 hrd9 x1 x2 x3 ff ff1
              have hfl : flagsP r3 = (b1, b2, b3, s3) := by
                rw [hB1.out, hB2.out, hB3.out, hC3.out, hC2.out, hC1.out]; rfl
              obtain ⟨A2, cap2, q1, q2, q3, q4⟩ := z3
              have k0 : U3.cell? ⟨r, 0, none⟩ = some (.slice A2 zs3.length cap2) := cell_of5 q1 0 rfl
              have hzend : w.heap.size + 3 ≤ U3.heap.size := by omega
              clear hB1 hB2 hB3 hC1 hC2 hC3 hz2 hz3 hz5 hz7 hz8 hzs hzx1 hzx2 hzx3 hzy1 hzy2 hzy3
              cases zs3 with
              | cons xw zs4 =>
                cases s3 with
                | nil => exact hzs3.elim
                | cons sw s4 =>
                  obtain ⟨ad2, rfl, d0, d1, d2, d3, d4⟩ := word_at q3
                  obtain ⟨gt, gv, gp, gq, gb⟩ := xw
                  obtain ⟨n1, n2, -, -, -⟩ := hzs3.1
                  dsimp only at n1 n2 d0 d1 d2 d3 d4
                  subst n1
                  subst n2
                  have hR := ruleP_n3 hw hn1 hn2 (tailP_m (rank := rank) (style := style) htk hs1' (z := sw) (s := s4) (by rw [hfl]))
                  have hF := fail_e 230 ⟨sw.text.toArray⟩ gv sw.place gq gb sw.text rfl
                  simp only [List.length_cons] at k0
                  clear q1 q3 q4 hzs3 hfl
                  go_wp2_with (go_at_call 46; refine (hidC (hF _)).mono ?_)
                  intro en w3 hh
                  obtain ⟨⟨q, hq, rfl, hcc⟩, hb3⟩ := hh.out
                  clear hh
                  go_wp2
                  exact ⟨rfl, ruleRes_err hR ⟨q, by omega, rfl, hcc⟩, z4.trans (Touch.of hb3)⟩
              | nil =>
                cases s3 with
                | cons sw s4 => exact hzs3.elim
                | nil =>
                  have hR := ruleP_n3 hw hn1 hn2 (tailP_o (rank := rank) (style := style) htk hs1' (by rw [hfl]))
                  rw [hfl] at hR
                  obtain ⟨x0, x1, x2, x3, x4, x5, ff⟩ := z1.all
                  obtain ⟨y0, y1, y2, y3, y4, y5, gg⟩ := z2.all
                  dsimp only at x0 x1 x2 x3 x4 x5 y0 y1 y2 y3 y4 y5
                  simp only [List.length_nil] at k0
                  clear q1 q3 q4 hfl
                  have hn01 : w.heap.size ≠ w.heap.size + 1 := by omega
                  go_wp2
                  refine ⟨rfl, .agg #[.string ⟨t.value.toArray⟩, .bool b1, .bool b2, .bool b3, .int .u16 style, .int .i64 rank], ?_, ruleRes_ok hR rfl, ?_⟩
                  · simp [results, Tryz.results47, go_sem, y0, y1, y2, y3, y4, y5]
                  · have hn := Nat.le_refl w.heap.size
                    exact (((((z4.new hn 0 _).new hn 1 _).new hn 2 _).new hn 3 _).new hn 4 _).new hn 5 _
            · have hq0 : tq = false := by rw [m3, show t.sort = 0 by omega]; rfl
              subst hq0
              clear m3 m4 m5
              have hR := ruleP_n3 hw hn1 hn2 (tailP_b (rank := rank) (style := style) htk hs1')
              have hF := fail_e 230 ⟨t.text.toArray⟩ tv t.place false tb t.text rfl
              go_wp2_with (go_at_call 46; refine (hidC (hF _)).mono ?_)
              intro en w3 hh
              obtain ⟨⟨q, hq, rfl, hcc⟩, hb3⟩ := hh.out
              clear hh
              go_wp2
              exact ⟨rfl, ruleRes_err hR ⟨q, by omega, rfl, hcc⟩, hTg.trans (Touch.of' (by omega) hb3)⟩
    · have hsd : saidP [114, 117, 108, 101] (y :: us) = (false, y :: us) := by show (if y.text = _ then _ else _) = _; rw [if_neg hw]
      rw [hsd] at hS
      refine (hidC hS).mono ?_
      intro en W2 hh
      obtain ⟨rfl, hT2, -⟩ := hh.out
      clear hh hS
      have hTa := hT1.trans hT2
      have hN2 : Boxed W2 (w.heap.size + 2) ⟨⟨y.text.toArray⟩, xv, y.place, xq, xb⟩ := hT2.heap hN (by omega)
      have hz2 := hT2.size
      have hR := ruleP_not (e := e) (us := us) hw
      have hF := fail_e 230 ⟨y.text.toArray⟩ xv y.place xq xb y.text rfl
      obtain ⟨c0, c1, c2, c3, c4, f0, f1, f4⟩ := hN2.all
      go_wp2_with (go_at_call 46; refine (hidC (hF _)).mono ?_)
      intro en w3 hh
      obtain ⟨⟨q, hq, rfl, hcc⟩, hb3⟩ := hh.out
      clear hh
      go_wp2
      exact ⟨rfl, ruleRes_err hR ⟨q, by omega, rfl, hcc⟩, hTa.trans (Touch.of hb3)⟩
end Go.Proofs.YtaipemiaphpojaaGreatDoor
