/- style's reader: number. -/
import Derived.Test.YtaipemiaphpojaaGreatDoorTake
import Derived.Test.YtaipemiaphpojaaGreatDoorNum
import Derived.Test.YtaipemiaphpojaaGreatDoorBackP
import Derived.Lib.AppendIntMem
namespace Go.Proofs.YtaipemiaphpojaaGreatDoor
open Go Go.Proofs Go.RowKit Go.Sort
theorem hidC {f : FuncId} {a : Array Value} {w : World} {R : Ending → World → Prop} (h : Calls Tryz.prog f a w R) : Calls Tryz.prog f a w fun e w' => Hid (R e w') := h.mono fun _ _ x => Lib.hid x
/-- What the library's calls want of the memory: the errors' variables, the table of powers. -/
structure Env (w : World) : Prop where
  mx : ∃ m, w.cell? ⟨4, 0, none⟩ = some (.int .i64 m)
  e5 : ErrAt w 5
  e6 : ErrAt w 6
  tab : ∀ w', Below 9 w w' → Lib.TabIs Tryz.prog w' "internal/strconv.uint64pow10" .u64 Lib.pow10Tab
theorem Env.keep {w w' : World} (h : Env w) (hb : Below 9 w w') : Env w' := by
  refine ⟨?_, ?_, ?_, fun w'' hb' => h.tab w'' (hb.trans hb')⟩
  · obtain ⟨m, h1⟩ := h.mx
    exact ⟨m, (hb.cell (p := ⟨4, 0, none⟩) (by decide)).trans h1⟩
  · obtain ⟨ev, h1, h2⟩ := h.e5
    exact ⟨ev, (hb.cell (p := ⟨5, 0, none⟩) (by decide)).trans h1, h2⟩
  · obtain ⟨ev, h1, h2⟩ := h.e6
    exact ⟨ev, (hb.cell (p := ⟨6, 0, none⟩) (by decide)).trans h1, h2⟩
set_option maxHeartbeats 4000000 in
set_option maxRecDepth 1000000 in
theorem fmt_walk (n : Int) (h0 : -9223372036854775808 ≤ n) (h1 : n ≤ 9223372036854775807) (w : World) (ht : Lib.TabIs Tryz.prog w "internal/strconv.uint64pow10" .u64 Lib.pow10Tab) :
    Calls Tryz.prog 90 #[.int .i64 n, .int .i64 10] w fun e w' => e = .returned (.string ⟨(Lib.itoa n).toArray⟩) ∧ Below w.heap.size w w' := by
  go_enter Tryz.func90, Tryz.ntmps90
  go_wp2_with (go_at_call 77; refine (Tryz.internal_strconv_FormatInt_10 n h0 h1 _ ht).mono ?_)
  rintro e w' ⟨rfl, k, os, rfl⟩
  go_wp2
  go_ret
  refine ⟨rfl, ⟨rfl, rfl, rfl, by simp [grow, World.drewN], fun j hj => ?_⟩⟩
  simp [grow, World.drewN, Array.getElem?_append, hj]
abbrev NumS (n : Nat) (w2 : World) (t : ByteArray) (wx : World) : Prop := wx.cell? ⟨n, 0, none⟩ = some (.string t) ∧ Below w2.heap.size w2 wx
theorem numS_on {n : Nat} {w2 wx wy : World} {t : ByteArray} (h : NumS n w2 t wx) (hb : Below wx.heap.size wx wy) : NumS n w2 t wy := ⟨cell_onward hb h.1, h.2.trans (hb.mono h.2.size)⟩
/-- What number does. -/
def NumRes (r : Nat) (e lo hi : Int) (ws : List Wd) (B : Nat) (en : Ending) (w' : World) : Prop := match numberP e lo hi ws with
  | .error f => Faulted B f en w'
  | .ok (n, us) => ∃ ys, Likes ys us ∧ en = .returned (.int .i64 n) ∧ RdAt w' r e ys
set_option maxHeartbeats 4000000 in
set_option maxRecDepth 1000000 in
theorem number_walk (r : Nat) (e lo hi : Int) (hlo : -2147483648 ≤ lo) (hhi : hi ≤ 2147483647) (xs : List SW) (ws : List Wd) (w : World) (h : RdAt w r e xs) (hl : Likes xs ws) (hE : Env w) (hr : 9 ≤ r) (hrw : r < w.heap.size) (hsm : ∀ y ∈ ws, y.text.length ≤ 1048576) :
    Calls Tryz.prog 64 #[.pointer (some ⟨r, 0, none⟩), .int .i64 lo, .int .i64 hi] w fun en w' => NumRes r e lo hi ws w.heap.size en w' ∧ Touch r w w' := by
  have hT := take_walk r e xs ws w h hl
  unfold NumRes
  unfold TakeRes at hT
  cases htk : takeP e ws with
  | error f =>
    rw [htk] at hT
    have hn : numberP e lo hi ws = .error f := by unfold numberP; rw [htk]
    rw [hn]
    go_enter Tryz.func64, Tryz.ntmps64
    go_wp2_with (go_at_call 65; refine (hidC hT).mono ?_)
    intro en w' hh
    obtain ⟨⟨q, hq, rfl, hc⟩, ht⟩ := hh.out
    clear hh
    go_wp2
    exact ⟨rfl, ⟨q, hq, rfl, hc⟩, ht⟩
  | ok p =>
    obtain ⟨y, us⟩ := p
    rw [htk] at hT
    have hn : numberP e lo hi ws = match numP lo hi y.text with | none => .error (230, y.place, y.text) | some n => .ok (n, us) := by unfold numberP; rw [htk]; rfl
    rw [hn]
    have hsmall : (⟨y.text.toArray⟩ : ByteArray).size ≤ 1048576 := by
      show y.text.toArray.size ≤ _
      rw [List.size_toArray]
      exact hsm y (by rw [takeP_inv htk]; simp)
    clear hn htk
    cases hp : Lib.parseIntB 64 y.text with
    | range =>
      rw [numP_bad (by omega) (by omega) (fun n => by rw [hp]; exact fun h => by cases h)]
      have hE0 := hE
      clear hE h hl
      go_enter Tryz.func64, Tryz.ntmps64
      go_wp2_with (go_at_call 65; refine (hidC hT).mono ?_)
      intro en w' hh
      obtain ⟨hx, ht⟩ := hh.out
      clear hh
      obtain ⟨x, hlx, ys, hys, he, hrd⟩ := hx
      obtain ⟨xt, xv, xp, xq, xb⟩ := x
      simp only [SW.cells] at he
      subst he
      obtain ⟨l1, l2, l3, l4, l5⟩ := hlx
      dsimp only at l1 l2
      subst l1
      subst l2
      clear hT l3 l4 l5
      have hE1 : Env w' := hE0.keep (ht.below hr (by omega))
      have hsz := ht.size
      have hN : Boxed (w'.alloc (.cells #[.string ⟨y.text.toArray⟩, .string xv, .int .i64 y.place, .bool xq, .bool xb] 130)) w'.heap.size ⟨⟨y.text.toArray⟩, xv, y.place, xq, xb⟩ := heap_alloc_new _ _
      have hb1 : Below w'.heap.size w' (w'.alloc (.cells #[.string ⟨y.text.toArray⟩, .string xv, .int .i64 y.place, .bool xq, .bool xb] 130)) := (Below.refl _ _).alloc (Nat.le_refl _) _
      have hE2 := hE1.keep (hb1.mono (by omega))
      have hF := fail_e 230 ⟨y.text.toArray⟩ xv y.place xq xb y.text rfl
      go_wp2_with fail
      generalize w'.alloc (.cells #[.string ⟨y.text.toArray⟩, .string xv, .int .i64 y.place, .bool xq, .bool xb] 130) = W1 at hN hb1 hE2 ⊢
      obtain ⟨ev, hv, hev⟩ := hE2.e6
      refine (hidC (Tryz.strconv_ParseInt_10_at64_range ⟨y.text.toArray⟩ (by omega) (by simpa using hp) ev W1 hv hev)).mono ?_
      intro en w2 hh
      obtain ⟨N, rfl, -, -, hb2⟩ := hh.out
      clear hh
      have hN2 := hN.on hb2
      obtain ⟨c0, c1, c2, c3, c4, f0, f1, f4⟩ := hN2.all
      have ht2 := (ht.trans (Touch.of hb1)).trans (Touch.of hb2)
      have hwz := ht2.size
      go_wp2_with fail
      go_quiet ((fail))
      go_wp2_with (go_at_call 46; refine (hidC (hF _)).mono ?_)
      intro en w3 hh
      obtain ⟨⟨q, hq, rfl, hcc⟩, hb3⟩ := hh.out
      clear hh
      go_wp2
      exact ⟨rfl, ⟨q, by have := hwz; change w2.heap.size ≤ q at hq; omega, rfl, hcc⟩, (ht2.trans (Touch.of (Go.Joins.below_draws _ w2 _))).trans (Touch.of hb3)⟩
    | ok v =>
      have hv := Lib.parseIntB_bounds hp
      have h0 : -9223372036854775808 ≤ v := by simpa using hv.1
      have h1 : v ≤ 9223372036854775807 := by have := hv.2; simp at this; omega
      clear hv
      rw [numP_parse (by omega) (by omega) hp]
      by_cases hlow : v < lo
      · rw [if_neg (by omega)]
        have d1 : decide (v < lo) = true := decide_eq_true hlow
        have hE0 := hE
        clear hE h hl
        go_enter Tryz.func64, Tryz.ntmps64
        go_wp2_with (go_at_call 65; refine (hidC hT).mono ?_)
        intro en w' hh
        obtain ⟨hx, ht⟩ := hh.out
        clear hh
        obtain ⟨x, hlx, ys, hys, he, hrd⟩ := hx
        obtain ⟨xt, xv, xp, xq, xb⟩ := x
        simp only [SW.cells] at he
        subst he
        obtain ⟨l1, l2, l3, l4, l5⟩ := hlx
        dsimp only at l1 l2
        subst l1
        subst l2
        clear hT l3 l4 l5
        have hE1 : Env w' := hE0.keep (ht.below hr (by omega))
        have hsz := ht.size
        have hN : Boxed (w'.alloc (.cells #[.string ⟨y.text.toArray⟩, .string xv, .int .i64 y.place, .bool xq, .bool xb] 130)) w'.heap.size ⟨⟨y.text.toArray⟩, xv, y.place, xq, xb⟩ := heap_alloc_new _ _
        have hb1 : Below w'.heap.size w' (w'.alloc (.cells #[.string ⟨y.text.toArray⟩, .string xv, .int .i64 y.place, .bool xq, .bool xb] 130)) := (Below.refl _ _).alloc (Nat.le_refl _) _
        have hE2 := hE1.keep (hb1.mono (by omega))
        have hF := fail_e 230 ⟨y.text.toArray⟩ xv y.place xq xb y.text rfl
        go_wp2_with fail
        generalize w'.alloc (.cells #[.string ⟨y.text.toArray⟩, .string xv, .int .i64 y.place, .bool xq, .bool xb] 130) = W1 at hN hb1 hE2 ⊢
        refine (hidC (Tryz.strconv_ParseInt_10_at64_ok ⟨y.text.toArray⟩ (by omega) v (by simpa using hp) W1)).mono ?_
        intro en w2 hh
        obtain ⟨rfl, hw2⟩ := hh.out
        clear hh
        have hb2 : Below W1.heap.size W1 w2 := by
          rcases hw2 with rfl | ⟨t, rfl⟩
          · exact Below.refl _ _
          · exact Lib.bytesWorld_below _ _ _
        clear hw2
        have hN2 := hN.on hb2
        obtain ⟨c0, c1, c2, c3, c4, f0, f1, f4⟩ := hN2.all
        have ht2 := (ht.trans (Touch.of hb1)).trans (Touch.of hb2)
        have hwz := ht2.size
        go_wp2_with fail
        go_quiet ((fail))
        go_wp2_with (go_at_call 46; refine (hidC (hF _)).mono ?_)
        intro en w3 hh
        obtain ⟨⟨q, hq, rfl, hcc⟩, hb3⟩ := hh.out
        clear hh
        go_wp2
        exact ⟨rfl, ⟨q, by have := hwz; change w2.heap.size ≤ q at hq; omega, rfl, hcc⟩, (ht2.trans (Touch.of (Go.Joins.below_draws _ w2 _))).trans (Touch.of hb3)⟩
      by_cases hhigh : hi < v
      · rw [if_neg (by omega)]
        have d1 : decide (v < lo) = false := decide_eq_false hlow
        have d2 : decide (hi < v) = true := decide_eq_true hhigh
        have hE0 := hE
        clear hE h hl
        go_enter Tryz.func64, Tryz.ntmps64
        go_wp2_with (go_at_call 65; refine (hidC hT).mono ?_)
        intro en w' hh
        obtain ⟨hx, ht⟩ := hh.out
        clear hh
        obtain ⟨x, hlx, ys, hys, he, hrd⟩ := hx
        obtain ⟨xt, xv, xp, xq, xb⟩ := x
        simp only [SW.cells] at he
        subst he
        obtain ⟨l1, l2, l3, l4, l5⟩ := hlx
        dsimp only at l1 l2
        subst l1
        subst l2
        clear hT l3 l4 l5
        have hE1 : Env w' := hE0.keep (ht.below hr (by omega))
        have hsz := ht.size
        have hN : Boxed (w'.alloc (.cells #[.string ⟨y.text.toArray⟩, .string xv, .int .i64 y.place, .bool xq, .bool xb] 130)) w'.heap.size ⟨⟨y.text.toArray⟩, xv, y.place, xq, xb⟩ := heap_alloc_new _ _
        have hb1 : Below w'.heap.size w' (w'.alloc (.cells #[.string ⟨y.text.toArray⟩, .string xv, .int .i64 y.place, .bool xq, .bool xb] 130)) := (Below.refl _ _).alloc (Nat.le_refl _) _
        have hE2 := hE1.keep (hb1.mono (by omega))
        have hF := fail_e 230 ⟨y.text.toArray⟩ xv y.place xq xb y.text rfl
        go_wp2_with fail
        generalize w'.alloc (.cells #[.string ⟨y.text.toArray⟩, .string xv, .int .i64 y.place, .bool xq, .bool xb] 130) = W1 at hN hb1 hE2 ⊢
        refine (hidC (Tryz.strconv_ParseInt_10_at64_ok ⟨y.text.toArray⟩ (by omega) v (by simpa using hp) W1)).mono ?_
        intro en w2 hh
        obtain ⟨rfl, hw2⟩ := hh.out
        clear hh
        have hb2 : Below W1.heap.size W1 w2 := by
          rcases hw2 with rfl | ⟨t, rfl⟩
          · exact Below.refl _ _
          · exact Lib.bytesWorld_below _ _ _
        clear hw2
        have hN2 := hN.on hb2
        obtain ⟨c0, c1, c2, c3, c4, f0, f1, f4⟩ := hN2.all
        have ht2 := (ht.trans (Touch.of hb1)).trans (Touch.of hb2)
        have hwz := ht2.size
        go_wp2_with fail
        go_quiet ((fail))
        go_wp2_with (go_at_call 46; refine (hidC (hF _)).mono ?_)
        intro en w3 hh
        obtain ⟨⟨q, hq, rfl, hcc⟩, hb3⟩ := hh.out
        clear hh
        go_wp2
        exact ⟨rfl, ⟨q, by have := hwz; change w2.heap.size ≤ q at hq; omega, rfl, hcc⟩, (ht2.trans (Touch.of (Go.Joins.below_draws _ w2 _))).trans (Touch.of hb3)⟩
      have d1 : decide (v < lo) = false := decide_eq_false hlow
      have d2 : decide (hi < v) = false := decide_eq_false hhigh
      by_cases hit : Lib.itoa v = y.text
      · rw [if_pos ⟨by omega, by omega, hit⟩]
        have hne : (Lib.itoa v == y.text) = true := by rw [beq_iff_eq]; exact hit
        have hE0 := hE
        clear hE h hl
        go_enter Tryz.func64, Tryz.ntmps64
        go_wp2_with (go_at_call 65; refine (hidC hT).mono ?_)
        intro en w' hh
        obtain ⟨hx, ht⟩ := hh.out
        clear hh
        obtain ⟨x, hlx, ys, hys, he, hrd⟩ := hx
        obtain ⟨xt, xv, xp, xq, xb⟩ := x
        simp only [SW.cells] at he
        subst he
        obtain ⟨l1, l2, l3, l4, l5⟩ := hlx
        dsimp only at l1 l2
        subst l1
        subst l2
        clear hT l3 l4 l5
        have hE1 : Env w' := hE0.keep (ht.below hr (by omega))
        have hsz := ht.size
        have hN : Boxed (w'.alloc (.cells #[.string ⟨y.text.toArray⟩, .string xv, .int .i64 y.place, .bool xq, .bool xb] 130)) w'.heap.size ⟨⟨y.text.toArray⟩, xv, y.place, xq, xb⟩ := heap_alloc_new _ _
        have hb1 : Below w'.heap.size w' (w'.alloc (.cells #[.string ⟨y.text.toArray⟩, .string xv, .int .i64 y.place, .bool xq, .bool xb] 130)) := (Below.refl _ _).alloc (Nat.le_refl _) _
        have hE2 := hE1.keep (hb1.mono (by omega))
        have hF := fail_e 230 ⟨y.text.toArray⟩ xv y.place xq xb y.text rfl
        go_wp2_with fail
        generalize w'.alloc (.cells #[.string ⟨y.text.toArray⟩, .string xv, .int .i64 y.place, .bool xq, .bool xb] 130) = W1 at hN hb1 hE2 ⊢
        refine (hidC (Tryz.strconv_ParseInt_10_at64_ok ⟨y.text.toArray⟩ (by omega) v (by simpa using hp) W1)).mono ?_
        intro en w2 hh
        obtain ⟨rfl, hw2⟩ := hh.out
        clear hh
        have hb2 : Below W1.heap.size W1 w2 := by
          rcases hw2 with rfl | ⟨t, rfl⟩
          · exact Below.refl _ _
          · exact Lib.bytesWorld_below _ _ _
        clear hw2
        have hN2 := hN.on hb2
        obtain ⟨c0, c1, c2, c3, c4, f0, f1, f4⟩ := hN2.all
        have ht2 := (ht.trans (Touch.of hb1)).trans (Touch.of hb2)
        have hwz := ht2.size
        have hE3 := hE2.keep (hb2.mono (by have := hb1.size; omega))
        have hns : w'.heap.size < w2.heap.size := (Array.getElem?_eq_some_iff.1 hN2).1
        have hH : ∀ wx, Below w2.heap.size w2 wx → Lib.TabIs Tryz.prog wx "internal/strconv.uint64pow10" .u64 Lib.pow10Tab := fun wx hbx => hE3.tab wx (hbx.mono (by omega))
        have hS : NumS w'.heap.size w2 ⟨y.text.toArray⟩ w2 := ⟨c0, Below.refl _ _⟩
        clear c0 c1 c2 c3 c4 f0 f1 f4
        go_wp2_with fail
        go_region_held3 (fun wx => wx.cell? ⟨w'.heap.size, 0, none⟩ = some (.string ⟨y.text.toArray⟩) ∧ Below w2.heap.size w2 wx) (first | exact numS_on hS (Below.refl _ _).drew | exact numS_on (by assumption) (by assumption) | assumption)
          (first | (go_at_call 90; refine (fmt_walk v h0 h1 _ (hH _ ?_)).mono ?_; (exact And.right (by assumption)); rintro en wz ⟨rfl, hbi⟩))
        rename_i hHH
        obtain ⟨hz0, hz1⟩ := hHH
        clear hz0 hbi
        clear d1 d2 hne
        go_wp2
        go_ret
        exact ⟨⟨ys, hys, rfl, ((hrd.onward hb1).onward hb2).onward hz1⟩, ht2.trans (Touch.of hz1)⟩
      · rw [if_neg (fun h => hit h.2.2)]
        have hne : (Lib.itoa v == y.text) = false := by rw [beq_eq_false_iff_ne]; exact hit
        have hE0 := hE
        clear hE h hl
        go_enter Tryz.func64, Tryz.ntmps64
        go_wp2_with (go_at_call 65; refine (hidC hT).mono ?_)
        intro en w' hh
        obtain ⟨hx, ht⟩ := hh.out
        clear hh
        obtain ⟨x, hlx, ys, hys, he, hrd⟩ := hx
        obtain ⟨xt, xv, xp, xq, xb⟩ := x
        simp only [SW.cells] at he
        subst he
        obtain ⟨l1, l2, l3, l4, l5⟩ := hlx
        dsimp only at l1 l2
        subst l1
        subst l2
        clear hT l3 l4 l5
        have hE1 : Env w' := hE0.keep (ht.below hr (by omega))
        have hsz := ht.size
        have hN : Boxed (w'.alloc (.cells #[.string ⟨y.text.toArray⟩, .string xv, .int .i64 y.place, .bool xq, .bool xb] 130)) w'.heap.size ⟨⟨y.text.toArray⟩, xv, y.place, xq, xb⟩ := heap_alloc_new _ _
        have hb1 : Below w'.heap.size w' (w'.alloc (.cells #[.string ⟨y.text.toArray⟩, .string xv, .int .i64 y.place, .bool xq, .bool xb] 130)) := (Below.refl _ _).alloc (Nat.le_refl _) _
        have hE2 := hE1.keep (hb1.mono (by omega))
        have hF := fail_e 230 ⟨y.text.toArray⟩ xv y.place xq xb y.text rfl
        go_wp2_with fail
        generalize w'.alloc (.cells #[.string ⟨y.text.toArray⟩, .string xv, .int .i64 y.place, .bool xq, .bool xb] 130) = W1 at hN hb1 hE2 ⊢
        refine (hidC (Tryz.strconv_ParseInt_10_at64_ok ⟨y.text.toArray⟩ (by omega) v (by simpa using hp) W1)).mono ?_
        intro en w2 hh
        obtain ⟨rfl, hw2⟩ := hh.out
        clear hh
        have hb2 : Below W1.heap.size W1 w2 := by
          rcases hw2 with rfl | ⟨t, rfl⟩
          · exact Below.refl _ _
          · exact Lib.bytesWorld_below _ _ _
        clear hw2
        have hN2 := hN.on hb2
        obtain ⟨c0, c1, c2, c3, c4, f0, f1, f4⟩ := hN2.all
        have ht2 := (ht.trans (Touch.of hb1)).trans (Touch.of hb2)
        have hwz := ht2.size
        have hE3 := hE2.keep (hb2.mono (by have := hb1.size; omega))
        have hns : w'.heap.size < w2.heap.size := (Array.getElem?_eq_some_iff.1 hN2).1
        have hH : ∀ wx, Below w2.heap.size w2 wx → Lib.TabIs Tryz.prog wx "internal/strconv.uint64pow10" .u64 Lib.pow10Tab := fun wx hbx => hE3.tab wx (hbx.mono (by omega))
        have hS : NumS w'.heap.size w2 ⟨y.text.toArray⟩ w2 := ⟨c0, Below.refl _ _⟩
        clear c0 c1 c2 c3 c4 f0 f1 f4
        go_wp2_with fail
        go_region_held3 (fun wx => wx.cell? ⟨w'.heap.size, 0, none⟩ = some (.string ⟨y.text.toArray⟩) ∧ Below w2.heap.size w2 wx) (first | exact numS_on hS (Below.refl _ _).drew | exact numS_on (by assumption) (by assumption) | assumption)
          (first | (go_at_call 90; refine (fmt_walk v h0 h1 _ (hH _ ?_)).mono ?_; (exact And.right (by assumption)); rintro en wz ⟨rfl, hbi⟩))
        rename_i hHH
        obtain ⟨hz0, hz1⟩ := hHH
        clear hz0 hbi
        have hNz := hN2.on hz1
        obtain ⟨c0, c1, c2, c3, c4, f0, f1, f4⟩ := hNz.all
        have htz := ht2.trans (Touch.of hz1)
        have hwz' := htz.size
        go_wp2_with (go_at_call 46; refine (hidC (hF _)).mono ?_)
        intro en w3 hh
        obtain ⟨⟨q, hq, rfl, hcc⟩, hb3⟩ := hh.out
        clear hh
        go_wp2
        exact ⟨rfl, ⟨q, by omega, rfl, hcc⟩, htz.trans (Touch.of hb3)⟩
    | _ =>
      rw [numP_bad (by omega) (by omega) (fun n => by rw [hp]; exact fun h => by cases h)]
      have hE0 := hE
      clear hE h hl
      go_enter Tryz.func64, Tryz.ntmps64
      go_wp2_with (go_at_call 65; refine (hidC hT).mono ?_)
      intro en w' hh
      obtain ⟨hx, ht⟩ := hh.out
      clear hh
      obtain ⟨x, hlx, ys, hys, he, hrd⟩ := hx
      obtain ⟨xt, xv, xp, xq, xb⟩ := x
      simp only [SW.cells] at he
      subst he
      obtain ⟨l1, l2, l3, l4, l5⟩ := hlx
      dsimp only at l1 l2
      subst l1
      subst l2
      clear hT l3 l4 l5
      have hE1 : Env w' := hE0.keep (ht.below hr (by omega))
      have hsz := ht.size
      have hN : Boxed (w'.alloc (.cells #[.string ⟨y.text.toArray⟩, .string xv, .int .i64 y.place, .bool xq, .bool xb] 130)) w'.heap.size ⟨⟨y.text.toArray⟩, xv, y.place, xq, xb⟩ := heap_alloc_new _ _
      have hb1 : Below w'.heap.size w' (w'.alloc (.cells #[.string ⟨y.text.toArray⟩, .string xv, .int .i64 y.place, .bool xq, .bool xb] 130)) := (Below.refl _ _).alloc (Nat.le_refl _) _
      have hE2 := hE1.keep (hb1.mono (by omega))
      have hF := fail_e 230 ⟨y.text.toArray⟩ xv y.place xq xb y.text rfl
      go_wp2_with fail
      generalize w'.alloc (.cells #[.string ⟨y.text.toArray⟩, .string xv, .int .i64 y.place, .bool xq, .bool xb] 130) = W1 at hN hb1 hE2 ⊢
      obtain ⟨ev, hv, hev⟩ := hE2.e5
      refine (hidC (Tryz.strconv_ParseInt_10_at64_bad ⟨y.text.toArray⟩ (by omega) (fun v => by rw [show (⟨y.text.toArray⟩ : ByteArray).data.toList = y.text from rfl, hp]; exact fun h => by cases h) (by rw [show (⟨y.text.toArray⟩ : ByteArray).data.toList = y.text from rfl, hp]; exact fun h => by cases h) ev W1 hv hev)).mono ?_
      intro en w2 hh
      obtain ⟨N, rfl, -, -, hb2⟩ := hh.out
      clear hh
      have hN2 := hN.on hb2
      obtain ⟨c0, c1, c2, c3, c4, f0, f1, f4⟩ := hN2.all
      have ht2 := (ht.trans (Touch.of hb1)).trans (Touch.of hb2)
      have hwz := ht2.size
      go_wp2_with fail
      go_quiet ((fail))
      go_wp2_with (go_at_call 46; refine (hidC (hF _)).mono ?_)
      intro en w3 hh
      obtain ⟨⟨q, hq, rfl, hcc⟩, hb3⟩ := hh.out
      clear hh
      go_wp2
      exact ⟨rfl, ⟨q, by have := hwz; change w2.heap.size ≤ q at hq; omega, rfl, hcc⟩, (ht2.trans (Touch.of (Go.Joins.below_draws _ w2 _))).trans (Touch.of hb3)⟩
end Go.Proofs.YtaipemiaphpojaaGreatDoor
