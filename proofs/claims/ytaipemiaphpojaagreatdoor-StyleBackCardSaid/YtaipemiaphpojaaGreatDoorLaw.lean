/- shuttlelaw23.StylePrints: the law says true. -/
import Derived.Test.YtaipemiaphpojaaGreatDoorSame
import Derived.Test.YtaipemiaphpojaaGreatDoorRPrint
import Derived.Laws.AppendOwnNone
namespace Go.Proofs.YtaipemiaphpojaaGreatDoor
open Go Go.Proofs Go.RowKit
theorem info33 : (Tryz.prog.info? 33).map (fun i => (i.zero, i.size, i.bytes)) = some (some (.agg #[.string ⟨#[]⟩, .bool false, .bool false, .bool false, .int .u16 0, .int .i64 0]), 6, 40) := by kernel_rfl
theorem flat_len (l : List Rl) : (l.flatMap Rl.cells).length = l.length * 6 := by
  induction l with
  | nil => rfl
  | cons x xs ih => simp only [List.flatMap_cons, List.length_append, ih, List.length_cons]; simp [Rl.cells]; omega
theorem flat_get (l : List Rl) (i j : Nat) (hj : j < 6) : (l.flatMap Rl.cells)[i * 6 + j]? = (l[i]?).bind (fun r => r.cells[j]?) := by
  induction l generalizing i with
  | nil => simp
  | cons x xs ih =>
    have hx : x.cells.length = 6 := rfl
    rw [List.flatMap_cons]
    cases i with
    | zero => rw [Nat.zero_mul, Nat.zero_add, List.getElem?_append_left (by omega)]; simp
    | succ i =>
      rw [List.getElem?_append_right (by omega), show (i + 1) * 6 + j - x.cells.length = i * 6 + j by omega, ih]
      simp
theorem flat_cell {w : World} {ad : Addr} {l : List Rl} (h : RulesAt w (some ad) l) : ∀ n u, (l.flatMap Rl.cells)[n]? = some u → w.cell? (ad.add n) = some u := by
  intro n u hn
  rw [show n = n / 6 * 6 + n % 6 by omega] at hn ⊢
  rw [flat_get l (n / 6) (n % 6) (by omega)] at hn
  obtain ⟨r, h1, h2⟩ := Option.bind_eq_some_iff.1 hn
  rcases h with rfl | ⟨ad', e, h⟩
  · simp at h1
  · cases e
    exact h _ r h1 _ u h2
theorem flat_one (l : List Rl) : ∀ u ∈ l.flatMap Rl.cells, u.oneCell' = true := by
  intro u hu
  obtain ⟨r, _, h⟩ := List.mem_flatMap.1 hu
  simp only [Rl.cells, List.mem_cons, List.not_mem_nil, or_false] at h
  rcases h with rfl | rfl | rfl | rfl | rfl | rfl <;> rfl
theorem rows_new {w : World} {B : Nat} {v : Value} {l : List Rl} (h : w.ownsRow B 33 6 v l.length (l.flatMap Rl.cells)) : ∃ A cap, v = .slice A l.length cap ∧ l.length ≤ cap ∧ RulesAt w A l := by
  rcases h.2 with ⟨rfl, h0⟩ | ⟨g, cap, cur, rfl, hb, hg, h1, h2, h3, h4⟩
  · exact ⟨none, 0, by rw [h0], by omega, .inl (List.length_eq_zero_iff.1 h0)⟩
  · refine ⟨_, cap, rfl, h1, .inr ⟨_, rfl, fun i r hi j u hj => ?_⟩⟩
    have hjl : j < 6 := (List.getElem?_eq_some_iff.1 hj).1
    have hil : i < l.length := (List.getElem?_eq_some_iff.1 hi).1
    have e1 : cur[i * 6 + j]? = some u := by
      have h5 : (cur.toList.take (l.length * 6))[i * 6 + j]? = (l.flatMap Rl.cells)[i * 6 + j]? := by rw [h4]
      rw [List.getElem?_take_of_lt (by omega), flat_get l i j hjl, hi] at h5
      simpa [hj] using h5
    unfold Addr.add
    by_cases hz : i * 6 + j = 0
    · rw [if_pos hz]; unfold World.cell?; rw [hg]; simpa [hz] using e1
    · rw [if_neg hz]; unfold World.cell?; simp only [Nat.zero_add]; rw [hg]; simpa using e1
abbrev LS (w : World) (A A1 : Option Addr) (l : List Rl) (w' : World) : Prop := RulesAt w' A1 l ∧ RulesAt w' A l ∧ Below w.heap.size w w'
theorem LS.on {w : World} {A A1 : Option Addr} {l : List Rl} {w1 w2 : World} (h : LS w A A1 l w1) (hb : Below w1.heap.size w1 w2) : LS w A A1 l w2 :=
  ⟨h.1.onward hb, h.2.1.onward hb, h.2.2.trans (hb.mono h.2.2.size)⟩
theorem row33_below {w w' : World} {B : Nat} {v : Value} {n : Nat} {xs : List Value} (hb : B ≤ w.heap.size) (hown : w.ownsRow B 33 6 v n xs) (hg : w.grownBy w' v.ownBlock) : Below B w w' :=
  (Below.refl B w).grown hg hb fun k hk => (hown.lt k hk).1
/-- What comes after the copy. -/
def Rest (w : World) : Prop := ∀ w', Below w.heap.size w w' → Calls Tryz.prog 10 #[] w' fun e w'' => e = .returned (.bool true) ∧ Below w'.heap.size w' w''
set_option maxHeartbeats 4000000 in
set_option maxRecDepth 1000000 in
theorem law_walk (A : Option Addr) (c : Nat) (l : List Rl) (w : World) (hA : A = none → c = 0 ∧ l = []) (hC : RulesAt w A l) (hc : l.length ≤ c) (hk : ∀ r ∈ l, r.ok)
    (ht : Lib.TabBelow Tryz.prog w.heap.size w "internal/strconv.uint64pow10" .u64 Lib.pow10Tab) (hw : Rest w) :
    Calls Tryz.prog 3 #[.slice A l.length c] w fun e w' => e = .returned (.bool true) ∧ Below w.heap.size w w' := by
  obtain ⟨i0, hi, hz0, hz1, hz2⟩ := info_parts info33
  have HK := Lib.hid hk
  clear hk
  go_enter Tryz.func3, Tryz.ntmps3
  go_wp2_with (go_at_call 9; refine (beyond_walk A c l _ hC HK.out).mono ?_)
  rintro e W0 ⟨⟨b, rfl, hbl⟩, hb0⟩
  cases b with
  | true =>
    go_wp2_with (go_at_call 10; refine (hw _ hb0).mono ?_)
    rintro e W1 ⟨rfl, hb1⟩
    go_wp2
    go_ret
    exact ⟨rfl, hb0.trans (hb1.mono hb0.size)⟩
  | false =>
    obtain ⟨hlen, -⟩ := hbl rfl
    clear hbl
    have hC0 := hC.onward hb0
    have HL : 0 + l.length ≤ maxLen := by simp only [maxLen]; omega
    have HB : (0 + l.length) * 40 ≤ 140737488355328 := by omega
    cases A with
    | none =>
      obtain ⟨rfl, rfl⟩ := hA rfl
      go_wp2_with (at_builtin; refine wpList_append_own_none rfl (.const (.slice none 0 0)) (.tmp 11) 22 rfl w.heap.size 33 i0 6 Tryz.underlying22 hi (.slice none 0 0) 0 [] rfl (World.ownsRow_nil _ _ 33 6) rfl ?_)
      have hS : LS w none none [] W0 := ⟨.inl rfl, .inl rfl, hb0⟩
      clear hC hC0 hA HL HB
      go_wp2_with (go_at_call 11; refine (print_walk none 0 [] _ hS.1 (Nat.le_refl _) HK.out (fun w' h => ht w' (hS.2.2.trans (h.mono hS.2.2.size)))).mono ?_)
      rintro e W2 ⟨rfl, hb2⟩
      have hS2 := hS.on hb2
      clear hS hb2
      go_wp2_with (go_at_call 12; refine (rprint_walk none 0 [] _ hS2.2.1 (Nat.le_refl _) HK.out).mono ?_)
      rintro e W3 ⟨rfl, hb3⟩
      have hS3 := hS2.on hb3
      clear hS2 hb3
      go_wp2_with (go_at_call 13; refine (same_walk none none 0 0 [] _ hS3.1 hS3.2.1 hlen).mono ?_)
      rintro e W4 ⟨rfl, hb4⟩
      have hS4 := hS3.on hb4
      clear hS3 hb4
      go_wp2_with (go_at_call 10; refine (hw _ hS4.2.2).mono ?_)
      rintro e W5 ⟨rfl, hb5⟩
      go_wp2
      go_ret
      exact ⟨rfl, hS4.2.2.trans (hb5.mono hS4.2.2.size)⟩
    | some ad =>
      go_wp2_with (at_builtin; refine wpList_append_own _ rfl (.const (.slice none 0 0)) (.tmp 11) 22 rfl w.heap.size 33 i0 _ 6 40 Tryz.underlying22 hi hz0 hz1 hz2 rfl (by decide) (.slice none 0 0) 0 [] rfl (World.ownsRow_nil _ _ 33 6) ad l.length c (l.flatMap Rl.cells) rfl (flat_len l) (flat_cell hC0) (flat_one l) HL HB hb0.size ?_)
      intro v1 W1 hh gg _
      have hb1 : Below w.heap.size w W1 := hb0.trans (row33_below hb0.size (World.ownsRow_nil _ _ 33 6) gg)
      obtain ⟨A1, c1, rfl, hc1, hC1⟩ := rows_new (l := l) (by simpa using hh)
      have hS : LS w (some ad) A1 l W1 := ⟨hC1, hC.onward hb1, hb1⟩
      clear hC hC0 hA HL HB hh gg hb1 hC1
      go_wp2_with (go_at_call 11; refine (print_walk A1 c1 l _ hS.1 hc1 HK.out (fun w' h => ht w' (hS.2.2.trans (h.mono hS.2.2.size)))).mono ?_)
      rintro e W2 ⟨rfl, hb2⟩
      have hS2 := hS.on hb2
      clear hS hb2
      go_wp2_with (go_at_call 12; refine (rprint_walk (some ad) c l _ hS2.2.1 hc HK.out).mono ?_)
      rintro e W3 ⟨rfl, hb3⟩
      have hS3 := hS2.on hb3
      clear hS2 hb3
      go_wp2_with (go_at_call 13; refine (same_walk A1 (some ad) c1 c l _ hS3.1 hS3.2.1 hlen).mono ?_)
      rintro e W4 ⟨rfl, hb4⟩
      have hS4 := hS3.on hb4
      clear hS3 hb4
      go_wp2_with (go_at_call 10; refine (hw _ hS4.2.2).mono ?_)
      rintro e W5 ⟨rfl, hb5⟩
      go_wp2
      go_ret
      exact ⟨rfl, hS4.2.2.trans (hb5.mono hS4.2.2.size)⟩
end Go.Proofs.YtaipemiaphpojaaGreatDoor
