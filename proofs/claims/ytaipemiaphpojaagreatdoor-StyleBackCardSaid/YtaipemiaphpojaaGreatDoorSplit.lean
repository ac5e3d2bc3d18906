/- style.split: a line's words. -/
import Derived.Test.YtaipemiaphpojaaGreatDoorRd
namespace Go.Proofs.YtaipemiaphpojaaGreatDoor
open Go Go.Proofs Go.RowKit
/-- What split hands back. -/
def SplitRes (B : Nat) (ws : List Wd) (e : Ending) (w' : World) : Prop :=
  ∃ (xs : List SW) (A : Option Addr) (cap : Nat), Likes xs ws ∧ e = .returned (.slice A xs.length cap) ∧ xs.length ≤ cap ∧ (∀ ad, A = some ad → ad.block < w'.heap.size) ∧ WordsAt w' A xs
set_option maxHeartbeats 4000000 in
set_option maxRecDepth 1000000 in
theorem split_walk (s : ByteArray) (a : Nat) (w : World) (hs : s.size ≤ 1048576) (ha : a ≤ 1048576) (hv : ErrAt w 5) :
    Calls Tryz.prog 45 #[.string s, .int .i64 a] w fun e w' => SplitRes w.heap.size (words ((a + s.size : Nat) : Int) s.data.toList) e w' ∧ Below w.heap.size w w' := by
  obtain ⟨q0, hi, hz0, hz1, hz2⟩ := info_parts info130
  go_enter Tryz.func45, Tryz.ntmps45
  go_wp2
  go_loopw [5, 6] (fun v i wr => ∃ (k : Nat) (xs : List SW) (us : List Wd), k ≤ s.size ∧ i = .int .i64 k ∧ Likes xs us ∧ xs.length ≤ k ∧ Hid (words ((a + s.size : Nat) : Int) s.data.toList = us ++ words ((a + s.size : Nat) : Int) (s.data.toList.drop k)) ∧ wr.ownsRow w.heap.size 130 5 v xs.length (xs.flatMap SW.cells) ∧ Below w.heap.size w wr) (fun _ i _ => s.size - (intOf i).toNat)
  case atStart => exact ⟨0, [], [], by omega, rfl, trivial, by simp, Lib.hid rfl, World.ownsRow_nil _ _ 130 5, Below.refl _ _⟩
  case round =>
    obtain ⟨k0, xs, us, hk0, rfl, hlk, hxl, hws, hown, hb⟩ := hrel
    obtain ⟨WA, rfl⟩ : ∃ WA, WA = wr := ⟨_, rfl⟩
    obtain ⟨A0, cap0, rfl, hcap0, hbl0, hat0⟩ := words_new hown
    go_wp2
    go_loopw [6] (fun i wr => ∃ (k : Nat), k0 ≤ k ∧ k ≤ s.size ∧ i = .int .i64 k ∧ Hid (words ((a + s.size : Nat) : Int) s.data.toList = us ++ words ((a + s.size : Nat) : Int) (s.data.toList.drop k)) ∧ wr = WA) (fun i _ => s.size - (intOf i).toNat)
    case atStart => exact ⟨k0, by omega, hk0, rfl, hws, rfl⟩
    case round =>
      obtain ⟨k, hk0k, hk, rfl, hws', rfl⟩ := hrel
      clear hws
      have hws := hws'
      clear hws'
      by_cases hlt : k < s.size
      · cases hbk : blk s[k] with
        | true =>
          have hwk : IntKind.i64.wrap ((k : Int) + 1) = ((k + 1 : Nat) : Int) := by rw [IntWalk.i64_in _ (by omega)]; omega
          go_wp2_with (go_at_call 61; refine (isBlank_walk s[k] _).mono ?_; rw [hbk])
          rintro e w' ⟨rfl, rfl⟩
          go_wp2
          go_roundw
          case rel => exact ⟨k + 1, by omega, by omega, rfl, Lib.hid (by rw [hws.out, drop_at s k hlt, words_blank _ _ hbk]), trivial⟩
          case measure => simp [intOf]; omega
        | false =>
          go_wp2_with (go_at_call 61; refine (isBlank_walk s[k] _).mono ?_; rw [hbk])
          rintro e w' ⟨rfl, rfl⟩
          have hne : ((k : Int) == (s.size : Int)) = false := by rw [beq_eq_false_iff_ne]; omega
          have hwa : IntKind.i64.wrap ((a : Int) + (k : Int)) = (a : Int) + (k : Int) := IntWalk.i64_in _ (by omega)
          by_cases h34 : s[k] = 34
          · have e34 : ((s[k].toNat : Int) == 34) = true := (u8_beq s[k] 34).trans (decide_eq_true h34)
            have hq := sunq_walk (s.extract k s.size)
            have hes : (s.extract k s.size).size = s.size - k := by rw [ByteArray.size_extract]; omega
            rw [hes] at hq
            have hdr : (s.extract k s.size).data.toList.drop 1 = s.data.toList.drop (k + 1) := by rw [ext_end, List.drop_drop]
            unfold SUnqRes at hq
            rw [hdr, hes] at hq
            have hdw : (s.data.toList.drop k).dropWhile blk = 34 :: s.data.toList.drop (k + 1) := by rw [drop_at s k hlt, dropWhile_stay _ hbk, h34]
            have hN : Boxed (w'.alloc (.cells #[.string ⟨#[]⟩, .string ⟨#[]⟩, .int .i64 ((a : Int) + (k : Int)), .bool true, .bool false] 130)) w'.heap.size ⟨⟨#[]⟩, ⟨#[]⟩, (a : Int) + (k : Int), true, false⟩ := heap_alloc_new _ _
            have hown1 := hown.alloc (.cells #[.string ⟨#[]⟩, .string ⟨#[]⟩, .int .i64 ((a : Int) + (k : Int)), .bool true, .bool false] 130)
            have hb1 := hb.alloc hb.size (.cells #[.string ⟨#[]⟩, .string ⟨#[]⟩, .int .i64 ((a : Int) + (k : Int)), .bool true, .bool false] 130)
            have hlt1 : w'.heap.size < (w'.alloc (.cells #[.string ⟨#[]⟩, .string ⟨#[]⟩, .int .i64 ((a : Int) + (k : Int)), .bool true, .bool false] 130)).heap.size := by simp
            have hnb : ∀ g, (Value.slice A0 xs.length cap0).ownBlock = some g → g ≠ w'.heap.size := fun g hg => Nat.ne_of_lt (hown.lt g hg).2
            have HV1 := hv.onward hb1
            go_wp2_with fail
            generalize w'.alloc (.cells #[.string ⟨#[]⟩, .string ⟨#[]⟩, .int .i64 ((a : Int) + (k : Int)), .bool true, .bool false] 130) = W1 at hN hown1 hb1 hlt1 HV1 ⊢
            have hnw : w.heap.size ≤ w'.heap.size := hb.size
            clear hown hb
            have HL : xs.length + 1 ≤ maxLen := by simp only [maxLen]; omega
            have HM1 : (xs.length + 1) * 48 ≤ 140737488355328 := by omega
            have hWS := hws.out
            cases hu : unq (s.data.toList.drop (k + 1)) with
            | none =>
              refine (hq W1 (by omega) (by omega) HV1).mono ?_
              rw [hu]
              rintro e W2 ⟨⟨vq, n, rfl⟩, hb2⟩
              have hN2 := hN.on hb2
              obtain ⟨c0, c1, c2, c3, c4, f0, f1, f4⟩ := hN2.all
              have hown2 := own_onward hown1 hb2
              have hb2' := hb1.trans (hb2.mono hb1.size)
              go_upto_region 15 with (fail)
              have hN5 := ((hN2.value vq).broken true).text ⟨#[34]⟩
              have hown5 := own_setCell (own_setCell (own_setCell hown2 (a := ⟨w'.heap.size, 1, none⟩) (.string vq) hnb) (a := ⟨w'.heap.size, 4, none⟩) (.bool true) hnb) (a := ⟨w'.heap.size, 0, none⟩) (.string ⟨#[34]⟩) hnb
              have hb5 := ((hb2'.setCell (p := ⟨w'.heap.size, 1, none⟩) hnw (.string vq)).setCell (p := ⟨w'.heap.size, 4, none⟩) hnw (.bool true)).setCell (p := ⟨w'.heap.size, 0, none⟩) hnw (.string ⟨#[34]⟩)
              generalize (((W2.setCell ⟨w'.heap.size, 1, none⟩ (.string vq)).setCell ⟨w'.heap.size, 4, none⟩ (.bool true)).setCell ⟨w'.heap.size, 0, none⟩ (.string ⟨#[34]⟩)) = W5 at hN5 hown5 hb5 ⊢
              clear c0 c1 c2 c3 c4 f0 f1 f4 hN2 hown2 hb2' hb2 HV1 hown1 hb1 hq hN
              obtain ⟨c0, c1, c2, c3, c4, f0, f1, f4⟩ := hN5.all
              go_wp2_with ((at_builtin; refine wpList_append_own _ rfl (.tmp 50) (.tmp 52) 125 rfl w.heap.size 130 q0 (.agg #[.string ⟨#[]⟩, .string ⟨#[]⟩, .int .i64 0, .bool false, .bool false]) 5 48 Tryz.underlying125 hi hz0 hz1 hz2 rfl (by decide) _ _ _ rfl (hown5.alloc _) ⟨W5.heap.size, 0, none⟩ 1 1 [.string ⟨#[34]⟩, .string vq, .int .i64 ((a : Int) + (k : Int)), .bool true, .bool true] rfl rfl (new_cells W5 130 [.string ⟨#[34]⟩, .string vq, .int .i64 ((a : Int) + (k : Int)), .bool true, .bool true]) (five_one _ _ _ _ _) HL HM1 ((hb5.alloc hb5.size _).size) ?_))
              intro v1 W6 hh gg _
              have hh' : W6.ownsRow w.heap.size 130 5 v1 (xs ++ ([⟨⟨#[34]⟩, vq, (a : Int) + (k : Int), true, true⟩] : List SW)).length ((xs ++ ([⟨⟨#[34]⟩, vq, (a : Int) + (k : Int), true, true⟩] : List SW)).flatMap SW.cells) := by simpa [SW.cells] using hh
              obtain ⟨A, cap, rfl, hcap, hbl, hat⟩ := words_new hh'
              have hb6 := (hb5.alloc hb5.size _).trans (row130_below (hb5.alloc hb5.size _).size (hown5.alloc _) gg)
              rw [words_broken hdw hu] at hWS
              clear hh hh' gg hN5 hown5 hb5 HL HM1 hws
              go_wp2
              go_ret
              exact ⟨⟨_, A, cap, by rw [hWS]; exact hlk.snoc ⟨rfl, by rw [List.length_drop, Array.length_toList]; show (a : Int) + (k : Int) = _ - ((s.size - (k + 1) + 1 : Nat) : Int); omega, rfl, rfl, fun h => absurd rfl h⟩, rfl, hcap, hbl, hat⟩, hb6⟩
            | some p =>
              refine (hq W1 (by omega) (by omega) HV1).mono ?_
              rw [hu]
              rintro e W2 ⟨rfl, hb2⟩
              obtain ⟨⟨u, hu1, hu2⟩, -⟩ := unq_rest _ p hu
              obtain ⟨hsf, hsl⟩ := drop_suffix s (k + 1) u p.2 hu1 (by omega)
              rw [words_quoted hdw hu] at hWS
              have htx : (34 :: s.data.toList.drop (k + 1)).take ((s.data.toList.drop (k + 1)).length + 1 - p.2.length) = (s.extract k (s.size - p.2.length)).data.toList := by
                rw [ext_list, drop_at s k hlt, h34, List.length_drop, Array.length_toList]
                congr 1
                show s.size - (k + 1) + 1 - p.2.length = _
                omega
              rw [htx] at hWS
              have hWQ := Lib.hid hWS
              have hsfh := Lib.hid hsf
              clear hWS htx hsf hu hu1 hdw hdr hes
              obtain ⟨m, hm⟩ : ∃ m, m = s.size - k - p.2.length := ⟨_, rfl⟩
              have hj : s.size - p.2.length = k + m := by omega
              have hjs : k + m ≤ s.size := by omega
              have hm0 : 0 < m := by omega
              have hsl0 : (0 : Int) ≤ (k : Int) + (m : Int) := by omega
              have hsl1 : (k : Int) ≤ (k : Int) + (m : Int) := by omega
              have hsl2 : (k : Int) + (m : Int) ≤ (s.size : Int) := by omega
              have hsl3 : ((k : Int) + (m : Int)).toNat = k + m := by omega
              have hmw : IntKind.i64.wrap ((k : Int) + (m : Int)) = (k : Int) + (m : Int) := IntWalk.i64_in _ (by omega)
              rw [hj] at hWQ hsfh
              rw [← hm]
              clear hm hj
              have hN2 := hN.on hb2
              obtain ⟨c0, c1, c2, c3, c4, f0, f1, f4⟩ := hN2.all
              have hown2 := own_onward hown1 hb2
              have hb2' := hb1.trans (hb2.mono hb1.size)
              go_upto_region 20 with (fail)
              have hN5 := ((hN2.value ⟨p.1.toArray⟩).broken false).text (s.extract k (k + m))
              have hown5 := own_setCell (own_setCell (own_setCell hown2 (a := ⟨w'.heap.size, 1, none⟩) (.string ⟨p.1.toArray⟩) hnb) (a := ⟨w'.heap.size, 4, none⟩) (.bool false) hnb) (a := ⟨w'.heap.size, 0, none⟩) (.string (s.extract k (k + m))) hnb
              have hb5 := ((hb2'.setCell (p := ⟨w'.heap.size, 1, none⟩) hnw (.string ⟨p.1.toArray⟩)).setCell (p := ⟨w'.heap.size, 4, none⟩) hnw (.bool false)).setCell (p := ⟨w'.heap.size, 0, none⟩) hnw (.string (s.extract k (k + m)))
              generalize (((W2.setCell ⟨w'.heap.size, 1, none⟩ (.string ⟨p.1.toArray⟩)).setCell ⟨w'.heap.size, 4, none⟩ (.bool false)).setCell ⟨w'.heap.size, 0, none⟩ (.string (s.extract k (k + m)))) = W5 at hN5 hown5 hb5 ⊢
              clear c0 c1 c2 c3 c4 f0 f1 f4 hN2 hown2 hb2' hb2 HV1 hown1 hb1 hq hN hsl0 hsl1 hsl2 hsl3 hmw
              obtain ⟨c0, c1, c2, c3, c4, f0, f1, f4⟩ := hN5.all
              go_wp2_with (at_builtin; refine wpList_append_own _ rfl (.tmp 75) (.tmp 77) 125 rfl w.heap.size 130 q0 (.agg #[.string ⟨#[]⟩, .string ⟨#[]⟩, .int .i64 0, .bool false, .bool false]) 5 48 Tryz.underlying125 hi hz0 hz1 hz2 rfl (by decide) _ _ _ rfl (hown5.alloc _) ⟨W5.heap.size, 0, none⟩ 1 1 [.string (s.extract k (k + m)), .string ⟨p.1.toArray⟩, .int .i64 ((a : Int) + (k : Int)), .bool true, .bool false] rfl rfl (new_cells W5 130 [.string (s.extract k (k + m)), .string ⟨p.1.toArray⟩, .int .i64 ((a : Int) + (k : Int)), .bool true, .bool false]) (five_one _ _ _ _ _) HL HM1 ((hb5.alloc hb5.size _).size) ?_)
              intro v1 W6 hh gg _
              have hh' : W6.ownsRow w.heap.size 130 5 v1 (xs ++ ([⟨s.extract k (k + m), ⟨p.1.toArray⟩, (a : Int) + (k : Int), true, false⟩] : List SW)).length ((xs ++ ([⟨s.extract k (k + m), ⟨p.1.toArray⟩, (a : Int) + (k : Int), true, false⟩] : List SW)).flatMap SW.cells) := by simpa [SW.cells] using hh
              have hb6 := (hb5.alloc hb5.size _).trans (row130_below (hb5.alloc hb5.size _).size (hown5.alloc _) gg)
              clear hh gg hN5 hown5 hb5 HL HM1 hws c0 c1 c2 c3 c4 f0 f1 f4
              go_wp2
              go_roundw
              case rel =>
                refine ⟨k + m, xs ++ [⟨s.extract k (k + m), ⟨p.1.toArray⟩, (a : Int) + (k : Int), true, false⟩], us ++ [⟨1, (s.extract k (k + m)).data.toList, p.1, ((a + s.size : Nat) : Int) - ((s.data.toList.drop (k + 1)).length + 1 : Nat)⟩], hjs, by go_num, hlk.snoc ⟨bytes_back _, ?_, rfl, rfl, fun _ => rfl⟩, by simp; omega, Lib.hid ?_, hh', hb6⟩
                · rw [List.length_drop, Array.length_toList]; show (a : Int) + (k : Int) = _ - ((s.size - (k + 1) + 1 : Nat) : Int); omega
                · rw [hWQ.out, List.append_assoc, hsfh.out]; rfl
              case measure => simp [intOf]; omega
          · have n34 : ((s[k].toNat : Int) == 34) = false := (u8_beq s[k] 34).trans (decide_eq_false h34)
            have hdw : (s.data.toList.drop k).dropWhile blk = s[k] :: s.data.toList.drop (k + 1) := by rw [drop_at s k hlt, dropWhile_stay _ hbk]
            have hN : Boxed (w'.alloc (.cells #[.string ⟨#[]⟩, .string ⟨#[]⟩, .int .i64 ((a : Int) + (k : Int)), .bool false, .bool false] 130)) w'.heap.size ⟨⟨#[]⟩, ⟨#[]⟩, (a : Int) + (k : Int), false, false⟩ := heap_alloc_new _ _
            have hown1 := hown.alloc (.cells #[.string ⟨#[]⟩, .string ⟨#[]⟩, .int .i64 ((a : Int) + (k : Int)), .bool false, .bool false] 130)
            have hb1 := hb.alloc hb.size (.cells #[.string ⟨#[]⟩, .string ⟨#[]⟩, .int .i64 ((a : Int) + (k : Int)), .bool false, .bool false] 130)
            have hlt1 : w'.heap.size < (w'.alloc (.cells #[.string ⟨#[]⟩, .string ⟨#[]⟩, .int .i64 ((a : Int) + (k : Int)), .bool false, .bool false] 130)).heap.size := by simp
            have hnb : ∀ g, (Value.slice A0 xs.length cap0).ownBlock = some g → g ≠ w'.heap.size := fun g hg => Nat.ne_of_lt (hown.lt g hg).2
            go_wp2_with fail
            generalize w'.alloc (.cells #[.string ⟨#[]⟩, .string ⟨#[]⟩, .int .i64 ((a : Int) + (k : Int)), .bool false, .bool false] 130) = W1 at hN hown1 hb1 hlt1  ⊢
            have hnw : w.heap.size ≤ w'.heap.size := hb.size
            clear hown hb
            have HL : xs.length + 1 ≤ maxLen := by simp only [maxLen]; omega
            have HM1 : (xs.length + 1) * 48 ≤ 140737488355328 := by omega
            have hWS := hws.out
            rw [words_bare hdw h34] at hWS
            have hWQ := Lib.hid hWS
            clear hWS hdw hws
            go_loopw [6] (fun i wr => ∃ (j : Nat), k ≤ j ∧ j ≤ s.size ∧ i = .int .i64 j ∧ Hid (∀ i, k ≤ i → ∀ (_ : i < j) (h : i < s.size), blk (s[i]'h) = false) ∧ wr = W1) (fun i _ => s.size - (intOf i).toNat)
            case atStart => exact ⟨k, by omega, hk, rfl, Lib.hid (fun i h1 h2 => by omega), rfl⟩
            case round =>
              obtain ⟨j, hkj, hjs, rfl, hnb2, hwr⟩ := hrel
              rw [hwr]
              clear hwr
              by_cases hjl : j < s.size
              · cases hbj : blk s[j] with
                | false =>
                  have hwk : IntKind.i64.wrap ((j : Int) + 1) = ((j + 1 : Nat) : Int) := by rw [IntWalk.i64_in _ (by omega)]; omega
                  go_wp2_with (go_at_call 61; refine (isBlank_walk s[j] _).mono ?_; rw [hbj])
                  rintro e wq ⟨rfl, hq⟩
                  rw [hq]
                  clear hq wq
                  go_wp2
                  go_roundw
                  case rel =>
                    refine ⟨j + 1, by omega, by omega, rfl, Lib.hid (fun i h1 h2 h3 => ?_), trivial⟩
                    rcases Nat.lt_or_ge i j with h | h
                    · exact hnb2.out i h1 h h3
                    · obtain rfl : i = j := by omega
                      exact hbj
                  case measure => simp [intOf]; omega
                | true =>
                  go_wp2_with (go_at_call 61; refine (isBlank_walk s[j] _).mono ?_; rw [hbj])
                  rintro e wq ⟨rfl, hq⟩
                  rw [hq]
                  clear hq wq
                  have hend := fun h : j < s.size => hbj
                  have hkj' : k < j := by
                    rcases Nat.lt_or_ge k j with h | h
                    · exact h
                    · exfalso
                      obtain rfl : k = j := by omega
                      have := hend hlt
                      rw [hbk] at this
                      cases this
                  have hbe := bare_end s k j hkj' hjs (fun i h1 h2 => hnb2.out i h1 h2 _) hend
                  have htw : s[k] :: (s.data.toList.drop (k + 1)).takeWhile nb = (s.extract k j).data.toList := by
                    rw [← hbe.1, drop_at s k hlt, List.takeWhile_cons, if_pos (by simp [nb, hbk])]
                  have hdw2 : (s.data.toList.drop (k + 1)).dropWhile nb = s.data.toList.drop j := by
                    rw [← hbe.2, drop_at s k hlt, List.dropWhile_cons, if_pos (by simp [nb, hbk])]
                  have hWR := hWQ.out
                  rw [htw, hdw2] at hWR
                  have hWF := Lib.hid hWR
                  clear hWR hWQ htw hdw2 hbe hend hnb2
                  have hsl0 : (0 : Int) ≤ (j : Int) := by omega
                  have hsl1 : (k : Int) ≤ (j : Int) := by omega
                  have hsl2 : (j : Int) ≤ (s.size : Int) := by omega
                  obtain ⟨c0, c1, c2, c3, c4, f0, f1, f4⟩ := hN.all
                  go_upto_region 20 with (fail)
                  have hN5 := hN.text (s.extract k j)
                  have hown5 := own_setCell hown1 (a := ⟨w'.heap.size, 0, none⟩) (.string (s.extract k j)) hnb
                  have hb5 := hb1.setCell (p := ⟨w'.heap.size, 0, none⟩) hnw (.string (s.extract k j))
                  generalize W1.setCell ⟨w'.heap.size, 0, none⟩ (.string (s.extract k j)) = W5 at hN5 hown5 hb5 ⊢
                  clear c0 c1 c2 c3 c4 f0 f1 f4 hown1 hb1 hN hsl0 hsl1 hsl2
                  obtain ⟨c0, c1, c2, c3, c4, f0, f1, f4⟩ := hN5.all
                  go_wp2_with (at_builtin; refine wpList_append_own _ rfl (.tmp 75) (.tmp 77) 125 rfl w.heap.size 130 q0 (.agg #[.string ⟨#[]⟩, .string ⟨#[]⟩, .int .i64 0, .bool false, .bool false]) 5 48 Tryz.underlying125 hi hz0 hz1 hz2 rfl (by decide) _ _ _ rfl (hown5.alloc _) ⟨W5.heap.size, 0, none⟩ 1 1 [.string (s.extract k j), .string ⟨#[]⟩, .int .i64 ((a : Int) + (k : Int)), .bool false, .bool false] rfl rfl (new_cells W5 130 [.string (s.extract k j), .string ⟨#[]⟩, .int .i64 ((a : Int) + (k : Int)), .bool false, .bool false]) (five_one _ _ _ _ _) HL HM1 ((hb5.alloc hb5.size _).size) ?_)
                  intro v1 W6 hh gg _
                  have hh' : W6.ownsRow w.heap.size 130 5 v1 (xs ++ ([⟨s.extract k j, ⟨#[]⟩, (a : Int) + (k : Int), false, false⟩] : List SW)).length ((xs ++ ([⟨s.extract k j, ⟨#[]⟩, (a : Int) + (k : Int), false, false⟩] : List SW)).flatMap SW.cells) := by simpa [SW.cells] using hh
                  have hb6 := (hb5.alloc hb5.size _).trans (row130_below (hb5.alloc hb5.size _).size (hown5.alloc _) gg)
                  clear hh gg hN5 hown5 hb5 HL HM1 c0 c1 c2 c3 c4 f0 f1 f4
                  go_wp2
                  go_roundw
                  case rel =>
                    refine ⟨j, xs ++ [⟨s.extract k j, ⟨#[]⟩, (a : Int) + (k : Int), false, false⟩], us ++ [⟨0, (s.extract k j).data.toList, [], ((a + s.size : Nat) : Int) - ((s.data.toList.drop (k + 1)).length + 1 : Nat)⟩], hjs, by go_num, hlk.snoc ⟨bytes_back _, ?_, rfl, rfl, fun _ => rfl⟩, by simp; omega, Lib.hid ?_, hh', hb6⟩
                    · rw [List.length_drop, Array.length_toList]; show (a : Int) + (k : Int) = _ - ((s.size - (k + 1) + 1 : Nat) : Int); omega
                    · rw [hWF.out, List.append_assoc]; rfl
                  case measure => simp [intOf]; omega
              · have hend : ∀ h : j < s.size, blk (s[j]'h) = true := fun h => absurd h hjl
                have hkj' : k < j := by
                  rcases Nat.lt_or_ge k j with h | h
                  · exact h
                  · exfalso
                    obtain rfl : k = j := by omega
                    have := hend hlt
                    rw [hbk] at this
                    cases this
                have hbe := bare_end s k j hkj' hjs (fun i h1 h2 => hnb2.out i h1 h2 _) hend
                have htw : s[k] :: (s.data.toList.drop (k + 1)).takeWhile nb = (s.extract k j).data.toList := by
                  rw [← hbe.1, drop_at s k hlt, List.takeWhile_cons, if_pos (by simp [nb, hbk])]
                have hdw2 : (s.data.toList.drop (k + 1)).dropWhile nb = s.data.toList.drop j := by
                  rw [← hbe.2, drop_at s k hlt, List.dropWhile_cons, if_pos (by simp [nb, hbk])]
                have hWR := hWQ.out
                rw [htw, hdw2] at hWR
                have hWF := Lib.hid hWR
                clear hWR hWQ htw hdw2 hbe hend hnb2
                have hsl0 : (0 : Int) ≤ (j : Int) := by omega
                have hsl1 : (k : Int) ≤ (j : Int) := by omega
                have hsl2 : (j : Int) ≤ (s.size : Int) := by omega
                obtain ⟨c0, c1, c2, c3, c4, f0, f1, f4⟩ := hN.all
                go_upto_region 20 with (fail)
                have hN5 := hN.text (s.extract k j)
                have hown5 := own_setCell hown1 (a := ⟨w'.heap.size, 0, none⟩) (.string (s.extract k j)) hnb
                have hb5 := hb1.setCell (p := ⟨w'.heap.size, 0, none⟩) hnw (.string (s.extract k j))
                generalize W1.setCell ⟨w'.heap.size, 0, none⟩ (.string (s.extract k j)) = W5 at hN5 hown5 hb5 ⊢
                clear c0 c1 c2 c3 c4 f0 f1 f4 hown1 hb1 hN hsl0 hsl1 hsl2
                obtain ⟨c0, c1, c2, c3, c4, f0, f1, f4⟩ := hN5.all
                go_wp2_with (at_builtin; refine wpList_append_own _ rfl (.tmp 75) (.tmp 77) 125 rfl w.heap.size 130 q0 (.agg #[.string ⟨#[]⟩, .string ⟨#[]⟩, .int .i64 0, .bool false, .bool false]) 5 48 Tryz.underlying125 hi hz0 hz1 hz2 rfl (by decide) _ _ _ rfl (hown5.alloc _) ⟨W5.heap.size, 0, none⟩ 1 1 [.string (s.extract k j), .string ⟨#[]⟩, .int .i64 ((a : Int) + (k : Int)), .bool false, .bool false] rfl rfl (new_cells W5 130 [.string (s.extract k j), .string ⟨#[]⟩, .int .i64 ((a : Int) + (k : Int)), .bool false, .bool false]) (five_one _ _ _ _ _) HL HM1 ((hb5.alloc hb5.size _).size) ?_)
                intro v1 W6 hh gg _
                have hh' : W6.ownsRow w.heap.size 130 5 v1 (xs ++ ([⟨s.extract k j, ⟨#[]⟩, (a : Int) + (k : Int), false, false⟩] : List SW)).length ((xs ++ ([⟨s.extract k j, ⟨#[]⟩, (a : Int) + (k : Int), false, false⟩] : List SW)).flatMap SW.cells) := by simpa [SW.cells] using hh
                have hb6 := (hb5.alloc hb5.size _).trans (row130_below (hb5.alloc hb5.size _).size (hown5.alloc _) gg)
                clear hh gg hN5 hown5 hb5 HL HM1 c0 c1 c2 c3 c4 f0 f1 f4
                go_wp2
                go_roundw
                case rel =>
                  refine ⟨j, xs ++ [⟨s.extract k j, ⟨#[]⟩, (a : Int) + (k : Int), false, false⟩], us ++ [⟨0, (s.extract k j).data.toList, [], ((a + s.size : Nat) : Int) - ((s.data.toList.drop (k + 1)).length + 1 : Nat)⟩], hjs, by go_num, hlk.snoc ⟨bytes_back _, ?_, rfl, rfl, fun _ => rfl⟩, by simp; omega, Lib.hid ?_, hh', hb6⟩
                  · rw [List.length_drop, Array.length_toList]; show (a : Int) + (k : Int) = _ - ((s.size - (k + 1) + 1 : Nat) : Int); omega
                  · rw [hWF.out, List.append_assoc]; rfl
                case measure => simp [intOf]; omega
      · have hkk : k = s.size := by omega
        have hee : ((k : Int) == (s.size : Int)) = true := by rw [beq_iff_eq]; omega
        have hdn : s.data.toList.drop k = [] := List.drop_eq_nil_of_le (by rw [Array.length_toList]; exact Nat.le_of_eq hkk.symm)
        have hW := hws.out
        rw [hdn, words_nil (l := []) rfl, List.append_nil] at hW
        skip
        clear hws hown
        go_wp2_with fail
        go_ret
        exact ⟨⟨xs, A0, cap0, by rw [hW]; exact hlk, rfl, hcap0, hbl0, hat0⟩, hb⟩
end Go.Proofs.YtaipemiaphpojaaGreatDoor
