/- style.unquote: what it reads. -/
import Derived.Test.YtaipemiaphpojaaGreatDoorUnqP
import Derived.Test.YtaipemiaphpojaaGreatDoorHexu2
import Derived.Test.YtaipemiaphpojaaGreatDoorKeep
import Derived.Deep.RegionWith
import Derived.Deep.QuietTactic
import Derived.BigQuiet
import Derived.OwnWalk
import Derived.Lib.SmallJoins
import Derived.IntWalk
namespace Go.Proofs.YtaipemiaphpojaaGreatDoor
open Go Go.Proofs Go.RowKit
theorem ext_list (s : ByteArray) (a b : Nat) : (s.extract a b).data.toList = (s.data.toList.drop a).take (b - a) := by
  rw [ByteArray.data_extract, Array.toList_extract]
theorem ext_end (s : ByteArray) (j : Nat) : (s.extract j s.size).data.toList = s.data.toList.drop j := by
  rw [ext_list, List.take_of_length_le]
  rw [List.length_drop, Array.length_toList]; exact Nat.le_refl _
theorem hp_at (s : ByteArray) (j : Nat) (c : UInt8) (h : j < s.size) : Lib.hasPrefix (s.extract j s.size).data.toList [c] = decide (s[j] = c) := by
  rw [ext_end, drop_at s j h]
  show (c == s[j] && true) = _
  rw [Bool.and_true, Bool.eq_iff_iff, beq_iff_eq, decide_eq_true_eq]
  exact eq_comm
theorem hp_end (s : ByteArray) (j : Nat) (c : UInt8) (h : ¬ j < s.size) : Lib.hasPrefix (s.extract j s.size).data.toList [c] = false := by
  rw [ext_end, List.drop_eq_nil_of_le (by rw [Array.length_toList]; exact Nat.le_of_not_lt h)]; rfl
theorem hexU_two (a b : UInt8) : hexU 0 [a, b] = if hexP a < 0 ∨ hexP b < 0 then none else some (16 * hexP a + hexP b).toNat := by
  unfold hexU
  by_cases h1 : hexP a < 0
  · rw [if_pos h1, if_pos (.inl h1)]
  · rw [if_neg h1]
    unfold hexU
    by_cases h2 : hexP b < 0
    · rw [if_pos h2, if_pos (.inr h2)]
    · rw [if_neg h2, if_neg (by omega)]
      unfold hexU
      congr 1; omega
theorem hexP_le (c : UInt8) : hexP c ≤ 15 := by
  unfold hexP
  (repeat' split) <;> omega
theorem two_of (s : ByteArray) (k : Nat) (h : k + 3 < s.size) : ((s.extract (k + 1) s.size).extract 1 3).data.toList = [s[k + 2], s[k + 3]] := by
  rw [ext_list, ext_end, List.drop_drop]
  show List.take 2 (s.data.toList.drop (k + 2)) = _
  rw [drop_at s (k + 2) (by omega), drop_at s (k + 2 + 1) (by omega)]
  rfl
def SUnqRes (s : ByteArray) (e : Ending) : Prop := match unq (s.data.toList.drop 1) with
  | some p => e = .returned (.tuple #[.string ⟨p.1.toArray⟩, .int .i64 (s.size - p.2.length : Nat), .bool false])
  | none => ∃ v n, e = .returned (.tuple #[.string v, .int .i64 n, .bool true])
theorem sunqRes_none {s : ByteArray} (h : unq (s.data.toList.drop 1) = none) (v : ByteArray) (n : Int) : SUnqRes s (.returned (.tuple #[.string v, .int .i64 n, .bool true])) := by
  unfold SUnqRes; rw [h]; exact ⟨v, n, rfl⟩
set_option maxRecDepth 100000 in
theorem sunqRes_some {s : ByteArray} {p : List UInt8 × List UInt8} (h : unq (s.data.toList.drop 1) = some p) {n : Int} (hn : n = (s.size - p.2.length : Nat)) : SUnqRes s (.returned (.tuple #[.string ⟨p.1.toArray⟩, .int .i64 n, .bool false])) := by
  subst hn
  unfold SUnqRes
  rw [h]
set_option maxHeartbeats 4000000 in
set_option maxRecDepth 1000000 in
theorem sunq_walk (s : ByteArray) (w : World) (hs : s.size ≤ 1048576) (hi0 : 1 ≤ s.size) (hv : ErrAt w 5) :
    Calls Tryz.prog 62 #[.string s] w fun e w' => SUnqRes s e ∧ Below w.heap.size w w' := by
  go_enter Tryz.func62, Tryz.ntmps62
  go_wp2
  go_loopw [6] (fun i wr => ∃ (k : Nat) (b : List UInt8), k ≤ s.size ∧ i = .int .i64 k ∧ Hid (UnqAt s 1 k b) ∧ b.length ≤ k ∧ Lib.IsBuilderF 72 5 w.heap.size w.heap.size (Lib.byteCells b) wr ∧ Below w.heap.size w wr) (fun i _ => s.size - (intOf i).toNat)
  case atStart => exact ⟨1, [], hi0, rfl, Lib.hid (unqAt_start _ _), by simp, Lib.IsBuilderF.of (Lib.fresh_isBuilder 72 5 w), (Below.refl _ _).alloc (Nat.le_refl _) _⟩
  case round =>
    obtain ⟨k, b, hk, rfl, hu, hbl, hI, hb⟩ := hrel
    obtain ⟨WA, rfl⟩ : ∃ WA, WA = wr := ⟨_, rfl⟩
    have hsz := hb.size
    have hwk : IntKind.i64.wrap ((k : Int) + 1) = (k : Int) + 1 := IntWalk.i64_in _ (by omega)
    by_cases hlt : k < s.size
    · by_cases h34 : s[k] = 34
      · have e34 : ((s[k].toNat : Int) == 34) = true := (u8_beq s[k] 34).trans (decide_eq_true h34)
        have hcl := unq_close s _ k b hu.out hlt h34
        by_cases hend : k + 1 < s.size
        · have hi0 : (0 : Int) ≤ (k : Int) + 1 := by omega
          have hi1 : (k : Int) + 1 < (s.size : Int) := by omega
          have hi2 : ((k : Int) + 1).toNat = k + 1 := by omega
          rw [drop_at s (k + 1) hend] at hcl
          have Hcl := Lib.hid hcl
          clear hcl
          go_wp2_with (go_at_call 31; refine (Builder_String_any_k w.heap.size w.heap.size b _ hI hsz).mono ?_)
          rintro e w' ⟨rfl, -, hbx, -⟩
          go_wp2_with (go_at_call 61; refine (isBlank_walk s[k + 1] _).mono ?_)
          rintro e w'' ⟨rfl, rfl⟩
          go_wp2
          go_ret3
          have hl2 : (s.data.toList.drop (k + 1 + 1)).length = s.size - (k + 2) := by rw [List.length_drop, Array.length_toList]; rfl
          have hB := hb.trans hbx
          cases hbk : blk s[k + 1] with
          | true =>
            have hc2 : unq (s.data.toList.drop 1) = some (b, s[k + 1] :: s.data.toList.drop (k + 1 + 1)) := by rw [Hcl.out]; simp [hbk]
            exact ⟨sunqRes_some (p := (b, _)) hc2 (by rw [List.length_cons, hl2]; omega), hB⟩
          | false =>
            have hc2 : unq (s.data.toList.drop 1) = none := by rw [Hcl.out]; simp [hbk]
            exact ⟨sunqRes_none hc2 _ _, hB⟩
        · have hdn : s.data.toList.drop (k + 1) = [] := List.drop_eq_nil_of_le (by rw [Array.length_toList]; exact Nat.le_of_not_lt hend)
          rw [hdn] at hcl
          have Hcl := Lib.hid hcl
          clear hcl
          have hge : (s.size : Int) ≤ (k : Int) + 1 := by omega
          go_wp2_with (go_at_call 31; refine (Builder_String_any_k w.heap.size w.heap.size b _ hI hsz).mono ?_)
          rintro e w' ⟨rfl, -, hbx, -⟩
          go_wp2
          go_ret3
          exact ⟨sunqRes_some (p := (b, [])) (by simpa using Hcl.out) (by simp; omega), hb.trans hbx⟩
      by_cases h92 : s[k] = 92
      · have e34 : ((s[k].toNat : Int) == 34) = false := (u8_beq s[k] 34).trans (decide_eq_false h34)
        have e92 : ((s[k].toNat : Int) == 92) = true := (u8_beq s[k] 92).trans (decide_eq_true h92)
        have i0 : (0 : Int) ≤ (k : Int) + 1 := by omega
        have i1 : (k : Int) + 1 ≤ (s.size : Int) := by omega
        have i2 : ((k : Int) + 1).toNat = k + 1 := by omega
        have hpf0 : ∀ (c : UInt8) (v : Bool), Lib.hasPrefix (s.extract (k + 1) s.size).data.toList [c] = v → ∀ w, Calls Tryz.prog 87 #[.string (s.extract (k + 1) s.size), .string ⟨#[c]⟩] w fun e w' => e = .returned (.bool v) ∧ w' = w := fun c v h w => by
          have := Tryz.strings_HasPrefix (s.extract (k + 1) s.size) ⟨#[c]⟩ w
          rw [show (⟨#[c]⟩ : ByteArray).data.toList = [c] from rfl, h] at this
          exact this
        have hwk2 : IntKind.i64.wrap ((k : Int) + 1 + 1) = (k : Int) + 1 + 1 := IntWalk.i64_in _ (by omega)
        have hrs : (s.extract (k + 1) s.size).size = s.size - (k + 1) := by rw [ByteArray.size_extract]; omega
        by_cases hk1 : k + 1 < s.size
        · have q34 := hp_at s (k + 1) 34 hk1
          have q92 := hp_at s (k + 1) 92 hk1
          have q110 := hp_at s (k + 1) 110 hk1
          have q116 := hp_at s (k + 1) 116 hk1
          have hr0 : ∀ h, (s.extract (k + 1) s.size)[0]'h = s[k + 1] := fun h => by
            rw [ByteArray.getElem_extract]
          have hr3 : ∀ h : k + 3 < s.size, hexU 0 ((s.extract (k + 1) s.size).extract 1 3).data.toList = if hexP s[k + 2] < 0 ∨ hexP s[k + 3] < 0 then none else some (16 * hexP s[k + 2] + hexP s[k + 3]).toNat := fun h => by
            rw [two_of s k h, hexU_two]
          have hr4 : ((s.extract (k + 1) s.size).extract 1 3).size = min 3 (s.size - (k + 1)) - 1 := by rw [ByteArray.size_extract, hrs]
          go_wp2_with fail
          generalize hr : s.extract (k + 1) s.size = rest at hpf0 hrs q34 q92 q110 q116 hr0 hr3 hr4 ⊢
          have hpf := hpf0
          clear hpf0
          have hpos : (0 : Int) < (rest.size : Int) := by omega
          by_cases g34 : s[k + 1] = 34
          · have g92 : ¬ s[k + 1] = 92 := by rw [g34]; decide
            refine (hpf 34 true (by rw [q34]; exact decide_eq_true g34) _).mono ?_
            rintro e w' ⟨rfl, rfl⟩
            go_wp2_with (go_at_call 30; refine (Builder_WriteByte_k w.heap.size w.heap.size _ _ _ hI (by rw [Lib.byteCells_length]; omega) hsz).mono ?_)
            rintro e W2 ⟨rfl, h2, b2, -⟩
            clear hpf hr hr0 hr3
            go_wp2
            go_roundw
            case rel => exact ⟨k + 2, b ++ [34], by omega, congrArg (Value.int .i64) (by omega), Lib.hid (unq_esc s _ k b hu.out hk1 h92 _ (.inl ⟨.inl g34, g34.symm⟩)), by simp; omega, (by refine Or.inr ?_; simpa [Lib.byteCells] using h2), hb.trans b2⟩
            case measure => simp [intOf]; omega
          by_cases g92 : s[k + 1] = 92
          · refine (hpf 34 false (by rw [q34]; exact decide_eq_false g34) _).mono ?_
            rintro e w' ⟨rfl, rfl⟩
            go_wp2_with (go_at_call 87; refine (hpf 92 true (by rw [q92]; exact decide_eq_true g92) _).mono ?_)
            rintro e w' ⟨rfl, rfl⟩
            go_wp2_with (go_at_call 30; refine (Builder_WriteByte_k w.heap.size w.heap.size _ _ _ hI (by rw [Lib.byteCells_length]; omega) hsz).mono ?_)
            rintro e W2 ⟨rfl, h2, b2, -⟩
            clear hpf hr hr0 hr3
            go_wp2
            go_roundw
            case rel => exact ⟨k + 2, b ++ [92], by omega, congrArg (Value.int .i64) (by omega), Lib.hid (unq_esc s _ k b hu.out hk1 h92 _ (.inl ⟨.inr g92, g92.symm⟩)), by simp; omega, (by refine Or.inr ?_; simpa [Lib.byteCells] using h2), hb.trans b2⟩
            case measure => simp [intOf]; omega
          by_cases g110 : s[k + 1] = 110
          · refine (hpf 34 false (by rw [q34]; exact decide_eq_false g34) _).mono ?_
            rintro e w' ⟨rfl, rfl⟩
            go_wp2_with (go_at_call 87; refine (hpf 92 false (by rw [q92]; exact decide_eq_false g92) _).mono ?_)
            rintro e w' ⟨rfl, rfl⟩
            go_wp2_with (go_at_call 87; refine (hpf 110 true (by rw [q110]; exact decide_eq_true g110) _).mono ?_)
            rintro e w' ⟨rfl, rfl⟩
            go_wp2_with (go_at_call 30; refine (Builder_WriteByte_k w.heap.size w.heap.size _ _ _ hI (by rw [Lib.byteCells_length]; omega) hsz).mono ?_)
            rintro e W2 ⟨rfl, h2, b2, -⟩
            clear hpf hr hr0 hr3
            go_wp2
            go_roundw
            case rel => exact ⟨k + 2, b ++ [10], by omega, congrArg (Value.int .i64) (by omega), Lib.hid (unq_esc s _ k b hu.out hk1 h92 _ (.inr (.inl ⟨g110, rfl⟩))), by simp; omega, (by refine Or.inr ?_; simpa [Lib.byteCells] using h2), hb.trans b2⟩
            case measure => simp [intOf]; omega
          by_cases g116 : s[k + 1] = 116
          · refine (hpf 34 false (by rw [q34]; exact decide_eq_false g34) _).mono ?_
            rintro e w' ⟨rfl, rfl⟩
            go_wp2_with (go_at_call 87; refine (hpf 92 false (by rw [q92]; exact decide_eq_false g92) _).mono ?_)
            rintro e w' ⟨rfl, rfl⟩
            go_wp2_with (go_at_call 87; refine (hpf 110 false (by rw [q110]; exact decide_eq_false g110) _).mono ?_)
            rintro e w' ⟨rfl, rfl⟩
            go_wp2_with (go_at_call 87; refine (hpf 116 true (by rw [q116]; exact decide_eq_true g116) _).mono ?_)
            rintro e w' ⟨rfl, rfl⟩
            go_wp2_with (go_at_call 30; refine (Builder_WriteByte_k w.heap.size w.heap.size _ _ _ hI (by rw [Lib.byteCells_length]; omega) hsz).mono ?_)
            rintro e W2 ⟨rfl, h2, b2, -⟩
            clear hpf hr hr0 hr3
            go_wp2
            go_roundw
            case rel => exact ⟨k + 2, b ++ [9], by omega, congrArg (Value.int .i64) (by omega), Lib.hid (unq_esc s _ k b hu.out hk1 h92 _ (.inr (.inr ⟨g116, rfl⟩))), by simp; omega, (by refine Or.inr ?_; simpa [Lib.byteCells] using h2), hb.trans b2⟩
            case measure => simp [intOf]; omega
          by_cases g120 : s[k + 1] = 120
          · refine (hpf 34 false (by rw [q34]; exact decide_eq_false g34) _).mono ?_
            rintro e w' ⟨rfl, rfl⟩
            go_wp2_with (go_at_call 87; refine (hpf 92 false (by rw [q92]; exact decide_eq_false g92) _).mono ?_)
            rintro e w' ⟨rfl, rfl⟩
            go_wp2_with (go_at_call 87; refine (hpf 110 false (by rw [q110]; exact decide_eq_false g110) _).mono ?_)
            rintro e w' ⟨rfl, rfl⟩
            go_wp2_with (go_at_call 87; refine (hpf 116 false (by rw [q116]; exact decide_eq_false g116) _).mono ?_)
            rintro e w' ⟨rfl, rfl⟩
            by_cases hk3 : k + 3 < s.size
            · have hge : ¬ (rest.size : Int) < 3 := by omega
              have hge' : (3 : Int) ≤ (rest.size : Int) := by omega
              have hx := hexu_walk (rest.extract 1 3) (by rw [hr4]; omega)
              rw [hr3 hk3] at hx
              have hany := Lib.hid (unq_hex_any s _ k b hu.out hk3 h92 g120)
              have e120 : ((s[k + 1].toNat : Int) == 120) = true := (u8_beq s[k + 1] 120).trans (decide_eq_true g120)
              have HV := hv.onward (hb.mono (Nat.le_refl _))
              by_cases hbad : hexP s[k + 2] < 0 ∨ hexP s[k + 3] < 0
              · rw [if_pos hbad] at hx
                have hno : unq (s.data.toList.drop 1) = none := by rw [hany.out, if_pos hbad]
                clear hpf hr hr3 hany
                go_wp2_with (go_at_call 88; refine (hx _ HV).mono ?_)
                rintro e w' ⟨⟨n, T, p, rfl⟩, hbx⟩
                go_wp2
                go_ret3
                exact ⟨sunqRes_none hno _ _, hb.trans (hbx.mono hsz)⟩
              · rw [if_neg hbad] at hx
                have hle1 := hexP_le s[k + 2]
                have hle2 := hexP_le s[k + 3]
                have hUA : Hid (UnqAt s 1 (k + 4) (b ++ [UInt8.ofNat (16 * hexP s[k + 2] + hexP s[k + 3]).toNat])) := Lib.hid (by unfold UnqAt; rw [hany.out, if_neg hbad])
                obtain ⟨v, hvv⟩ : ∃ v, v = (16 * hexP s[k + 2] + hexP s[k + 3]).toNat := ⟨_, rfl⟩
                have hv255 : v ≤ 255 := by omega
                rw [← hvv] at hx hUA
                have hwv : IntKind.u8.wrap (v : Int) = (v : Int) := IntWalk.u8_in _ (by omega)
                have hwk3 : IntKind.i64.wrap ((k : Int) + 1 + 2) = (k : Int) + 1 + 2 := IntWalk.i64_in _ (by omega)
                have hwk4 : IntKind.i64.wrap ((k : Int) + 1 + 2 + 1) = (k : Int) + 1 + 2 + 1 := IntWalk.i64_in _ (by omega)
                clear hvv hbad hpf hr hr3 hany hle1 hle2
                go_wp2_with (go_at_call 88; refine (hx _ HV).mono ?_)
                rintro e w' ⟨hres, hbx⟩
                obtain rfl : e = .returned (.tuple #[.int .u64 (v : Int), .nilIface]) := hres
                have hI' := bld_onward hI hbx
                have hsz' := Nat.le_trans hsz hbx.size
                clear hx HV
                go_wp2_with (go_at_call 30; refine (Builder_WriteByte_k w.heap.size w.heap.size _ _ _ hI' (by rw [Lib.byteCells_length]; omega) hsz').mono ?_)
                rintro e W2 ⟨rfl, h2, b2, -⟩
                clear hr0
                go_wp2
                go_roundw
                case rel =>
                  refine ⟨k + 4, b ++ [UInt8.ofNat v], by omega, congrArg (Value.int .i64) (by omega), hUA, by simp; omega, ?_, (hb.trans (hbx.mono hsz)).trans b2⟩
                  have hvn : (UInt8.ofNat v).toNat = v := by rw [UInt8.toNat_ofNat', Nat.mod_eq_of_lt (by omega)]
                  refine Or.inr ?_
                  simpa [Lib.byteCells, hvn] using h2
                case measure => simp [intOf]; omega
            · have hno := unq_hex_short s _ k b hu.out hk1 h92 g120 hk3
              have hge : (rest.size : Int) < 3 := by omega
              clear hpf hr hr3
              go_wp2_with fail
              go_ret3
              exact ⟨sunqRes_none hno _ _, hb⟩
          · refine (hpf 34 false (by rw [q34]; exact decide_eq_false g34) _).mono ?_
            rintro e w' ⟨rfl, rfl⟩
            go_wp2_with (go_at_call 87; refine (hpf 92 false (by rw [q92]; exact decide_eq_false g92) _).mono ?_)
            rintro e w' ⟨rfl, rfl⟩
            go_wp2_with (go_at_call 87; refine (hpf 110 false (by rw [q110]; exact decide_eq_false g110) _).mono ?_)
            rintro e w' ⟨rfl, rfl⟩
            go_wp2_with (go_at_call 87; refine (hpf 116 false (by rw [q116]; exact decide_eq_false g116) _).mono ?_)
            rintro e w' ⟨rfl, rfl⟩
            have hno := unq_esc_bad s _ k b hu.out hk1 h92 g34 g92 g110 g116 g120
            have d120 : ((s[k + 1].toNat : Int) == 120) = false := (u8_beq s[k + 1] 120).trans (decide_eq_false g120)
            have m120 : ((s[k + 1].toNat : Int) != 120) = true := by rw [bne, d120]; rfl
            clear hpf hr hr3
            by_cases hlen : (rest.size : Int) < 3
            · go_wp2_with fail
              go_ret3
              exact ⟨sunqRes_none hno _ _, hb⟩
            · have hlen' : (3 : Int) ≤ (rest.size : Int) := by omega
              go_wp2_with fail
              go_ret3
              exact ⟨sunqRes_none hno _ _, hb⟩
        · have hno := unq_esc_end s _ k b hu.out hlt h92 hk1
          have q34 := hp_end s (k + 1) 34 hk1
          have q92 := hp_end s (k + 1) 92 hk1
          have q110 := hp_end s (k + 1) 110 hk1
          have q116 := hp_end s (k + 1) 116 hk1
          go_wp2_with fail
          generalize hr : s.extract (k + 1) s.size = rest at hpf0 hrs q34 q92 q110 q116 ⊢
          have hlen : (rest.size : Int) < 3 := by omega
          refine (hpf0 34 false q34 _).mono ?_
          rintro e w' ⟨rfl, rfl⟩
          go_wp2_with (go_at_call 87; refine (hpf0 92 false q92 _).mono ?_)
          rintro e w' ⟨rfl, rfl⟩
          go_wp2_with (go_at_call 87; refine (hpf0 110 false q110 _).mono ?_)
          rintro e w' ⟨rfl, rfl⟩
          go_wp2_with (go_at_call 87; refine (hpf0 116 false q116 _).mono ?_)
          rintro e w' ⟨rfl, rfl⟩
          clear hpf0 hr
          go_wp2_with fail
          go_ret3
          exact ⟨sunqRes_none hno _ _, hb⟩
      · have n34 : ((s[k].toNat : Int) == 34) = false := (u8_beq s[k] 34).trans (decide_eq_false h34)
        have n92 : ((s[k].toNat : Int) == 92) = false := (u8_beq s[k] 92).trans (decide_eq_false h92)
        go_wp2_with (go_at_call 30; refine (Builder_WriteByte_k w.heap.size w.heap.size _ _ _ hI (by rw [Lib.byteCells_length]; omega) hsz).mono ?_)
        rintro e W2 ⟨rfl, h2, b2, -⟩
        go_wp2
        go_roundw
        case rel => exact ⟨k + 1, b ++ [s[k]], by omega, by go_num, Lib.hid (unq_plain s _ k b hu.out hlt h34 h92), by simp; omega, (by refine Or.inr ?_; simpa [Lib.byteCells] using h2), hb.trans b2⟩
        case measure => simp [intOf]; omega
    · have hno : unq (s.data.toList.drop 1) = none := unq_end s _ k b hu.out hlt
      go_wp2_with fail
      go_ret3
      exact ⟨sunqRes_none hno _ _, hb⟩
end Go.Proofs.YtaipemiaphpojaaGreatDoor
