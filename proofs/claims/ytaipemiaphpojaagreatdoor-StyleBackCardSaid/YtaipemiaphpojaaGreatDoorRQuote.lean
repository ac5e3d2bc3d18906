/- shuttleref23.Quote: what it gives. -/
import Derived.Test.YtaipemiaphpojaaGreatDoorKeep
import Derived.Laws.AppendOwn
import Derived.Laws.OwnMore
import Derived.Laws.IdiomStrings
import Derived.Deep.AppendLies
import Derived.Deep.RegionLaw
namespace Go.Proofs.YtaipemiaphpojaaGreatDoor
open Go Go.Proofs Go.RowKit
theorem info5 : (Tryz.prog.info? 5).map (fun i => (i.zero, i.size, i.bytes)) = some (some (.int .u8 0), 1, 1) := by kernel_rfl
theorem wrap_u8 (n : Int) (h0 : 0 ≤ n) (h1 : n ≤ 255) : IntKind.u8.wrap n = n := by
  show n % 256 = n
  omega
theorem row_made (w : World) (B : Nat) (hB : B ≤ w.heap.size) (l : List UInt8) (hl : l.length ≤ maxLen) : (w.alloc (.cells (Lib.byteCells l).toArray 5)).ownsRow B 5 1 (.slice (some ⟨w.heap.size, 0, none⟩) l.length l.length) l.length (Lib.byteCells l) := by
  refine ⟨by simp [Lib.byteCells], .inr ⟨w.heap.size, l.length, _, rfl, hB, heap_alloc_new w _, Nat.le_refl _, hl, by simp [Lib.byteCells], ?_⟩⟩
  rw [List.take_of_length_le (by simp [Lib.byteCells])]
theorem new_cells (w : World) (e : TypeId) (l : List Value) : ∀ j u, l[j]? = some u → (w.alloc (.cells l.toArray e)).cell? ((⟨w.heap.size, 0, none⟩ : Addr).add j) = some u := by
  intro j u hj
  have h := heap_alloc_new w (.cells l.toArray e)
  have e1 : ∀ o, (w.alloc (.cells l.toArray e)).cell? ⟨w.heap.size, o, none⟩ = l[o]? := fun o => by
    unfold World.cell?
    rw [h]
    simp
  unfold Addr.add
  by_cases h0 : j = 0
  · subst h0; rw [if_pos rfl, e1]; exact hj
  · rw [if_neg h0]
    simp only [Nat.zero_add]
    rw [e1]; exact hj
theorem row_below {w w' : World} {B : Nat} {v : Value} {n : Nat} {xs : List Value} (hb : B ≤ w.heap.size) (hown : w.ownsRow B 5 1 v n xs) (hg : w.grownBy w' v.ownBlock) : Below B w w' :=
  (Below.refl B w).grown hg hb fun k hk => (hown.lt k hk).1
theorem row_bytes {w : World} {B : Nat} {v : Value} {l : List UInt8} (h : w.ownsRow B 5 1 v l.length (Lib.byteCells l)) (hl : l ≠ [] := by simp) : ∃ a cap, v = .slice (some a) l.length cap ∧ ∀ j (hj : j < l.length), w.cell? (a.add j) = some (.int .u8 (l[j].toNat : Int)) := by
  rcases h.2 with ⟨_, h0⟩ | ⟨g, cap, cur, rfl, hb, hg, h1, h2, h3, h4⟩
  · exact absurd (List.length_eq_zero_iff.1 h0) hl
  · refine ⟨⟨g, 0, none⟩, cap, rfl, fun j hj => ?_⟩
    have e1 : cur[j]? = some (.int .u8 (l[j].toNat : Int)) := by
      have h5 : (cur.toList.take (l.length * 1))[j]? = (Lib.byteCells l)[j]? := by rw [h4]
      rw [List.getElem?_take_of_lt (by omega)] at h5
      simpa [Lib.byteCells, List.getElem?_eq_getElem hj] using h5
    unfold Addr.add
    by_cases hz : j = 0
    · subst hz; rw [if_pos rfl]; unfold World.cell?; rw [hg]; simpa using e1
    · rw [if_neg hz]; unfold World.cell?; simp only [Nat.zero_add]; rw [hg]; simpa using e1
/-- What the appended bytes make of the row. -/
theorem row_next {w : World} {B : Nat} {v : Value} {n m : Nat} {l x : List UInt8} {xs news : List Value} (h : w.ownsRow B 5 1 v (n + m) (xs ++ news)) (hn : n = l.length) (hxs : xs = Lib.byteCells l) (hm : m = x.length) (hnews : news = Lib.byteCells x) : w.ownsRow B 5 1 v (l ++ x).length (Lib.byteCells (l ++ x)) := by
  subst hn hxs hm hnews
  rw [List.length_append, Lib.byteCells_append]; exact h
set_option maxHeartbeats 4000000 in
set_option maxRecDepth 1000000 in
theorem rquote_walk (s : ByteArray) (w : World) (hs : s.size ≤ 1048576) :
    Calls Tryz.prog 33 #[.string s] w fun e w' => e = .returned (.string ⟨(34 :: qs s.data.toList ++ [34]).toArray⟩) ∧ Below w.heap.size w w' := by
  obtain ⟨i0, hi, hz0, hz1, hz2⟩ := info_parts info5
  go_enter Tryz.func33, Tryz.ntmps33
  go_wp2
  go_loopw [4, 5] (fun v i wr => ∃ k : Nat, k ≤ s.size ∧ i = .int .i64 k ∧ wr.ownsRow w.heap.size 5 1 v (34 :: qs (s.data.toList.take k)).length (Lib.byteCells (34 :: qs (s.data.toList.take k))) ∧ Below w.heap.size w wr) (fun _ i _ => s.size - (intOf i).toNat)
  case atStart => exact ⟨0, Nat.zero_le _, rfl, row_made w w.heap.size (Nat.le_refl _) [34] (by decide), (Below.refl _ _).alloc (Nat.le_refl _) _⟩
  case round =>
    obtain ⟨k, hk, rfl, hown, hb⟩ := hrel
    have hql := qs_le (s.data.toList.take k)
    have htl : (s.data.toList.take k).length ≤ k := List.length_take_le _ _
    have HL1 : (34 :: qs (s.data.toList.take k)).length + 1 ≤ maxLen := by simp only [List.length_cons, maxLen]; omega
    have HL2 : (34 :: qs (s.data.toList.take k)).length + 2 ≤ maxLen := by simp only [List.length_cons, maxLen]; omega
    have HL4 : (34 :: qs (s.data.toList.take k)).length + 4 ≤ maxLen := by simp only [List.length_cons, maxLen]; omega
    have HM1 : ((34 :: qs (s.data.toList.take k)).length + 1) * 1 ≤ 140737488355328 := by simp only [List.length_cons]; omega
    have HM2 : ((34 :: qs (s.data.toList.take k)).length + 2) * 1 ≤ 140737488355328 := by simp only [List.length_cons]; omega
    have HM4 : ((34 :: qs (s.data.toList.take k)).length + 4) * 1 ≤ 140737488355328 := by simp only [List.length_cons]; omega
    have HW : ∀ o, w.heap.size ≤ (wr.alloc o).heap.size := fun o => by have := hb.size; simp; omega
    have HW := Lib.hid HW
    by_cases hlt : k < s.size
    · have hc := s[k].toNat_lt
      have hd1 : 0 ≤ (s[k].toNat : Int) / 16 ∧ (s[k].toNat : Int) / 16 < 16 := by omega
      have hd2 : 0 ≤ (s[k].toNat : Int) % 16 ∧ (s[k].toNat : Int) % 16 < 16 := by omega
      go_wp2_with (first
        | (at_builtin; refine wpList_append_own _ rfl (.tmp 35) (.tmp 37) 70 rfl w.heap.size 5 i0 (.int .u8 0) 1 1 Tryz.underlying70 hi hz0 hz1 hz2 rfl (by decide) _ _ _ rfl (hown.alloc _) ⟨wr.heap.size, 0, none⟩ 2 2 [.int .u8 92, .int .u8 34] rfl rfl (new_cells wr 5 [.int .u8 92, .int .u8 34]) (by simp; first | exact ⟨rfl, rfl⟩ | rfl) HL2 HM2 (HW.out _) ?_)
        | (at_builtin; refine wpList_append_own _ rfl (.tmp 35) (.tmp 37) 70 rfl w.heap.size 5 i0 (.int .u8 0) 1 1 Tryz.underlying70 hi hz0 hz1 hz2 rfl (by decide) _ _ _ rfl (hown.alloc _) ⟨wr.heap.size, 0, none⟩ 2 2 [.int .u8 92, .int .u8 (s[k].toNat : Int)] rfl rfl (new_cells wr 5 [.int .u8 92, .int .u8 (s[k].toNat : Int)]) (by simp; first | exact ⟨rfl, rfl⟩ | rfl) HL2 HM2 (HW.out _) ?_)
        | (at_builtin; refine wpList_append_own _ rfl (.tmp 42) (.tmp 43) 70 rfl w.heap.size 5 i0 (.int .u8 0) 1 1 Tryz.underlying70 hi hz0 hz1 hz2 rfl (by decide) _ _ _ rfl (hown.alloc _) ⟨wr.heap.size, 0, none⟩ 2 2 [.int .u8 92, .int .u8 110] rfl rfl (new_cells wr 5 [.int .u8 92, .int .u8 110]) (by simp; first | exact ⟨rfl, rfl⟩ | rfl) HL2 HM2 (HW.out _) ?_)
        | (at_builtin; refine wpList_append_own _ rfl (.tmp 48) (.tmp 49) 70 rfl w.heap.size 5 i0 (.int .u8 0) 1 1 Tryz.underlying70 hi hz0 hz1 hz2 rfl (by decide) _ _ _ rfl (hown.alloc _) ⟨wr.heap.size, 0, none⟩ 2 2 [.int .u8 92, .int .u8 116] rfl rfl (new_cells wr 5 [.int .u8 92, .int .u8 116]) (by simp; first | exact ⟨rfl, rfl⟩ | rfl) HL2 HM2 (HW.out _) ?_)
        | (at_builtin; refine wpList_append_own _ rfl (.tmp 58) (.tmp 60) 70 rfl w.heap.size 5 i0 (.int .u8 0) 1 1 Tryz.underlying70 hi hz0 hz1 hz2 rfl (by decide) _ _ _ rfl (hown.alloc _) ⟨wr.heap.size, 0, none⟩ 1 1 [.int .u8 (s[k].toNat : Int)] rfl rfl (new_cells wr 5 [.int .u8 (s[k].toNat : Int)]) (by simp; first | exact ⟨rfl, rfl⟩ | rfl) HL1 HM1 (HW.out _) ?_))
      · intro v' w1 hown' hgrow _
        go_wp2
        go_roundw
        case rel =>
          have hqv : qb s[k] = [92, 34] := by exact qb_34 _ (by omega)
          refine ⟨k + 1, by omega, by go_num, ?_, (hb.alloc hb.size _).trans (row_below (HW.out _) (hown.alloc _) hgrow)⟩
          rw [take_snoc s k hlt, qs_snoc, hqv]
          exact row_next (l := 34 :: qs (s.data.toList.take k)) (x := [92, 34]) hown' rfl rfl rfl rfl
        case measure => simp [intOf]; omega
      · intro v' w1 hown' hgrow _
        go_wp2
        go_roundw
        case rel =>
          have hqv : qb s[k] = [92, s[k]] := by exact qb_q _ (by simp only [beq_iff_eq, beq_eq_false_iff_ne, ne_eq] at *; omega)
          refine ⟨k + 1, by omega, by go_num, ?_, (hb.alloc hb.size _).trans (row_below (HW.out _) (hown.alloc _) hgrow)⟩
          rw [take_snoc s k hlt, qs_snoc, hqv]
          exact row_next (l := 34 :: qs (s.data.toList.take k)) (x := [92, s[k]]) hown' rfl rfl rfl rfl
        case measure => simp [intOf]; omega
      · intro v' w1 hown' hgrow _
        go_wp2
        go_roundw
        case rel =>
          have hqv : qb s[k] = [92, 110] := by exact qb_110 _ (by simp only [beq_iff_eq, beq_eq_false_iff_ne, ne_eq] at *; omega)
          refine ⟨k + 1, by omega, by go_num, ?_, (hb.alloc hb.size _).trans (row_below (HW.out _) (hown.alloc _) hgrow)⟩
          rw [take_snoc s k hlt, qs_snoc, hqv]
          exact row_next (l := 34 :: qs (s.data.toList.take k)) (x := [92, 110]) hown' rfl rfl rfl rfl
        case measure => simp [intOf]; omega
      · intro v' w1 hown' hgrow _
        go_wp2
        go_roundw
        case rel =>
          have hqv : qb s[k] = [92, 116] := by exact qb_116 _ (by simp only [beq_iff_eq, beq_eq_false_iff_ne, ne_eq] at *; omega)
          refine ⟨k + 1, by omega, by go_num, ?_, (hb.alloc hb.size _).trans (row_below (HW.out _) (hown.alloc _) hgrow)⟩
          rw [take_snoc s k hlt, qs_snoc, hqv]
          exact row_next (l := 34 :: qs (s.data.toList.take k)) (x := [92, 116]) hown' rfl rfl rfl rfl
        case measure => simp [intOf]; omega
      · intro v' w1 hown' hgrow _
        go_wp2
        go_roundw
        case rel =>
          have hqv : qb s[k] = [s[k]] := by exact qb_c _ (by simp only [beq_iff_eq, beq_eq_false_iff_ne, ne_eq] at *; omega) (by simp only [beq_iff_eq, beq_eq_false_iff_ne, ne_eq] at *; omega) (by simp only [beq_iff_eq, beq_eq_false_iff_ne, ne_eq] at *; omega)
          refine ⟨k + 1, by omega, by go_num, ?_, (hb.alloc hb.size _).trans (row_below (HW.out _) (hown.alloc _) hgrow)⟩
          rw [take_snoc s k hlt, qs_snoc, hqv]
          exact row_next (l := 34 :: qs (s.data.toList.take k)) (x := [s[k]]) hown' rfl rfl rfl rfl
        case measure => simp [intOf]; omega
      · have hw16 : IntKind.u8.wrap ((s[k].toNat : Int) / 16) = (s[k].toNat : Int) / 16 := wrap_u8 _ (by omega) (by omega)
        have htm : (s[k].toNat : Int).tmod 16 = (s[k].toNat : Int) % 16 := Int.tmod_eq_emod_of_nonneg (by omega)
        go_region_law (refine step_append_lies _ rfl (.tmp 17) (.tmp 26) 70 rfl w.heap.size 5 i0 (.int .u8 0) 1 1 Tryz.underlying70 hi hz0 hz1 hz2 rfl (by decide) _ _ _ rfl (hown.drew.alloc _) ⟨wr.heap.size, 0, none⟩ 4 4 [.int .u8 92, .int .u8 120, .int .u8 ((({ data := #[48, 49, 50, 51, 52, 53, 54, 55, 56, 57, 97, 98, 99, 100, 101, 102] } : ByteArray)[s[k].toNat / 16]'(by show _ < 16; omega)).toNat : Int), .int .u8 ((({ data := #[48, 49, 50, 51, 52, 53, 54, 55, 56, 57, 97, 98, 99, 100, 101, 102] } : ByteArray)[s[k].toNat % 16]'(by show _ < 16; omega)).toNat : Int)] rfl rfl (new_cells wr.drew 5 _) (by simp; exact ⟨rfl, rfl, rfl, rfl⟩) (by decide) HL4 HM4 (HW.out _) _ rfl ?_; intro g cap w1 hown' hgrow _ _)
        all_goals
          rw [dig_at _ (by omega), dig_at _ (by omega)] at hown'
          clear hw16 htm
          go_wp2
          go_roundw
          case rel =>
            have hqv : qb s[k] = [92, 120, dg.getD (s[k].toNat / 16) 0, dg.getD (s[k].toNat % 16) 0] := by exact qb_x _ (by simp only [beq_iff_eq, beq_eq_false_iff_ne, ne_eq] at *; omega) (by simp only [beq_iff_eq, beq_eq_false_iff_ne, ne_eq] at *; omega) (by simp only [beq_iff_eq, beq_eq_false_iff_ne, ne_eq] at *; omega) (by simp only [beq_iff_eq, beq_eq_false_iff_ne, ne_eq] at *; omega)
            refine ⟨k + 1, by omega, by go_num, ?_, ((hb.drew).alloc hb.drew.size _).trans (row_below (HW.out _) (hown.drew.alloc _) hgrow)⟩
            rw [take_snoc s k hlt, qs_snoc, hqv]
            exact row_next (l := 34 :: qs (s.data.toList.take k)) (x := [92, 120, dg.getD (s[k].toNat / 16) 0, dg.getD (s[k].toNat % 16) 0]) hown' rfl rfl rfl rfl
          case measure => simp [intOf]; omega
      · have hw16 : IntKind.u8.wrap ((s[k].toNat : Int) / 16) = (s[k].toNat : Int) / 16 := wrap_u8 _ (by omega) (by omega)
        have htm : (s[k].toNat : Int).tmod 16 = (s[k].toNat : Int) % 16 := Int.tmod_eq_emod_of_nonneg (by omega)
        go_region_law (refine step_append_lies _ rfl (.tmp 17) (.tmp 26) 70 rfl w.heap.size 5 i0 (.int .u8 0) 1 1 Tryz.underlying70 hi hz0 hz1 hz2 rfl (by decide) _ _ _ rfl (hown.drew.alloc _) ⟨wr.heap.size, 0, none⟩ 4 4 [.int .u8 92, .int .u8 120, .int .u8 ((({ data := #[48, 49, 50, 51, 52, 53, 54, 55, 56, 57, 97, 98, 99, 100, 101, 102] } : ByteArray)[s[k].toNat / 16]'(by show _ < 16; omega)).toNat : Int), .int .u8 ((({ data := #[48, 49, 50, 51, 52, 53, 54, 55, 56, 57, 97, 98, 99, 100, 101, 102] } : ByteArray)[s[k].toNat % 16]'(by show _ < 16; omega)).toNat : Int)] rfl rfl (new_cells wr.drew 5 _) (by simp; exact ⟨rfl, rfl, rfl, rfl⟩) (by decide) HL4 HM4 (HW.out _) _ rfl ?_; intro g cap w1 hown' hgrow _ _)
        all_goals
          rw [dig_at _ (by omega), dig_at _ (by omega)] at hown'
          clear hw16 htm
          go_wp2
          go_roundw
          case rel =>
            have hqv : qb s[k] = [92, 120, dg.getD (s[k].toNat / 16) 0, dg.getD (s[k].toNat % 16) 0] := by exact qb_x _ (by simp only [beq_iff_eq, beq_eq_false_iff_ne, ne_eq] at *; omega) (by simp only [beq_iff_eq, beq_eq_false_iff_ne, ne_eq] at *; omega) (by simp only [beq_iff_eq, beq_eq_false_iff_ne, ne_eq] at *; omega) (by simp only [beq_iff_eq, beq_eq_false_iff_ne, ne_eq] at *; omega)
            refine ⟨k + 1, by omega, by go_num, ?_, ((hb.drew).alloc hb.drew.size _).trans (row_below (HW.out _) (hown.drew.alloc _) hgrow)⟩
            rw [take_snoc s k hlt, qs_snoc, hqv]
            exact row_next (l := 34 :: qs (s.data.toList.take k)) (x := [92, 120, dg.getD (s[k].toNat / 16) 0, dg.getD (s[k].toNat % 16) 0]) hown' rfl rfl rfl rfl
          case measure => simp [intOf]; omega
    · have hkk : s.data.toList.take k = s.data.toList := List.take_of_length_le (by simp; omega)
      rw [hkk] at hown HL1 HM1
      clear hkk hql htl HL2 HL4 HM2 HM4
      go_wp2_with (at_builtin; refine wpList_append_own _ rfl (.tmp 62) (.tmp 63) 70 rfl w.heap.size 5 i0 (.int .u8 0) 1 1 Tryz.underlying70 hi hz0 hz1 hz2 rfl (by decide) _ _ _ rfl (hown.alloc _) ⟨wr.heap.size, 0, none⟩ 1 1 [.int .u8 34] rfl rfl (new_cells wr 5 [.int .u8 34]) (by simp; rfl) HL1 HM1 (HW.out _) ?_)
      intro v' w1 hown' hgrow _
      have hr := row_next (l := 34 :: qs s.data.toList) (x := [34]) hown' rfl rfl rfl rfl
      have hbb : Below w.heap.size w w1 := (hb.alloc hb.size _).trans (row_below (HW.out _) (hown.alloc _) hgrow)
      clear hown' hgrow hown HL1 HM1 HW
      obtain ⟨L, hL⟩ : ∃ L, L = (34 :: qs s.data.toList ++ [34]) := ⟨_, rfl⟩
      have hne : L ≠ [] := by rw [hL]; simp
      rw [← hL] at hr
      have HLL := Lib.hid hL
      clear hL
      obtain ⟨a, cap, rfl, hcell⟩ := row_bytes hr hne
      have hcv := run_convert_bytes_back (P := Tryz.prog) w1 70 9 5 a cap L Tryz.underlying70 Tryz.underlying5 Tryz.underlying9 hcell
      have hll : (qs s.data.toList).length + 1 + 1 = L.length := by rw [HLL.out]; simp
      go_wp2
      go_ret
      rw [HLL.out]
      exact ⟨rfl, hbb⟩
end Go.Proofs.YtaipemiaphpojaaGreatDoor
