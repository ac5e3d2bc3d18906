/- What every statement of this seat stands on: the tables that are laid, as cells; the hooks; a world for the witness. -/
import Derived.Test.YtjhicfeelgoneaaGreatDoorRows
import Derived.Test.YtjhicfeelgoneaaGreatDoorMir7
import Derived.MakeChecks
import GoSem.PinnedTables
namespace Go.Proofs.YtjhicfeelgoneaaGreatDoor
open Go Go.Mir
set_option maxRecDepth 100000
section

noncomputable def lay : List (String × DataW Unit) := [("math/bits.deBruijn32tab", Rows.laid_math_bits_deBruijn32tab), ("math/bits.deBruijn64tab", Rows.laid_math_bits_deBruijn64tab), ("internal/strconv.uint64pow10", Rows.laid_internal_strconv_uint64pow10), ("unicode/utf8.acceptRanges", Rows.laid_unicode_utf8_acceptRanges), ("strconv.ErrRange", Rows.laid_strconv_ErrRange), ("strconv.ErrSyntax", Rows.laid_strconv_ErrSyntax), ("unicode/utf8.first", Rows.laid_unicode_utf8_first)]
noncomputable def layD : List (String × DataW Unit) := [("math/bits.deBruijn32tab", Rows.laid_math_bits_deBruijn32tab), ("math/bits.deBruijn64tab", Rows.laid_math_bits_deBruijn64tab), ("internal/strconv.uint64pow10", Rows.laid_internal_strconv_uint64pow10), ("unicode/utf8.acceptRanges", Rows.laid_unicode_utf8_acceptRanges), ("strconv.ErrRange", Rows.laid_strconv_ErrRange), ("strconv.ErrSyntax", Rows.laid_strconv_ErrSyntax), ("unicode/utf8.first", Rows.laid_unicode_utf8_first)]
noncomputable def hvM : MV := .iface 376 (.agg [.ptr 8 82])
noncomputable def hvV : Value := .iface 376 (.agg #[.pointer (some ⟨8, 82, none⟩)])
noncomputable def z4l : List Nat := [0, 1, 28, 2, 29, 14, 24, 3, 30, 22, 20, 15, 25, 17, 4, 8, 31, 27, 13, 23, 21, 19, 16, 7, 26, 12, 18, 6, 11, 5, 10, 9]
noncomputable def m4 : List MV := z4l.map fun n => .int .u8 (.ofNat n)
noncomputable def v4 : List Value := z4l.map fun n => .int .u8 (.ofNat n)
noncomputable def z5l : List Nat := [0, 1, 56, 2, 57, 49, 28, 3, 61, 58, 42, 50, 38, 29, 17, 4, 62, 47, 59, 36, 45, 43, 51, 22, 53, 39, 33, 30, 24, 18, 12, 5, 63, 55, 48, 27, 60, 41, 37, 16, 46, 35, 44, 21, 52, 32, 23, 11, 54, 26, 40, 15, 34, 20, 31, 10, 25, 14, 19, 9, 13, 8, 7, 6]
noncomputable def m5 : List MV := z5l.map fun n => .int .u8 (.ofNat n)
noncomputable def v5 : List Value := z5l.map fun n => .int .u8 (.ofNat n)
noncomputable def z3l : List Nat := [1, 10, 100, 1000, 10000, 100000, 1000000, 10000000, 100000000, 1000000000, 10000000000, 100000000000, 1000000000000, 10000000000000, 100000000000000, 1000000000000000, 10000000000000000, 100000000000000000, 1000000000000000000, 10000000000000000000]
noncomputable def m3 : List MV := z3l.map fun n => .int .u64 (.ofNat n)
noncomputable def v3 : List Value := z3l.map fun n => .int .u64 (.ofNat n)
noncomputable def z7l : List Nat := [128, 191, 160, 191, 128, 159, 144, 191, 128, 143, 0, 0, 0, 0, 0, 0, 0, 0, 0, 0, 0, 0, 0, 0, 0, 0, 0, 0, 0, 0, 0, 0]
noncomputable def m7 : List MV := z7l.map fun n => .int .u8 (.ofNat n)
noncomputable def v7 : List Value := z7l.map fun n => .int .u8 (.ofNat n)
noncomputable def m6 : List MV := Go.Pinned.utf8FirstZ.map fun n => .int .u8 (.ofNat n)
noncomputable def v6 : List Value := Go.Pinned.utf8FirstZ.map fun n => .int .u8 (.ofNat n)
noncomputable def gs : Gs := [(4, 291, m4), (5, 292, m5), (3, 223, m3), (7, 328, m7), (6, 325, m6)]
noncomputable def maskTab : List Nat := [0, 0, 0, 7967, 4155, 379117433657385482948481590426270778236796879, 5192301810597363870969564531654095, 39633556388741244132412357919, 67112847, 8379, 549755815155, 1073742013, 67138111, 120259084653, 1073741839, 543, 1180591629513504332831, 8411, 288230444871192573, 478150719, 5, 12775, 1, 1, 5, 5, 3, 4672924418099, 5, 2305915576981127295, 33011, 10633825233939598765591009076996800271, 4427631, 128849019053, 19, 19, 4157, 5, 127, 7, 5, 5, 5, 5, 5, 5, 127, 3, 3, 3, 36379, 16499, 7, 1048581, 133, 8592032563, 7, 19, 275, 2147618759, 23, 31, 15032388039, 34359747271, 2147485747, 253, 7, 8590853087, 19, 19, 73861163094217066365, 17247509535, 17188391667, 74057473747457207295, 76148159536274111209447, 11399754242180477, 11, 262559, 262237, 73787011487800375295, 343, 2200097009607, 167, 530919, 262183, 1031, 276019021695, 5, 4194365, 137564784119, 0, 594912002450663878599, 19, 19, 71, 71, 21, 13, 2923003971560093291123168138537876760321514930163, 20426010943356750102455122975, 270271471, 283468337139, 5, 11150372601881742719124229662321218754190335, 1, 7, 263111, 27, 29, 268697661, 13, 590430918622421501383, 8317, 4398047039247, 31, 7, 13, 5104235510152329953092774942868756332535, 258254927205329039615, 749019592093908130998168547243562859198691857383367, 77, 5, 5, 16661, 13, 5, 5, 13, 35463591352307, 66483, 86477704216035755331738936187872607175, 29, 67142631, 69, 2535302409972866962232245780989, 7, 7, 7, 7, 7, 7, 7, 7, 7, 7, 7, 65597, 39, 5497558138909, 1037, 16528408795231371396039, 41538374874323398565492998300299231, 2251799813947767, 4194587, 29, 144130581238648815, 553402322219876507623, 5188146778792265703, 967, 18014888135877629, 7, 5, 3259264009699125022261772349, 21, 21, 29, 261, 19596329965, 566970290419, 37781249677861324865523, 20850317073762843024439671940743155, 1300609825319321049463652578754319, 101790712422416976430753105856769900792232651389664287, 114867, 32819, 5, 1329228629615051692602844802688548751, 181, 13, 5, 5, 5, 9651, 134217747, 10889036410789548053712140354695952728307, 1329230531705237473956687007132483613, 316912838952437276284744179709, 115, 8191, 35734400532979, 32883, 5, 19343110567591053602389023, 15421, 2100925, 17885614125, 525, 5, 5, 1075, 67109235, 68719510287, 134250501, 2097413, 19344158973, 5, 537399539, 21, 11, 21, 295219999607032127475, 93, 2319190831, 2164322803, 1, 8251, 10404955393597153145976807980556275, 525, 135219, 5, 29, 4793357, 80280230226376154677363, 4101, 18448996002372518397, 822802495474487576025243497532720592568719594889539164043216883, 407, 13908276737894025087, 70368811288263, 4309243, 21, 4649835233866237, 34646110771, 302024701, 1, 66483, 243, 39, 25183219, 4744179, 17393, 281479271679025, 259407338570908827761, 4195313, 2106355, 1011, 19, 2097283, 51, 5, 5, 19, 29, 316912651237648971091587105021, 8205, 13, 1037, 0, 0, 0, 5, 649037116993277525997329249206047, 115, 16371, 19, 524353, 19, 147, 29, 0, 0, 0, 0, 0, 0, 0, 0, 0, 277, 67113167, 1074268111, 8804682991567, 20829169751433167, 8399, 19381773792631929574541263, 145136608610079, 2553260775759352828413349663, 0, 0, 17596481078047, 13, 5, 79, 1087, 17183, 0, 0, 0, 0, 0, 0, 0, 0, 0, 0, 0, 0, 0, 0, 0, 0, 0, 0, 0, 0, 0, 95, 670653964235167779359031309, 36893505739605147789, 0, 83, 0, 270167, 23, 95, 659268338644969064748810253, 87, 83, 83, 83, 0, 0, 0, 0, 0, 0, 0, 0, 0, 0, 0, 0, 0, 0]
noncomputable def K : Masks := fun f => maskTab.getD f 0
theorem ext287 : ExtF Tryz.prog 287 Extern.AbiNoEscape.same := ⟨⟨_, Tryz.func287, by kernel_rfl, by kernel_rfl, by kernel_rfl, by kernel_rfl⟩⟩
theorem ext90 : ExtF Tryz.prog 90 Extern.BytealgIndexByte.indexByte := ⟨⟨_, Tryz.func90, by kernel_rfl, by kernel_rfl, by kernel_rfl, by kernel_rfl⟩⟩
theorem hs0 : HookS Tryz.prog (hookSame 287) := @hookSame_sound Tryz.prog 287 ext287
theorem hs1 : HookS Tryz.prog (hookIdx 90) := @hookIdx_sound Tryz.prog 90 ext90
noncomputable def hook : Hook := hookOr (hookSame 287) (hookIdx 90)
theorem hook_sound : HookS Tryz.prog hook := by unfold hook; exact (@hookOr_sound Tryz.prog (hookSame 287) (hookIdx 90) hs0 hs1)
theorem mixed : Tryz.prog.follows .mixedOrders = true := by kernel_rfl
theorem sizeG : Tryz.prog.globals.size = 8 := by kernel_rfl
theorem g4 : Tryz.prog.globalNamed "math/bits.deBruijn32tab" = some 4 := by kernel_rfl
theorem z4 : ((((begin Tryz.prog (fun _ _ => 0) default).world.heap[4]?).bind Obj.row?)).map (·.2) = some 291 := by kernel_rfl
theorem g5 : Tryz.prog.globalNamed "math/bits.deBruijn64tab" = some 5 := by kernel_rfl
theorem z5 : ((((begin Tryz.prog (fun _ _ => 0) default).world.heap[5]?).bind Obj.row?)).map (·.2) = some 292 := by kernel_rfl
theorem g3 : Tryz.prog.globalNamed "internal/strconv.uint64pow10" = some 3 := by kernel_rfl
theorem z3 : ((((begin Tryz.prog (fun _ _ => 0) default).world.heap[3]?).bind Obj.row?)).map (·.2) = some 223 := by kernel_rfl
theorem g7 : Tryz.prog.globalNamed "unicode/utf8.acceptRanges" = some 7 := by kernel_rfl
theorem z7 : ((((begin Tryz.prog (fun _ _ => 0) default).world.heap[7]?).bind Obj.row?)).map (·.2) = some 328 := by kernel_rfl
theorem g6 : Tryz.prog.globalNamed "unicode/utf8.first" = some 6 := by kernel_rfl
theorem z6 : ((((begin Tryz.prog (fun _ _ => 0) default).world.heap[6]?).bind Obj.row?)).map (·.2) = some 325 := by kernel_rfl
theorem zrow {o : Option (Array Value × TypeId)} {t : TypeId} (h : o.map (·.2) = some t) : ∃ z, o = some (z, t) := by
  cases o with
  | none => cases h
  | some x => obtain ⟨z, t'⟩ := x; cases h; exact ⟨z, rfl⟩
theorem flat4 : flatD Tryz.prog 8 291 Rows.laid_math_bits_deBruijn32tab = some v4 := by kernel_rfl
theorem ty4 : (Tryz.prog.globals[4]?).map (·.type) = some 291 := by kernel_rfl
theorem flat5 : flatD Tryz.prog 8 292 Rows.laid_math_bits_deBruijn64tab = some v5 := by kernel_rfl
theorem ty5 : (Tryz.prog.globals[5]?).map (·.type) = some 292 := by kernel_rfl
theorem flat3 : flatD Tryz.prog 8 223 Rows.laid_internal_strconv_uint64pow10 = some v3 := by kernel_rfl
theorem ty3 : (Tryz.prog.globals[3]?).map (·.type) = some 223 := by kernel_rfl
theorem flat7 : flatD Tryz.prog 8 328 Rows.laid_unicode_utf8_acceptRanges = some v7 := by kernel_rfl
theorem ty7 : (Tryz.prog.globals[7]?).map (·.type) = some 328 := by kernel_rfl
theorem flat6 : flatD Tryz.prog 8 325 Rows.laid_unicode_utf8_first = some v6 := by kernel_rfl
theorem ty6 : (Tryz.prog.globals[6]?).map (·.type) = some 325 := by kernel_rfl
theorem rowsAll : rowsB Tryz.prog (begin Tryz.prog (fun _ _ => 0) default).world 8 = true := by kernel_rfl
theorem rowsMore : Nat.blt 8 (begin Tryz.prog (fun _ _ => 0) default).world.heap.size = true := by kernel_rfl
theorem gs_fit {W : World} (hs : W.ShapedOpen Tryz.prog) (h : laidMetH Tryz.prog lay W) :
    ∀ x ∈ gs, x.1 ≤ 8 ∧ ∃ us lh, W.heap[x.1]? = some (.cells (List.toArray us) x.2.1 lh) ∧ trs (muG 8 gs) x.2.2 = some us := by
  rw [MakeChecks.laidMetH_plain _ _ _ (by kernel_rfl)] at h
  obtain ⟨ps, hl, _, _⟩ := h
  obtain ⟨y4, k4⟩ := zrow z4
  obtain ⟨l4, r4⟩ := row_of_laid hs hl (name := "math/bits.deBruijn32tab") (by simp [lay, layD]) g4 (by rw [sizeG]; omega) ty4 flat4 k4
  obtain ⟨y5, k5⟩ := zrow z5
  obtain ⟨l5, r5⟩ := row_of_laid hs hl (name := "math/bits.deBruijn64tab") (by simp [lay, layD]) g5 (by rw [sizeG]; omega) ty5 flat5 k5
  obtain ⟨y3, k3⟩ := zrow z3
  obtain ⟨l3, r3⟩ := row_of_laid hs hl (name := "internal/strconv.uint64pow10") (by simp [lay, layD]) g3 (by rw [sizeG]; omega) ty3 flat3 k3
  obtain ⟨y7, k7⟩ := zrow z7
  obtain ⟨l7, r7⟩ := row_of_laid hs hl (name := "unicode/utf8.acceptRanges") (by simp [lay, layD]) g7 (by rw [sizeG]; omega) ty7 flat7 k7
  obtain ⟨y6, k6⟩ := zrow z6
  obtain ⟨l6, r6⟩ := row_of_laid hs hl (name := "unicode/utf8.first") (by simp [lay, layD]) g6 (by rw [sizeG]; omega) ty6 flat6 k6
  intro x hx
  simp only [gs, List.mem_cons, List.not_mem_nil, or_false] at hx
  rcases hx with rfl | rfl | rfl | rfl | rfl
  · exact ⟨by omega, v4, l4, r4, by kernel_rfl⟩
  · exact ⟨by omega, v5, l5, r5, by kernel_rfl⟩
  · exact ⟨by omega, v3, l3, r3, by kernel_rfl⟩
  · exact ⟨by omega, v7, l7, r7, by kernel_rfl⟩
  · exact ⟨by omega, v6, l6, r6, by kernel_rfl⟩

/-- A CALL THAT THE MIRROR SAYS 'TRUE' OF. -/
theorem says {W : World} (hs : W.ShapedOpen Tryz.prog) (h : laidMetH Tryz.prog lay W) {n : Nat} {f : FuncId} {args : List MV} {us : List Value} (hu : trs (muG 8 gs) args = some us)
    (he : (memGK 9 gs fun m => saysTrue (evCall Tryz.prog hook K n f args m)) = true) :
    Calls Tryz.prog f us.toArray W fun e w' => e = .returned (.bool true) ∧ Go.RowKit.Below W.heap.size W w' :=
  calls_true (X := hook) hook_sound mixed sizeG he (shaped_lt hs sizeG rowsAll rowsMore) (gs_fit hs h) hu

theorem own : ownKnob Tryz.prog.godebug = none := by kernel_rfl
noncomputable def startW (os : Os) : World := laidW Tryz.prog os [] layD
theorem start_met (os : Os) (args : Array Value) : laidMetH Tryz.prog lay ((startW os).forCall (fun _ _ => 0) ⟨#[], args, []⟩).memory :=
  laidMetH_of_parts (laidW_met args (by kernel_rfl) (by kernel_rfl)) (by kernel_rfl)
theorem start_shaped (os : Os) (args : Array Value) : ((startW os).forCall (fun _ _ => 0) ⟨#[], args, []⟩).Shaped Tryz.prog :=
  World.shaped_of_ZipB (by kernel_rfl) (by kernel_rfl)
end
end Go.Proofs.YtjhicfeelgoneaaGreatDoor
