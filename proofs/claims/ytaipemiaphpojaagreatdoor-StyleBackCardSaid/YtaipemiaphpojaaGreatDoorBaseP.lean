/- What every statement of this seat stands on: the tables that are laid, as cells; the hooks; a world for the witness. -/
import Derived.Test.YtaipemiaphpojaaGreatDoorRows
import Derived.Test.YtaipemiaphpojaaGreatDoorMir7
import GoSem.PinnedTables
namespace Go.Proofs.YtaipemiaphpojaaGreatDoor
open Go Go.Mir
set_option maxRecDepth 100000
section

noncomputable def lay : List (String × DataW Unit) := [("math/bits.deBruijn32tab", Rows.laid_math_bits_deBruijn32tab), ("math/bits.deBruijn64tab", Rows.laid_math_bits_deBruijn64tab), ("internal/strconv.uint64pow10", Rows.laid_internal_strconv_uint64pow10), ("unicode/utf8.acceptRanges", Rows.laid_unicode_utf8_acceptRanges), ("strconv.ErrRange", Rows.laid_strconv_ErrRange), ("strconv.ErrSyntax", Rows.laid_strconv_ErrSyntax), ("unicode/utf8.first", Rows.laid_unicode_utf8_first)]
noncomputable def layD : List (String × DataW Unit) := [("math/bits.deBruijn32tab", Rows.laid_math_bits_deBruijn32tab), ("math/bits.deBruijn64tab", Rows.laid_math_bits_deBruijn64tab), ("internal/strconv.uint64pow10", Rows.laid_internal_strconv_uint64pow10), ("unicode/utf8.acceptRanges", Rows.laid_unicode_utf8_acceptRanges), ("strconv.ErrRange", Rows.laid_strconv_ErrRange), ("strconv.ErrSyntax", Rows.laid_strconv_ErrSyntax), ("unicode/utf8.first", Rows.laid_unicode_utf8_first)]
noncomputable def z7l : List Nat := [0, 1, 28, 2, 29, 14, 24, 3, 30, 22, 20, 15, 25, 17, 4, 8, 31, 27, 13, 23, 21, 19, 16, 7, 26, 12, 18, 6, 11, 5, 10, 9]
noncomputable def m7 : List MV := z7l.map fun n => .int .u8 (.ofNat n)
noncomputable def v7 : List Value := z7l.map fun n => .int .u8 (.ofNat n)
noncomputable def z8l : List Nat := [0, 1, 56, 2, 57, 49, 28, 3, 61, 58, 42, 50, 38, 29, 17, 4, 62, 47, 59, 36, 45, 43, 51, 22, 53, 39, 33, 30, 24, 18, 12, 5, 63, 55, 48, 27, 60, 41, 37, 16, 46, 35, 44, 21, 52, 32, 23, 11, 54, 26, 40, 15, 34, 20, 31, 10, 25, 14, 19, 9, 13, 8, 7, 6]
noncomputable def m8 : List MV := z8l.map fun n => .int .u8 (.ofNat n)
noncomputable def v8 : List Value := z8l.map fun n => .int .u8 (.ofNat n)
noncomputable def z3l : List Nat := [1, 10, 100, 1000, 10000, 100000, 1000000, 10000000, 100000000, 1000000000, 10000000000, 100000000000, 1000000000000, 10000000000000, 100000000000000, 1000000000000000, 10000000000000000, 100000000000000000, 1000000000000000000, 10000000000000000000]
noncomputable def m3 : List MV := z3l.map fun n => .int .u64 (.ofNat n)
noncomputable def v3 : List Value := z3l.map fun n => .int .u64 (.ofNat n)
noncomputable def z2l : List Nat := [128, 191, 160, 191, 128, 159, 144, 191, 128, 143, 0, 0, 0, 0, 0, 0, 0, 0, 0, 0, 0, 0, 0, 0, 0, 0, 0, 0, 0, 0, 0, 0]
noncomputable def m2 : List MV := z2l.map fun n => .int .u8 (.ofNat n)
noncomputable def v2 : List Value := z2l.map fun n => .int .u8 (.ofNat n)
noncomputable def m1 : List MV := Go.Pinned.utf8FirstZ.map fun n => .int .u8 (.ofNat n)
noncomputable def v1 : List Value := Go.Pinned.utf8FirstZ.map fun n => .int .u8 (.ofNat n)
noncomputable def gs : Gs := [(7, 256, m7), (8, 257, m8), (3, 227, m3), (2, 221, m2), (1, 218, m1)]
noncomputable def maskTab : List Nat := [0, 0, 0, 765, 904625711015150603396148541938877888492782171386812143364223688708181721079, 1532495540875645519453579858782483675964518565802930135, 144257299987435507, 4279644625100616007677, 1043535, 2097629, 495, 38854450829432930617779565, 1303164701446500846229654333301373, 16806963, 5, 537367549, 4672924542451, 15033370035, 73787011487800375295, 31, 40532396647318749, 4835703926976863308679677, 16777405, 1991, 16806963, 16806963, 5, 51, 5, 2269890743859, 19, 5, 1045, 2287534210025597, 9014897454616567, 27, 29, 268697661, 13, 590430918622421501383, 2251799813947767, 8317, 4398047039247, 16543, 19, 147574234099046941683, 11, 4503599895822397, 4722366483971372484595, 1180591620854850289789, 34368129779, 524353, 5, 55, 65597, 39, 5497558138909, 1037, 16528408795231371396039, 41538374874323398565492998300299231, 2267743825679, 5, 2569566921894478608353277, 2097171, 68719477703, 2147484173, 5, 158456364025036000614043632115, 549755813907, 523, 2535455943035156451856967811015, 8796093154333, 0, 0, 0, 1193287703199244111, 0, 17188391667, 134217747, 10889036410789548053712140354695952728307, 1329230531705237473956687007132483613, 316912838952437276284744179709, 115, 8191, 8796126839539, 16810611, 19, 19, 263111, 131527, 19, 134349061, 0, 0, 0, 21, 13, 2923003971560093291123168138537876760321514930163, 20426010943356750102455122975, 80280230226376154677363, 4101, 18448996002372518397, 822802495474487576025243497532720592568719594889539164043216883, 407, 13908276737894025087, 70368811288263, 85, 0, 702342826256273603086707106465568295829491, 19, 749019592093908130998168547243562859198691857383367, 17247509535, 594912002450663878599, 5, 16661, 13, 5, 5, 316912651237648971091587105021, 8205, 13, 19, 0, 5, 151115727469970589747187, 5, 3259264009699125022261772349, 19, 19, 71, 71, 21, 21, 147, 29, 0, 1107300861, 77, 5, 35734400532979, 0, 0, 0, 0, 0, 0, 0, 0, 0, 0, 0, 0, 0, 0, 0, 0, 0, 0, 0, 0, 0, 5, 95, 670653964235167779359031309, 36893505739605147789, 0, 0, 0, 0, 0, 0, 0, 0, 0, 0, 0, 0, 0, 0, 83, 270167, 23, 95, 659268338644969064748810253, 87, 83, 83, 83, 0, 0, 5, 0, 0, 0, 0, 0, 0, 0, 0, 0, 0, 0, 0, 0]
noncomputable def K : Masks := fun f => maskTab.getD f 0
theorem ext76 : ExtF Tryz.prog 76 Extern.AbiNoEscape.same := ⟨⟨_, Tryz.func76, by kernel_rfl, by kernel_rfl, by kernel_rfl, by kernel_rfl⟩⟩
theorem ext135 : ExtF Tryz.prog 135 Extern.BytealgIndexByte.indexByte := ⟨⟨_, Tryz.func135, by kernel_rfl, by kernel_rfl, by kernel_rfl, by kernel_rfl⟩⟩
theorem ext107 : ExtF Tryz.prog 107 Extern.BytealgCount.count := ⟨⟨_, Tryz.func107, by kernel_rfl, by kernel_rfl, by kernel_rfl, by kernel_rfl⟩⟩
theorem hs1 : HookS Tryz.prog (hookSame 76) := @hookSame_sound Tryz.prog 76 ext76
theorem hs2 : HookS Tryz.prog (hookIdx 135) := @hookIdx_sound Tryz.prog 135 ext135
theorem hs3 : HookS Tryz.prog (hookCnt 107) := @hookCnt_sound Tryz.prog 107 ext107
noncomputable def hook : Hook := hookOr (hookSame 76) (hookOr (hookIdx 135) (hookCnt 107))
theorem hook_sound : HookS Tryz.prog hook := by unfold hook; exact (@hookOr_sound Tryz.prog (hookSame 76) (hookOr (hookIdx 135) (hookCnt 107)) hs1 (@hookOr_sound Tryz.prog (hookIdx 135) (hookCnt 107) hs2 hs3))
theorem mixed : Tryz.prog.follows .mixedOrders = true := by kernel_rfl
theorem sizeG : Tryz.prog.globals.size = 9 := by kernel_rfl

theorem g7 : Tryz.prog.globalNamed "math/bits.deBruijn32tab" = some 7 := by kernel_rfl
theorem z7 : ((((begin Tryz.prog (fun _ _ => 0) default).world.heap[7]?).bind Obj.row?)).map (·.2) = some 256 := by kernel_rfl
theorem g8 : Tryz.prog.globalNamed "math/bits.deBruijn64tab" = some 8 := by kernel_rfl
theorem z8 : ((((begin Tryz.prog (fun _ _ => 0) default).world.heap[8]?).bind Obj.row?)).map (·.2) = some 257 := by kernel_rfl
theorem g3 : Tryz.prog.globalNamed "internal/strconv.uint64pow10" = some 3 := by kernel_rfl
theorem z3 : ((((begin Tryz.prog (fun _ _ => 0) default).world.heap[3]?).bind Obj.row?)).map (·.2) = some 227 := by kernel_rfl
theorem g2 : Tryz.prog.globalNamed "unicode/utf8.acceptRanges" = some 2 := by kernel_rfl
theorem z2 : ((((begin Tryz.prog (fun _ _ => 0) default).world.heap[2]?).bind Obj.row?)).map (·.2) = some 221 := by kernel_rfl
theorem g1 : Tryz.prog.globalNamed "unicode/utf8.first" = some 1 := by kernel_rfl
theorem z1 : ((((begin Tryz.prog (fun _ _ => 0) default).world.heap[1]?).bind Obj.row?)).map (·.2) = some 218 := by kernel_rfl
theorem zrow {o : Option (Array Value × TypeId)} {t : TypeId} (h : o.map (·.2) = some t) : ∃ z, o = some (z, t) := by
  cases o with
  | none => cases h
  | some x => obtain ⟨z, t'⟩ := x; cases h; exact ⟨z, rfl⟩
theorem flat7 : flatD Tryz.prog 8 256 Rows.laid_math_bits_deBruijn32tab = some v7 := by kernel_rfl
theorem ty7 : (Tryz.prog.globals[7]?).map (·.type) = some 256 := by kernel_rfl
theorem flat8 : flatD Tryz.prog 8 257 Rows.laid_math_bits_deBruijn64tab = some v8 := by kernel_rfl
theorem ty8 : (Tryz.prog.globals[8]?).map (·.type) = some 257 := by kernel_rfl
theorem flat3 : flatD Tryz.prog 8 227 Rows.laid_internal_strconv_uint64pow10 = some v3 := by kernel_rfl
theorem ty3 : (Tryz.prog.globals[3]?).map (·.type) = some 227 := by kernel_rfl
theorem flat2 : flatD Tryz.prog 8 221 Rows.laid_unicode_utf8_acceptRanges = some v2 := by kernel_rfl
theorem ty2 : (Tryz.prog.globals[2]?).map (·.type) = some 221 := by kernel_rfl
theorem flat1 : flatD Tryz.prog 8 218 Rows.laid_unicode_utf8_first = some v1 := by kernel_rfl
theorem ty1 : (Tryz.prog.globals[1]?).map (·.type) = some 218 := by kernel_rfl
theorem rowsAll : rowsB Tryz.prog (begin Tryz.prog (fun _ _ => 0) default).world 9 = true := by kernel_rfl
theorem rowsMore : Nat.blt 9 (begin Tryz.prog (fun _ _ => 0) default).world.heap.size = true := by kernel_rfl

theorem gs_fit {W : World} (hs : W.ShapedOpen Tryz.prog) (h : laidMetH Tryz.prog lay W) :
    ∀ x ∈ gs, x.1 ≤ 9 ∧ ∃ us lh, W.heap[x.1]? = some (.cells (List.toArray us) x.2.1 lh) ∧ trs (muG 9 gs) x.2.2 = some us := by
  rw [MakeChecks.laidMetH_plain _ _ _ (by kernel_rfl)] at h
  obtain ⟨ps, hl, _, _⟩ := h
  obtain ⟨y7, k7⟩ := zrow z7
  obtain ⟨l7, r7⟩ := row_of_laid hs hl (name := "math/bits.deBruijn32tab") (by simp [lay]) g7 (by rw [sizeG]; omega) ty7 flat7 k7
  obtain ⟨y8, k8⟩ := zrow z8
  obtain ⟨l8, r8⟩ := row_of_laid hs hl (name := "math/bits.deBruijn64tab") (by simp [lay]) g8 (by rw [sizeG]; omega) ty8 flat8 k8
  obtain ⟨y3, k3⟩ := zrow z3
  obtain ⟨l3, r3⟩ := row_of_laid hs hl (name := "internal/strconv.uint64pow10") (by simp [lay]) g3 (by rw [sizeG]; omega) ty3 flat3 k3
  obtain ⟨y2, k2⟩ := zrow z2
  obtain ⟨l2, r2⟩ := row_of_laid hs hl (name := "unicode/utf8.acceptRanges") (by simp [lay]) g2 (by rw [sizeG]; omega) ty2 flat2 k2
  obtain ⟨y1, k1⟩ := zrow z1
  obtain ⟨l1, r1⟩ := row_of_laid hs hl (name := "unicode/utf8.first") (by simp [lay]) g1 (by rw [sizeG]; omega) ty1 flat1 k1
  intro x hx
  simp only [gs, List.mem_cons, List.not_mem_nil, or_false] at hx
  rcases hx with rfl | rfl | rfl | rfl | rfl
  · exact ⟨by omega, v7, l7, r7, by kernel_rfl⟩
  · exact ⟨by omega, v8, l8, r8, by kernel_rfl⟩
  · exact ⟨by omega, v3, l3, r3, by kernel_rfl⟩
  · exact ⟨by omega, v2, l2, r2, by kernel_rfl⟩
  · exact ⟨by omega, v1, l1, r1, by kernel_rfl⟩

/-- A CALL THAT THE MIRROR SAYS 'TRUE' OF. -/
theorem says {W : World} (hs : W.ShapedOpen Tryz.prog) (h : laidMetH Tryz.prog lay W) {n : Nat} {f : FuncId} {args : List MV} {us : List Value} (hu : trs (muG 9 gs) args = some us)
    (he : (memGK 10 gs fun m => saysTrue (evCall Tryz.prog hook K n f args m)) = true) :
    Calls Tryz.prog f us.toArray W fun e w' => e = .returned (.bool true) ∧ Go.RowKit.Below W.heap.size W w' :=
  calls_true (X := hook) hook_sound mixed sizeG he (shaped_lt hs sizeG rowsAll rowsMore) (gs_fit hs h) hu

theorem own : ownKnob Tryz.prog.godebug = none := by kernel_rfl
noncomputable def startW (os : Os) : World := laidW Tryz.prog os [] layD
theorem start_met (os : Os) (args : Array Value) : laidMetH Tryz.prog lay ((startW os).forCall (fun _ _ => 0) ⟨#[], args, []⟩).memory :=
  laidMetH_of_parts (laidW_met args (by kernel_rfl) (by kernel_rfl)) (by kernel_rfl)
theorem start_shaped (os : Os) (args : Array Value) : ((startW os).forCall (fun _ _ => 0) ⟨#[], args, []⟩).Shaped Tryz.prog :=
  World.shaped_of_ZipB (by kernel_rfl) (by kernel_rfl)
end
end Go.Proofs.YtaipemiaphpojaaGreatDoor
