/- What every statement of this seat stands on: the tables that are laid, as cells; the hook for errors.As; a world for the witness. -/
import Derived.Test.YteghkjkagopdkaaDoorRows
import Derived.Test.YteghkjkagopdkaaDoorAs
import Derived.Test.YteghkjkagopdkaaDoorMir6
namespace Go.Proofs.YteghkjkagopdkaaDoor
open Go Go.Mir
section

noncomputable def lay : List (String × DataW Unit) := [("unicode/utf8.acceptRanges", Rows.laid_unicode_utf8_acceptRanges), ("errors.errorType", Rows.laid_errors_errorType), ("unicode/utf8.first", Rows.laid_unicode_utf8_first)]
noncomputable def layD : List (String × DataW Unit) := [("unicode/utf8.acceptRanges", Rows.laid_unicode_utf8_acceptRanges), ("unicode/utf8.first", Rows.laid_unicode_utf8_first)]
noncomputable def hvM : MV := .iface 124 (.agg [.ptr 3 26])
noncomputable def hvV : Value := .iface 124 (.agg #[.pointer (some ⟨3, 26, none⟩)])
noncomputable def firstM : List MV := Go.Pinned.utf8FirstZ.map fun n => .int .u8 (.ofNat n)
noncomputable def firstV : List Value := Go.Pinned.utf8FirstZ.map fun n => .int .u8 (.ofNat n)
noncomputable def accZ : List Nat := [128, 191, 160, 191, 128, 159, 144, 191, 128, 143, 0, 0, 0, 0, 0, 0, 0, 0, 0, 0, 0, 0, 0, 0, 0, 0, 0, 0, 0, 0, 0, 0]
noncomputable def accM : List MV := accZ.map fun n => .int .u8 (.ofNat n)
noncomputable def accV : List Value := accZ.map fun n => .int .u8 (.ofNat n)
noncomputable def gs : Gs := [(0, 114, [hvM]), (1, 142, firstM), (2, 146, accM)]
noncomputable def maskTab : List Nat := [0, 0, 0, 3213882218874288433796068787197838927274857033424817117724663, 11417981541652876415927228218524343317423063039, 1924145356787, 509258994083621521567111632726927877377240494252539429999899750128786126039056685233860351, 48357033505161124548443919, 73787011487800375295, 563224831459831, 16792575, 31, 17456181191, 2200097009607, 530919, 83, 13287, 9007200198463471, 5, 7951, 16777405, 24861, 5, 27, 29, 268697661, 13, 590430918622421501383, 2251799813947767, 8317, 4398047039247, 41538374874323398565492998300299231, 34368129779, 65597, 39, 5497558138909, 1037, 16528408795231371396039, 115, 8191, 0, 0, 0, 1193287703199244111, 134217747, 10889036410789548053712140354695952728307, 1329230531705237473956687007132483613, 316912838952437276284744179709, 407, 13908276737894025087, 70368811288263, 0, 0, 0, 80280230226376154677363, 4101, 18448996002372518397, 822802495474487576025243497532720592568719594889539164043216883, 13, 316912651237648971091587105021, 8205, 29, 147, 35734400532979, 0, 0, 0, 0, 0, 0, 0, 0, 0, 0, 0, 0, 0, 0, 0, 0, 0, 0, 0, 5, 95, 670653964235167779359031309, 36893505739605147789, 0, 0, 0, 0, 0, 0, 0, 0, 0, 0, 0, 0, 0, 0, 83, 270167, 23, 95, 659268338644969064748810253, 87, 83, 83, 83, 0, 0, 0, 0, 0, 0, 0]
noncomputable def K : Masks := fun f => maskTab.getD f 0
noncomputable def hook : Hook := hookAs 32 60 93 0 hvM
theorem hook_sound : HookS Tryd.prog hook := hookAs_sound (by kernel_rfl) as_facts
theorem mixed : Tryd.prog.follows .mixedOrders = true := by kernel_rfl
theorem size3 : Tryd.prog.globals.size = 3 := by kernel_rfl

theorem rtype_num : (Tryd.prog.cutTypes.find? (·.1 == "internal/reflectlite.rtype")).map (·.2) = some 124 := by kernel_rfl
theorem oneRow : ((List.range 199).filter fun t => Tryd.prog.rowNamed t [101, 114, 114, 111, 114]) = [26] := by kernel_rfl
theorem types_size : Tryd.prog.types.size = 199 := by kernel_rfl
theorem handle26 : typeHandle Tryd.prog 26 = .pointer (some ⟨3, 26, none⟩) := by kernel_rfl
theorem g0 : Tryd.prog.globalNamed "errors.errorType" = some 0 := by kernel_rfl
theorem g1 : Tryd.prog.globalNamed "unicode/utf8.first" = some 1 := by kernel_rfl
theorem g2 : Tryd.prog.globalNamed "unicode/utf8.acceptRanges" = some 2 := by kernel_rfl
theorem z0 : ((((begin Tryd.prog (fun _ _ => 0) default).world.heap[0]?).bind Obj.row?)).map (·.2) = some 114 := by kernel_rfl
theorem z1 : ((((begin Tryd.prog (fun _ _ => 0) default).world.heap[1]?).bind Obj.row?)).map (·.2) = some 142 := by kernel_rfl
theorem z2 : ((((begin Tryd.prog (fun _ _ => 0) default).world.heap[2]?).bind Obj.row?)).map (·.2) = some 146 := by kernel_rfl
theorem zrow {o : Option (Array Value × TypeId)} {t : TypeId} (h : o.map (·.2) = some t) : ∃ z, o = some (z, t) := by
  cases o with
  | none => cases h
  | some x => obtain ⟨z, t'⟩ := x; cases h; exact ⟨z, rfl⟩
theorem flat1 : flatD Tryd.prog 8 142 Rows.laid_unicode_utf8_first = some firstV := by kernel_rfl
theorem flat2 : flatD Tryd.prog 8 146 Rows.laid_unicode_utf8_acceptRanges = some accV := by kernel_rfl
theorem ty1 : (Tryd.prog.globals[1]?).map (·.type) = some 142 := by kernel_rfl
theorem ty2 : (Tryd.prog.globals[2]?).map (·.type) = some 146 := by kernel_rfl
theorem rowsAll : rowsB Tryd.prog (begin Tryd.prog (fun _ _ => 0) default).world 3 = true := by kernel_rfl
theorem rowsMore : Nat.blt 3 (begin Tryd.prog (fun _ _ => 0) default).world.heap.size = true := by kernel_rfl

theorem parts {W : World} (h : laidMetH Tryd.prog lay W) : laidMet Tryd.prog layD W ∧ W.var? Tryd.prog "errors.errorType" = some #[hvV] := by
  have h' : laidMet Tryd.prog layD W ∧ handlesMet Tryd.prog [("errors.errorType", Rows.laid_errors_errorType)] W := h
  obtain ⟨name, u, ty, e1, e2, e3, e4, e5⟩ := h'.2 _ (List.mem_singleton.2 rfl)
  have en : name = [101, 114, 114, 111, 114] := (Option.some.inj e1).symm
  subst en
  obtain rfl := Option.some.inj (rtype_num.symm.trans e2)
  have hm : ty ∈ (List.range 199).filter fun t => Tryd.prog.rowNamed t [101, 114, 114, 111, 114] := List.mem_filter.2 ⟨List.mem_range.2 (by rw [← types_size]; exact e3), e4⟩
  rw [oneRow] at hm
  obtain rfl := List.mem_singleton.1 hm
  rw [handle26] at e5
  exact ⟨h'.1, e5⟩

theorem gs_fit {W : World} (hs : W.ShapedOpen Tryd.prog) (h : laidMetH Tryd.prog lay W) :
    ∀ x ∈ gs, x.1 ≤ 3 ∧ ∃ us lh, W.heap[x.1]? = some (.cells (List.toArray us) x.2.1 lh) ∧ trs (muG 3 gs) x.2.2 = some us := by
  obtain ⟨⟨ps, hl, _, _⟩, hv⟩ := parts h
  obtain ⟨y0, k0⟩ := zrow z0
  obtain ⟨y1, k1⟩ := zrow z1
  obtain ⟨y2, k2⟩ := zrow z2
  obtain ⟨l0, r0⟩ := row_of_var hs hv g0 (by rw [size3]; omega) k0
  obtain ⟨l1, r1⟩ := row_of_laid hs hl (name := "unicode/utf8.first") (by simp [layD]) g1 (by rw [size3]; omega) ty1 flat1 k1
  obtain ⟨l2, r2⟩ := row_of_laid hs hl (name := "unicode/utf8.acceptRanges") (by simp [layD]) g2 (by rw [size3]; omega) ty2 flat2 k2
  intro x hx
  simp only [gs, List.mem_cons, List.not_mem_nil, or_false] at hx
  rcases hx with rfl | rfl | rfl
  · exact ⟨by omega, [hvV], l0, r0, by kernel_rfl⟩
  · exact ⟨by omega, firstV, l1, r1, by kernel_rfl⟩
  · exact ⟨by omega, accV, l2, r2, by kernel_rfl⟩

/-- A CALL THAT THE MIRROR SAYS 'TRUE' OF. -/
theorem says {W : World} (hs : W.ShapedOpen Tryd.prog) (h : laidMetH Tryd.prog lay W) {n : Nat} {f : FuncId} {args : List MV} {us : List Value} (hu : trs (muG 3 gs) args = some us)
    (he : (memGK 4 gs fun m => saysTrue (evCall Tryd.prog hook K n f args m)) = true) :
    Calls Tryd.prog f us.toArray W fun e w' => e = .returned (.bool true) ∧ Go.RowKit.Below W.heap.size W w' :=
  calls_true hook_sound mixed size3 he (shaped_lt hs size3 rowsAll rowsMore) (gs_fit hs h) hu

theorem own : ownKnob Tryd.prog.godebug = none := by kernel_rfl
noncomputable def startW (os : Os) : World := laidW Tryd.prog os [(0, hvV)] layD
theorem start_met (os : Os) (args : Array Value) : laidMetH Tryd.prog lay ((startW os).forCall (fun _ _ => 0) ⟨#[], args, []⟩).memory :=
  laidMetH_of_parts (laidW_met args (by kernel_rfl) (by kernel_rfl)) (by kernel_rfl)
theorem start_shaped (os : Os) (args : Array Value) : ((startW os).forCall (fun _ _ => 0) ⟨#[], args, []⟩).Shaped Tryd.prog :=
  World.shaped_of_ZipB (by kernel_rfl) (by kernel_rfl)
end
end Go.Proofs.YteghkjkagopdkaaDoor
