/- What the library's calls want of the memory: of what the row lays and of the memory's form. -/
import Derived.Test.YtaipemiaphpojaaGreatDoorWorks
import Derived.Test.YtaipemiaphpojaaGreatDoorNumb
import Derived.Stop.LaidErr
namespace Go.Proofs.YtaipemiaphpojaaGreatDoor
open Go Go.Mir Go.RowKit Go.ChangeShapes
set_option maxRecDepth 100000
theorem err_laid {P : Program} {n nm : String} {d : DataW Unit} {r : List (String × DataW Unit)} {W : World} {g : Nat} {ti : TypeId} {ms : Array (String × TypeId)} (h : laidMet P ((n, .iface nm d) :: r) W)
    (hg : P.globalNamed n = some g) (ht : (P.globals[g]?).map (·.type) = some ti) (hi : P.underlying ti = some (.interface ms)) : ∃ u v, W.cell? ⟨g, 0, none⟩ = some (.iface u v) := by
  obtain ⟨ps, ⟨g0, t0, cs0, f0, p0, q0, hg0, ht0, hv0, hd0, _, e0⟩, _, hrows⟩ := h
  obtain rfl := Option.some.inj (hg.symm.trans hg0)
  obtain rfl := Option.some.inj (ht.symm.trans ht0)
  obtain ⟨l0⟩ := cs0
  obtain ⟨f1, u, v, hl, -, -⟩ := iface_of_trod hi hd0
  have h1 : W.cell? ⟨g, 0, none⟩ = (⟨l0⟩ : Array Value)[0]? := World.var?_cell hg0 hv0 0
  exact ⟨u, v, by rw [h1]; simp at hl; rw [hl]; rfl⟩
theorem env_of {W : World} (hs : W.ShapedOpen Tryz.prog) (h : laidMetH Tryz.prog lay W) : Env W ∧ 9 ≤ W.heap.size := by
  have h0 := shaped_lt hs sizeG rowsAll rowsMore
  have hh := h
  rw [MakeChecks.laidMetH_plain _ _ _ (by kernel_rfl)] at hh
  have h6 : laidMet Tryz.prog (("strconv.ErrRange", Rows.laid_strconv_ErrRange) :: ("strconv.ErrSyntax", Rows.laid_strconv_ErrSyntax) :: _) W := hh.tail.tail.tail.tail
  have h5 := h6.tail
  obtain ⟨u6, v6, c6⟩ := err_laid h6 (g := 6) (ti := 45) (by kernel_rfl) (by kernel_rfl) Tryz.underlying45
  obtain ⟨u5, v5, c5⟩ := err_laid h5 (g := 5) (ti := 45) (by kernel_rfl) (by kernel_rfl) Tryz.underlying45
  refine ⟨⟨Tryz.laysM146.s1_3 W hs, ⟨_, c5, .inr ⟨_, _, rfl⟩⟩, ⟨_, c6, .inr ⟨_, _, rfl⟩⟩, fun w' hb => ?_⟩, by have := h0 8 (by omega); omega⟩
  obtain ⟨ps, hl, _, _⟩ := hh
  obtain ⟨y3, k3⟩ := zrow z3
  obtain ⟨l3, r3⟩ := row_of_laid hs hl (name := "internal/strconv.uint64pow10") (by simp [lay]) g3 (by rw [sizeG]; omega) ty3 flat3 k3
  rw [← hb.block 3 (by omega)] at r3
  have e : (v3 : List Value) = Lib.pow10Tab.map fun z => Value.int .u64 z := by kernel_rfl
  unfold Lib.TabIs World.var?
  rw [g3]
  simp only [Option.bind_some, r3, e]
end Go.Proofs.YtaipemiaphpojaaGreatDoor
