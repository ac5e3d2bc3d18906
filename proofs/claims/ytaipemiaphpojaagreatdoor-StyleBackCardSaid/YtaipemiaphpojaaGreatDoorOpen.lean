/- The argument, opened: a slice of rules, its cells, its sizes. -/
import Derived.Test.YtaipemiaphpojaaGreatDoorRules
import Derived.Deep.SlicePairs
import Derived.Lib.SmallJoins
import Derived.SizedLaws
import Derived.ProofKit
namespace Go.Proofs.YtaipemiaphpojaaGreatDoor
open Go Go.Proofs Go.RowKit Go.Deep Go.Joins Go.ChangeShapes Go.WideShapes Go.ChangeMaps Go.ChangeAt
instance : Inhabited Rl := ⟨⟨⟨#[]⟩, false, false, false, 0, 0⟩⟩
theorem cells33 : Tryz.prog.cellsOf 33 = 6 := by kernel_rfl
theorem cells30 : Tryz.prog.cellsOf 30 = 4 := by kernel_rfl
theorem cells31 : Tryz.prog.cellsOf 31 = 1 := by kernel_rfl
theorem cells3 : Tryz.prog.cellsOf 3 = 1 := by kernel_rfl
theorem cells9 : Tryz.prog.cellsOf 9 = 1 := by kernel_rfl
theorem cells4 : Tryz.prog.cellsOf 4 = 1 := by kernel_rfl
theorem weights_mem_all {H : Type} {P : Program} {e : TypeId} : ∀ {ds : List (DataW H)} {d : DataW H}, d ∈ ds → ∀ n ∈ d.weights P e, n ∈ DataW.weightsAll P e ds
  | [], _, h, _, _ => by cases h
  | d0 :: ds, d, h, n, hn => by
    simp only [DataW.weightsAll, List.mem_append]
    rcases List.mem_cons.1 h with rfl | h
    · exact Or.inl hn
    · exact Or.inr (weights_mem_all h n hn)
section
variable {H : Type} {enc : TypeId × Value → H} {w : World} {base : Nat} {spare : Nat → Bool} {held : Bool}
set_option maxRecDepth 100000 in
theorem open_rule {n : Nat} {cs : List Value} {x : DataW H × List MemPlace} (h : DataW.trod enc Tryz.prog w base spare held n 33 cs = some x) :
    ∃ r : Rl, cs = r.cells ∧ 0 ≤ r.style ∧ r.style ≤ 65535 ∧ r.text.size ∈ x.1.weights Tryz.prog 33 := by
  obtain ⟨xs, k, hk, rfl, hl, hxl, hf⟩ := DataW.trod_struct Tryz.underlying33 h
  rw [cells33] at hl
  match xs, hxl, cs, hl with
  | [y0, y1, y2], _, [c0, c1, c2, c3, c4, c5], _ =>
    have g0 := hf 0 _ rfl
    have g1 := hf 1 _ rfl
    have g2 := hf 2 _ rfl
    simp [cells30, cells31, cells3] at g0 g1 g2
    obtain ⟨z0, z1, z2, z3, k2, rfl, _, q0, q1, q2, q3⟩ := trod_struct4 Tryz.underlying30 g0
    simp [cells9, cells4] at q0 q1 q2 q3
    obtain ⟨s, e0, rfl, _⟩ := DataW.trod_string Tryz.underlying9 q0
    obtain ⟨b1, e1, rfl⟩ := DataW.trod_bool Tryz.underlying4 q1
    obtain ⟨b2, e2, rfl⟩ := DataW.trod_bool Tryz.underlying4 q2
    obtain ⟨b3, e3, rfl⟩ := DataW.trod_bool Tryz.underlying4 q3
    obtain ⟨n4, e4, rfl, w4⟩ := DataW.trod_int Tryz.underlying31 g1
    obtain ⟨n5, e5, rfl, w5⟩ := DataW.trod_int Tryz.underlying3 g2
    simp only [List.cons.injEq, and_true] at e0 e1 e2 e3 e4 e5
    subst e0 e1 e2 e3 e4 e5
    have hb : 0 ≤ n4 ∧ n4 ≤ 65535 := by
      have h0 : IntKind.u16.min = 0 := rfl
      have h1 : IntKind.u16.max = 65535 := rfl
      simp [Lit.wf] at w4
      omega
    refine ⟨⟨s, b1, b2, b3, n4, n5⟩, rfl, hb.1, hb.2, ?_⟩
    simp [DataW.weights, Tryz.underlying33, Tryz.underlying30, DataW.weightsEach]
theorem open_rules {n : Nat} {cs : List Value} {x : DataW H × List MemPlace} (h : DataW.trod enc Tryz.prog w base spare held n 22 cs = some x) :
    ∃ (A : Option Addr) (c : Nat) (l : List Rl), cs = [.slice A l.length c] ∧ l.length ≤ c ∧ (A = none → c = 0 ∧ l = []) ∧ RulesAt w A l ∧
      ∀ r ∈ l, 0 ≤ r.style ∧ r.style ≤ 65535 ∧ r.text.size ∈ x.1.weights Tryz.prog 22 := by
  rcases open_slice Tryz.underlying22 h with ⟨rfl, rfl⟩ | ⟨a, len, cap, m, k, D, Pl, rfl, hb, hl, hm, hmm, rfl, hx⟩
  · exact ⟨none, 0, [], rfl, by simp, fun _ => ⟨rfl, rfl⟩, .inl rfl, by simp⟩
  have hlm : len ≤ m := by rw [hmm]; split <;> omega
  have each : ∀ i, i < m → ∃ r : Rl, (∀ j u, r.cells[j]? = some u → w.cell? (a.add (i * 6 + j)) = some u) ∧ 0 ≤ r.style ∧ r.style ≤ 65535 ∧ r.text.size ∈ (D i).weights Tryz.prog 33 := by
    intro i hi
    obtain ⟨cs', h1, h2⟩ := hx i hi
    rw [cells33] at h1
    obtain ⟨r, rfl, hr⟩ := open_rule h2
    obtain ⟨_, hlen, hcell⟩ := World.cells?_some h1
    refine ⟨r, fun j u hj => ?_, hr⟩
    have e := hcell j (by have := (List.getElem?_eq_some_iff.1 hj).1; simpa [Rl.cells] using this)
    rw [add_add] at e
    rw [e, hj]
  obtain ⟨q, hq⟩ := choose_lt each
  refine ⟨some a, cap, (List.range len).map q, by simp, by simpa using hl, (fun h => by cases h), .inr ⟨a, rfl, fun i r hi => ?_⟩, fun r hr => ?_⟩
  · simp only [List.getElem?_map, Option.map_eq_some_iff] at hi
    obtain ⟨i', hi', rfl⟩ := hi
    have := List.getElem?_eq_some_iff.1 hi'
    simp at this
    obtain ⟨h1, rfl⟩ := this
    exact (hq i (by omega)).1
  · obtain ⟨i, hi, rfl⟩ := List.mem_map.1 hr
    have hi' := List.mem_range.1 hi
    obtain ⟨_, h1, h2, h3⟩ := hq i (by omega)
    refine ⟨h1, h2, ?_⟩
    simp only [DataW.weights, Tryz.underlying22, List.mem_cons, List.mem_append]
    exact .inr (.inl (weights_mem_all (List.mem_map.2 ⟨i, hi, rfl⟩) _ h3))
end
end Go.Proofs.YtaipemiaphpojaaGreatDoor
