/- style.fail: it panics with a new fault. -/
import Derived.Test.YtaipemiaphpojaaGreatDoorSUnq
import Derived.WalkSmall
namespace Go.Proofs.YtaipemiaphpojaaGreatDoor
open Go Go.Proofs Go.RowKit
/-- A word as style holds it. -/
structure SW where
  text : ByteArray
  value : ByteArray
  place : Int
  quoted : Bool
  broken : Bool
def SW.cells (x : SW) : List Value := [.string x.text, .string x.value, .int .i64 x.place, .bool x.quoted, .bool x.broken]
/-- The call ends with a panic: a fault that was made behind 'B'. -/
def Faulted (B : Nat) (f : Flt) (e : Ending) (w' : World) : Prop :=
  ∃ q, B ≤ q ∧ e = .panicked [{ v := .iface 91 (.pointer (some ⟨q, 0, none⟩)), recovered := false }] ∧ w'.heap[q]? = some (.cells #[.int .i64 f.1, .int .i64 f.2.1, .string ⟨f.2.2.toArray⟩] 60 (0, 0))
theorem Faulted.mono {B B' : Nat} {f : Flt} {e : Ending} {w' : World} (h : Faulted B f e w') (hB : B' ≤ B) : Faulted B' f e w' := by
  obtain ⟨q, h1, h2, h3⟩ := h
  exact ⟨q, by omega, h2, h3⟩
set_option maxHeartbeats 4000000 in
set_option maxRecDepth 1000000 in
theorem fail_walk (c : Int) (x : SW) (t : List UInt8) (ht : x.text = ⟨t.toArray⟩) (w : World) :
    Calls Tryz.prog 46 #[.int .i64 c, .agg x.cells.toArray] w fun e w' => Faulted w.heap.size (c, x.place, t) e w' ∧ Below w.heap.size w w' := by
  obtain ⟨a, b, p, q, r⟩ := x
  dsimp only at ht
  subst ht
  simp only [SW.cells]
  go_enter Tryz.func46, Tryz.ntmps46
  go_wp2
  refine ⟨rfl, ⟨w.heap.size + 1, by omega, rfl, ?_⟩, ((Below.refl _ w).alloc (Nat.le_refl _) _).alloc (by simp) _⟩
  have h := heap_alloc_new (w.alloc (.cells #[.string ⟨t.toArray⟩, .string b, .int .i64 p, .bool q, .bool r] 130)) (.cells #[.int .i64 c, .int .i64 p, .string ⟨t.toArray⟩] 60)
  simpa using h
theorem fail_e (c : Int) (a v : ByteArray) (p : Int) (q b : Bool) (t : List UInt8) (ht : a = ⟨t.toArray⟩) (w : World) :
    Calls Tryz.prog 46 #[.int .i64 c, .agg #[.string a, .string v, .int .i64 p, .bool q, .bool b]] w fun e w' => Faulted w.heap.size (c, p, t) e w' ∧ Below w.heap.size w w' :=
  fail_walk c ⟨a, v, p, q, b⟩ t ht w
end Go.Proofs.YtaipemiaphpojaaGreatDoor
