/- strconv.ParseUint(s, 16, 8) of two bytes: the public function. -/
import Derived.Test.YtaipemiaphpojaaGreatDoorHexu
import Derived.OwnWalk
namespace Go.Proofs.YtaipemiaphpojaaGreatDoor
open Go Go.Proofs Go.RowKit
/-- A variable that holds an error, or none. -/
def ErrAt (w : World) (n : Nat) : Prop := ∃ ev, w.cell? ⟨n, 0, none⟩ = some ev ∧ (ev = .nilIface ∨ ∃ te pe, ev = .iface te pe)
theorem ErrAt.onward {w w' : World} {n : Nat} (h : ErrAt w n) (hb : Below w.heap.size w w') : ErrAt w' n := by
  obtain ⟨ev, h1, h2⟩ := h
  exact ⟨ev, cell_onward hb h1, h2⟩
def HexRes (o : Option Nat) (e : Ending) : Prop := match o with
  | some v => e = .returned (.tuple #[.int .u64 (v : Int), .nilIface])
  | none => ∃ n T p, e = .returned (.tuple #[.int .u64 n, .iface T p])
set_option maxHeartbeats 4000000 in
set_option maxRecDepth 1000000 in
theorem hexu_walk (t : ByteArray) (h2 : t.size = 2) (w : World) (hv : ErrAt w 5) :
    Calls Tryz.prog 88 #[.string t, .int .i64 16, .int .i64 8] w fun e w' => HexRes (hexU 0 t.data.toList) e ∧ Below w.heap.size w w' := by
  obtain ⟨ev, hv, hev⟩ := hv
  have hb : Below w.heap.size w (Lib.bytesWorld w 5 t) := Lib.bytesWorld_below _ _ _
  have hv1 := cell_onward hb hv
  have hI := hexu_inner t h2 w
  cases h : hexU 0 t.data.toList with
  | some v =>
    rw [h] at hI
    have hI : Calls Tryz.prog 110 #[.string t, .int .i64 16, .int .i64 8] w fun e w' => e = .returned (.tuple #[.int .u64 (v : Int), .nilIface]) ∧ w' = Lib.bytesWorld w 5 t := hI
    go_enter Tryz.func88, Tryz.ntmps88
    go_wp2_with (go_at_call 110; refine hI.mono ?_)
    rintro e w' ⟨rfl, rfl⟩
    go_wp2
    go_ret2
    exact ⟨rfl, hb⟩
  | none =>
    rw [h] at hI
    have hI : Calls Tryz.prog 110 #[.string t, .int .i64 16, .int .i64 8] w fun e w' => e = .returned (.tuple #[.int .u64 0, .iface 243 (.int .i64 2)]) ∧ w' = Lib.bytesWorld w 5 t := hI
    go_enter Tryz.func88, Tryz.ntmps88
    go_wp2_with (go_at_call 110; refine hI.mono ?_)
    rintro e w' ⟨rfl, rfl⟩
    go_wp2_with (go_at_call 111; refine (Tryz.strconv_toError_syntax _ _ _ _ ev _ (by omega) hv1 hev).mono ?_)
    rintro e w' ⟨N, rfl, -, -, hb'⟩
    go_wp2
    go_ret2
    exact ⟨⟨_, _, _, rfl⟩, hb.trans (hb'.mono hb.size)⟩
end Go.Proofs.YtaipemiaphpojaaGreatDoor
