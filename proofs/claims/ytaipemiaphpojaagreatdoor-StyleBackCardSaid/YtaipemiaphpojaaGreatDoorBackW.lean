/- shuttlelaw23.StyleBack: the law says true. -/
import Derived.Test.YtaipemiaphpojaaGreatDoorPWalk
import Derived.Test.YtaipemiaphpojaaGreatDoorSame
namespace Go.Proofs.YtaipemiaphpojaaGreatDoor
open Go Go.Proofs Go.RowKit
theorem Env.tabBelow {w : World} (h : Env w) (h9 : 9 ≤ w.heap.size) : Lib.TabBelow Tryz.prog w.heap.size w "internal/strconv.uint64pow10" .u64 Lib.pow10Tab := fun w' hb => h.tab w' (hb.mono h9)
theorem Rest.on {w w' : World} (h : Rest w) (hb : Below w.heap.size w w') : Rest w' := fun w'' hb' => h w'' (hb.trans (hb'.mono hb.size))
theorem parse_ok_walk (b : List UInt8) (l : List Rl) (w : World) (hE : Env w) (h9 : 9 ≤ w.heap.size) (hp : parseP b = .ok l) :
    Calls Tryz.prog 20 #[.string ⟨b.toArray⟩] w fun e w' => (∃ A cap, e = .returned (.tuple #[.slice A l.length cap, .nilIface]) ∧ l.length ≤ cap ∧ RulesAt w' A l) ∧ Below w.heap.size w w' := by
  refine (parse_walk ⟨b.toArray⟩ w hE h9).mono ?_
  rintro e w' ⟨hr, hb⟩
  refine ⟨?_, hb⟩
  unfold ParseRes at hr
  rw [show (⟨b.toArray⟩ : ByteArray).data.toList = b from rfl, hp] at hr
  obtain ⟨v, rfl, ho⟩ := hr
  obtain ⟨A, cap, rfl, h1, h2⟩ := rows_new ho
  exact ⟨A, cap, rfl, h1, h2⟩
theorem printP_cases (l : List Rl) : (∃ b, printP l = (b, 0)) ∨ printP l = ([], 3) ∨ printP l = ([], 230) := by
  unfold printP
  split
  · exact .inr (.inl rfl)
  split
  · exact .inr (.inr rfl)
  · rcases goP_three l [] with h | h
    · exact .inl ⟨_, Prod.ext rfl h⟩
    · exact .inr (.inl h)
set_option maxHeartbeats 4000000 in
set_option maxRecDepth 1000000 in
theorem back_walk (A : Option Addr) (c : Nat) (l : List Rl) (s : ByteArray) (w : World) (hC : RulesAt w A l) (hc : l.length ≤ c) (hk : ∀ r ∈ l, r.ok)
    (hE : Env w) (h9 : 9 ≤ w.heap.size) (hw : Rest w) :
    Calls Tryz.prog 6 #[.slice A l.length c, .string s] w fun e w' => e = .returned (.bool true) ∧ Below w.heap.size w w' := by
  have HK := Lib.hid hk
  clear hk
  go_enter Tryz.func6, Tryz.ntmps6
  go_wp2_with (go_at_call 9; refine (hidC (beyond_walk A c l _ hC HK.out)).mono ?_)
  intro e W0 hh
  obtain ⟨⟨b, rfl, hbl⟩, hb0⟩ := hh.out
  clear hh
  cases b with
  | true =>
    go_wp2_with (go_at_call 10; refine (hidC (hw _ hb0)).mono ?_)
    intro e W1 hh
    obtain ⟨rfl, hb1⟩ := hh.out
    clear hh
    go_wp2
    go_ret
    exact ⟨rfl, hb0.trans (hb1.mono hb0.size)⟩
  | false =>
    obtain ⟨hlen, -⟩ := hbl rfl
    clear hbl
    go_wp2_with (go_at_call 10; refine (hidC (hw _ hb0)).mono ?_)
    intro e W1 hh
    obtain ⟨rfl, hb1⟩ := hh.out
    clear hh
    have hB1 := hb0.trans (hb1.mono hb0.size)
    have hC1 := hC.onward hB1
    have hE1 := hE.keep (hB1.mono h9)
    have hz1 := hB1.size
    have hw1 := hw.on hB1
    clear hb0 hb1 hC hw
    go_wp2_with (go_at_call 11; refine (hidC (print_walk A c l _ hC1 hc HK.out (hE1.tabBelow (by omega)))).mono ?_)
    intro e W2 hh
    obtain ⟨rfl, hb2⟩ := hh.out
    clear hh
    have hB2 := hB1.trans (hb2.mono hz1)
    have hC2 := hC1.onward hb2
    have hE2 := hE1.keep (hb2.mono (by omega))
    have hz2 := hB2.size
    clear hB1 hC1 hE1 hb2 hw1
    rcases printP_cases l with ⟨b, hb⟩ | hb | hb
    · rw [hb]
      dsimp only
      have hpl := parse_print l b (fun x hx => ⟨(HK.out x hx).1, (HK.out x hx).2.1⟩) hb
      go_wp2_with (go_at_call 20; refine (hidC (parse_ok_walk b l _ hE2 (by omega) hpl)).mono ?_)
      intro e W3 hh
      obtain ⟨⟨A3, c3, rfl, h3, hR3⟩, hb3⟩ := hh.out
      clear hh
      have hB3 := hB2.trans (hb3.mono hz2)
      have hC3 := hC2.onward hb3
      have hE3 := hE2.keep (hb3.mono (by omega))
      have hz3 := hB3.size
      clear hB2 hC2 hE2 hb3
      go_wp2_with (go_at_call 13; refine (hidC (same_walk A3 A c3 c l _ hR3 hC3 hlen)).mono ?_)
      intro e W4 hh
      obtain ⟨rfl, hb4⟩ := hh.out
      clear hh
      have hB4 := hB3.trans (hb4.mono hz3)
      have hE4 := hE3.keep (hb4.mono (by omega))
      have hz4 := hB4.size
      clear hB3 hC3 hE3 hb4 hR3
      go_wp2_with fail
      refine (hidC (parse_walk s W4 hE4 (by omega))).mono ?_
      intro e V1 hh
      obtain ⟨hres, hv1⟩ := hh.out
      clear hh
      have hD1 := hB4.trans (hv1.mono hB4.size)
      unfold ParseRes at hres
      cases hp : parseP s.data.toList with
      | error f =>
        rw [hp] at hres
        obtain ⟨q, hq, rfl, hcc⟩ := hres
        go_wp2
        go_ret
        exact ⟨rfl, hD1⟩
      | ok k =>
        rw [hp] at hres
        obtain ⟨v, rfl, ho⟩ := (hres : ∃ v, e = .returned (.tuple #[v, .nilIface]) ∧ V1.ownsRow (W4).heap.size 33 6 v k.length (k.flatMap Rl.cells))
        obtain ⟨A5, c5, rfl, h5, hR5⟩ := rows_new ho
        clear ho
        obtain ⟨hp1, hp2, hp3, hp4⟩ := parse_inv hp
        have hkok : ∀ x ∈ k, x.ok := fun x hx => ⟨(hp3 x hx).1.1, (hp3 x hx).1.2.1, by have := (hp3 x hx).2; omega⟩
        have hs5 : ∀ x ∈ k, 0 ≤ x.style ∧ x.style ≤ 65535 := fun x hx => ⟨(hp3 x hx).1.1, (hp3 x hx).1.2.1⟩
        have hEv := hE4.keep (hv1.mono (by omega))
        have hzv := hD1.size
        have HKO := Lib.hid hkok
        have HS5 := Lib.hid hs5
        clear hkok hs5 hp3 hp4
        go_wp2_with (go_at_call 11; refine (hidC (print_walk A5 c5 k _ hR5 h5 HKO.out (hEv.tabBelow (by omega)))).mono ?_)
        intro e V2 hh
        obtain ⟨rfl, hv2⟩ := hh.out
        clear hh
        have hD2 := hD1.trans (hv2.mono hzv)
        have hR6 := hR5.onward hv2
        have hEw := hEv.keep (hv2.mono (by omega))
        have hzw := hD2.size
        clear hD1 hv1 hv2 hR5 hEv
        rcases print_parsed hp with ⟨b2, hb2⟩ | ⟨hb2, hlong⟩
        · rw [hb2]
          dsimp only
          have hpb := parse_print k b2 HS5.out hb2
          go_wp2_with (go_at_call 20; refine (hidC (parse_ok_walk b2 k _ hEw (by omega) hpb)).mono ?_)
          intro e V3 hh
          obtain ⟨⟨A7, c7, rfl, h7, hR7⟩, hv3⟩ := hh.out
          clear hh
          have hD3 := hD2.trans (hv3.mono hzw)
          have hR8 := hR6.onward hv3
          go_wp2_with (go_at_call 13; refine (hidC (same_walk A7 A5 c7 c5 k _ hR7 hR8 (by omega))).mono ?_)
          intro e V4 hh
          obtain ⟨rfl, hv4⟩ := hh.out
          clear hh
          go_wp2
          go_ret
          exact ⟨rfl, hD3.trans (hv4.mono hD3.size)⟩
        · rw [hb2]
          dsimp only
          have hsz : s.data.toList.length = s.size := by rw [Array.length_toList]; rfl
          have hlo : (262144 : Int) < (s.size : Int) := by omega
          go_wp2
          go_ret
          exact ⟨rfl, hD2⟩
    · rw [hb]
      dsimp only
      go_wp2_with fail
      refine (hidC (parse_walk s W2 hE2 (by omega))).mono ?_
      intro e V1 hh
      obtain ⟨hres, hv1⟩ := hh.out
      clear hh
      have hD1 := hB2.trans (hv1.mono hB2.size)
      unfold ParseRes at hres
      cases hp : parseP s.data.toList with
      | error f =>
        rw [hp] at hres
        obtain ⟨q, hq, rfl, hcc⟩ := hres
        go_wp2
        go_ret
        exact ⟨rfl, hD1⟩
      | ok k =>
        rw [hp] at hres
        obtain ⟨v, rfl, ho⟩ := (hres : ∃ v, e = .returned (.tuple #[v, .nilIface]) ∧ V1.ownsRow (W2).heap.size 33 6 v k.length (k.flatMap Rl.cells))
        obtain ⟨A5, c5, rfl, h5, hR5⟩ := rows_new ho
        clear ho
        obtain ⟨hp1, hp2, hp3, hp4⟩ := parse_inv hp
        have hkok : ∀ x ∈ k, x.ok := fun x hx => ⟨(hp3 x hx).1.1, (hp3 x hx).1.2.1, by have := (hp3 x hx).2; omega⟩
        have hs5 : ∀ x ∈ k, 0 ≤ x.style ∧ x.style ≤ 65535 := fun x hx => ⟨(hp3 x hx).1.1, (hp3 x hx).1.2.1⟩
        have hEv := hE2.keep (hv1.mono (by omega))
        have hzv := hD1.size
        have HKO := Lib.hid hkok
        have HS5 := Lib.hid hs5
        clear hkok hs5 hp3 hp4
        go_wp2_with (go_at_call 11; refine (hidC (print_walk A5 c5 k _ hR5 h5 HKO.out (hEv.tabBelow (by omega)))).mono ?_)
        intro e V2 hh
        obtain ⟨rfl, hv2⟩ := hh.out
        clear hh
        have hD2 := hD1.trans (hv2.mono hzv)
        have hR6 := hR5.onward hv2
        have hEw := hEv.keep (hv2.mono (by omega))
        have hzw := hD2.size
        clear hD1 hv1 hv2 hR5 hEv
        rcases print_parsed hp with ⟨b2, hb2⟩ | ⟨hb2, hlong⟩
        · rw [hb2]
          dsimp only
          have hpb := parse_print k b2 HS5.out hb2
          go_wp2_with (go_at_call 20; refine (hidC (parse_ok_walk b2 k _ hEw (by omega) hpb)).mono ?_)
          intro e V3 hh
          obtain ⟨⟨A7, c7, rfl, h7, hR7⟩, hv3⟩ := hh.out
          clear hh
          have hD3 := hD2.trans (hv3.mono hzw)
          have hR8 := hR6.onward hv3
          go_wp2_with (go_at_call 13; refine (hidC (same_walk A7 A5 c7 c5 k _ hR7 hR8 (by omega))).mono ?_)
          intro e V4 hh
          obtain ⟨rfl, hv4⟩ := hh.out
          clear hh
          go_wp2
          go_ret
          exact ⟨rfl, hD3.trans (hv4.mono hD3.size)⟩
        · rw [hb2]
          dsimp only
          have hsz : s.data.toList.length = s.size := by rw [Array.length_toList]; rfl
          have hlo : (262144 : Int) < (s.size : Int) := by omega
          go_wp2
          go_ret
          exact ⟨rfl, hD2⟩
    · rw [hb]
      dsimp only
      go_wp2_with fail
      refine (hidC (parse_walk s W2 hE2 (by omega))).mono ?_
      intro e V1 hh
      obtain ⟨hres, hv1⟩ := hh.out
      clear hh
      have hD1 := hB2.trans (hv1.mono hB2.size)
      unfold ParseRes at hres
      cases hp : parseP s.data.toList with
      | error f =>
        rw [hp] at hres
        obtain ⟨q, hq, rfl, hcc⟩ := hres
        go_wp2
        go_ret
        exact ⟨rfl, hD1⟩
      | ok k =>
        rw [hp] at hres
        obtain ⟨v, rfl, ho⟩ := (hres : ∃ v, e = .returned (.tuple #[v, .nilIface]) ∧ V1.ownsRow (W2).heap.size 33 6 v k.length (k.flatMap Rl.cells))
        obtain ⟨A5, c5, rfl, h5, hR5⟩ := rows_new ho
        clear ho
        obtain ⟨hp1, hp2, hp3, hp4⟩ := parse_inv hp
        have hkok : ∀ x ∈ k, x.ok := fun x hx => ⟨(hp3 x hx).1.1, (hp3 x hx).1.2.1, by have := (hp3 x hx).2; omega⟩
        have hs5 : ∀ x ∈ k, 0 ≤ x.style ∧ x.style ≤ 65535 := fun x hx => ⟨(hp3 x hx).1.1, (hp3 x hx).1.2.1⟩
        have hEv := hE2.keep (hv1.mono (by omega))
        have hzv := hD1.size
        have HKO := Lib.hid hkok
        have HS5 := Lib.hid hs5
        clear hkok hs5 hp3 hp4
        go_wp2_with (go_at_call 11; refine (hidC (print_walk A5 c5 k _ hR5 h5 HKO.out (hEv.tabBelow (by omega)))).mono ?_)
        intro e V2 hh
        obtain ⟨rfl, hv2⟩ := hh.out
        clear hh
        have hD2 := hD1.trans (hv2.mono hzv)
        have hR6 := hR5.onward hv2
        have hEw := hEv.keep (hv2.mono (by omega))
        have hzw := hD2.size
        clear hD1 hv1 hv2 hR5 hEv
        rcases print_parsed hp with ⟨b2, hb2⟩ | ⟨hb2, hlong⟩
        · rw [hb2]
          dsimp only
          have hpb := parse_print k b2 HS5.out hb2
          go_wp2_with (go_at_call 20; refine (hidC (parse_ok_walk b2 k _ hEw (by omega) hpb)).mono ?_)
          intro e V3 hh
          obtain ⟨⟨A7, c7, rfl, h7, hR7⟩, hv3⟩ := hh.out
          clear hh
          have hD3 := hD2.trans (hv3.mono hzw)
          have hR8 := hR6.onward hv3
          go_wp2_with (go_at_call 13; refine (hidC (same_walk A7 A5 c7 c5 k _ hR7 hR8 (by omega))).mono ?_)
          intro e V4 hh
          obtain ⟨rfl, hv4⟩ := hh.out
          clear hh
          go_wp2
          go_ret
          exact ⟨rfl, hD3.trans (hv4.mono hD3.size)⟩
        · rw [hb2]
          dsimp only
          have hsz : s.data.toList.length = s.size := by rw [Array.length_toList]; rfl
          have hlo : (262144 : Int) < (s.size : Int) := by omega
          go_wp2
          go_ret
          exact ⟨rfl, hD2⟩
end Go.Proofs.YtaipemiaphpojaaGreatDoor
