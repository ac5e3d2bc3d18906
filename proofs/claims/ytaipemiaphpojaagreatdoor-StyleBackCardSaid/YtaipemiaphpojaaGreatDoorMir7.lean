/- The mirror, part 7 of 8: a deterministic evaluator of the code, which the kernel runs, and the proof that what it says of a call, the machine does, in every memory and on every tape. No condition. -/
import Derived.Test.YtaipemiaphpojaaGreatDoorMir6
import Derived.Lay
import Derived.LaidHandle
import Derived.LaidLaws
import Derived.LaidMore
import Derived.Laws.Externs
import Derived.Lib.Bytealg
import Derived.IntWalk
import Derived.Lib.TrimUEq
import Derived.Shelf.Unicode.DecodeSlow

/-! THE MIRROR, LAWS 38: a world in which the listed variables lie, for the witness: handles written by hand, the rest by the library's function. -/
namespace Go.Mir
noncomputable section
def setRowAt (h : Array Obj) (g : Nat) (v : Value) : Array Obj := h.modify g fun
  | .cells _ t fz => .cells #[v] t fz
  | o => o
/-- The outside world's first memory, handles laid. -/
def baseW (P : Program) (os : Os) (hs : List (Nat × Value)) : World :=
  { World.holding P os ⟨#[], #[], []⟩ with heap := hs.foldl (fun h x => setRowAt h x.1 x.2) (World.holding P os ⟨#[], #[], []⟩).heap }
def laidW (P : Program) (os : Os) (hs : List (Nat × Value)) (laid : List (String × DataW Unit)) : World := (baseW P os hs).layVars P laid
theorem laidW_os (P : Program) (os : Os) (hs : List (Nat × Value)) (laid : List (String × DataW Unit)) : (laidW P os hs laid).os = os := World.layVars_os _ _ _
theorem laidW_met {P : Program} {os : Os} {hs : List (Nat × Value)} {laid : List (String × DataW Unit)} (args : Array Value)
    (hf : (baseW P os hs).layFits P laid [] = true) (hi : (baseW P os hs).layIfaces P laid (laidW P os hs laid) = true) :
    laidMet P laid ((laidW P os hs laid).forCall (fun _ _ => 0) ⟨#[], args, []⟩).memory := by
  have e1 : (laid.filter fun x => (laid.map (·.1)).contains x.1) = laid := List.filter_eq_self.2 fun x hx => List.contains_iff_mem.2 (List.mem_map.2 ⟨x, hx, rfl⟩)
  have e2 : (laid.filter fun x => !(laid.map (·.1)).contains x.1) = [] := List.filter_eq_nil_iff.2 fun x hx => by rw [List.contains_iff_mem.2 (List.mem_map.2 ⟨x, hx, rfl⟩)]; simp
  have h : laidMet P laid (laidW P os hs laid) := laidMet_layVars (w0 := baseW P os hs) (laid.map (·.1)) [] (by rw [e1]; rfl) (by rw [e1]; exact hf) (by rw [e1]; exact hi) (by rw [e2]; exact LaidIn.none)
  exact h.of_heap (by simp [World.memory, World.forCall, Input.heap])
end
end Go.Mir

/-! THE MIRROR, LAWS 39: hooks for functions without a Go body: abi.NoEscape, bytealg's two on texts; hooks side by side. -/
namespace Go.Mir
noncomputable section
section
variable {P : Program} {μ : Mp} {m m' : Mem} {w : World}

/-- A function that the model answers itself, and that looks at no memory. -/
theorem upon_extern {f : FuncId} {fn : Func} {e : Array Value → Sem Value} (hf : P.funcs[f]? = some fn) (hname : (fn.name == "runtime.NumGoroutine") = false) (hb : fn.body.isNone = true) (hn : Extern.findNext fn = none) (he : Extern.find fn = some e)
    (h : Rel P μ m w) {us : List Value} {u : Value} {v : MV} (hr : (e us.toArray).run P w = .ok u w) (ht : tr μ v = some u) : Upon P μ m w v m (callFunc f us.toArray) := by
  refine Runs.upon ⟨u, w, μ, .inl ?_, ht, h, Ext.refl _ _ _⟩
  rw [run_callFunc_extern hf hname hb hn he, hr]
  rfl
structure ExtF (P : Program) (f : FuncId) (e : Array Value → Sem Value) : Prop where
  fn : ∃ fn, P.funcs[f]? = some fn ∧ (fn.name == "runtime.NumGoroutine") = false ∧ fn.body.isNone = true ∧ Extern.findNext fn = none ∧ Extern.find fn = some e

def hookSame (f : Nat) : Hook := fun g args m => match Nat.beq g f with
  | false => none
  | true => match args with | [x] => some (x, m) | _ => none
theorem hookSame_sound {f : Nat} (F : ExtF P f Extern.AbiNoEscape.same) : HookS P (hookSame f) := by
  intro g args m v m' hx μ w us h _ hu
  unfold hookSame at hx
  cases hg : Nat.beq g f with
  | false => rw [hg] at hx; cases hx
  | true =>
    obtain rfl : g = f := Nat.eq_of_beq_eq_true hg
    rw [hg] at hx
    simp only [] at hx
    split at hx
    · cases hx
      obtain ⟨u, us', rfl, k1, k2⟩ := trs_cons hu
      have := trs_nil k2
      subst this
      obtain ⟨fn, f1, f2, f3, f4, f5⟩ := F.fn
      exact upon_extern f1 f2 f3 f4 f5 h (u := u) rfl k1
    · cases hx

def idxB (c : Nat) : List UInt8 → Nat → Option Nat
  | [], _ => none
  | b :: l, i => match Nat.beq b.toNat c with | true => some i | false => idxB c l (i + 1)
theorem idxB_spec (c : UInt8) : ∀ (l : List UInt8) (i : Nat), (Lib.indexByte l c = -1 ∧ idxB c.toNat l i = none) ∨ ∃ k : Nat, Lib.indexByte l c = k ∧ idxB c.toNat l i = some (i + k)
  | [], i => .inl ⟨rfl, rfl⟩
  | b :: l, i => by
    have hbc : Nat.beq b.toNat c.toNat = (b == c) := by
      rw [Bool.eq_iff_iff]
      simp [Nat.beq_eq, UInt8.toNat_inj]
    rw [idxB, hbc]
    unfold Lib.indexByte
    cases b == c with
    | true => exact .inr ⟨0, rfl, rfl⟩
    | false =>
      rcases idxB_spec c l (i + 1) with ⟨h1, h2⟩ | ⟨k, h1, h2⟩
      · exact .inl ⟨by rw [h1]; rfl, h2⟩
      · refine .inr ⟨k + 1, ?_, by show idxB c.toNat l (i + 1) = _; rw [h2]; congr 1; omega⟩
        have hk : ((k : Int) == -1) = false := by
          rw [beq_eq_false_iff_ne]; omega
        rw [h1, hk]
        rfl
def hookIdx (f : Nat) : Hook := fun g args m => match Nat.beq g f with
  | false => none
  | true => match args with
    | [.str s, .int .u8 (.ofNat c)] => match Nat.blt c 256 with
      | false => none
      | true => match idxB c s 0 with
        | some i => some (.int .i64 (.ofNat i), m)
        | none => some (.int .i64 (.negSucc 0), m)
    | _ => none
theorem hookIdx_sound {f : Nat} (F : ExtF P f Extern.BytealgIndexByte.indexByte) : HookS P (hookIdx f) := by
  intro g args m v m' hx μ w us h _ hu
  unfold hookIdx at hx
  cases hg : Nat.beq g f with
  | false => rw [hg] at hx; cases hx
  | true =>
    obtain rfl : g = f := Nat.eq_of_beq_eq_true hg
    rw [hg] at hx
    simp only [] at hx
    split at hx
    · rename_i s c
      cases hc : Nat.blt c 256 with
      | false => rw [hc] at hx; cases hx
      | true =>
        rw [hc] at hx
        have hlt := blt_lt hc
        obtain ⟨u, us', rfl, k1, k2⟩ := trs_cons hu
        obtain ⟨u2, us'', rfl, k3, k4⟩ := trs_cons k2
        have := trs_nil k4
        subst this
        cases k1
        cases k3
        obtain ⟨fn, f1, f2, f3, f4, f5⟩ := F.fn
        have e1 : ((Int.ofNat c).toNat.toUInt8).toNat = c := by
          show (c.toUInt8).toNat = c
          simp only [Nat.toUInt8, UInt8.toNat_ofNat']
          omega
        have hr := Lib.run_indexByteString (P := P) ⟨⟨s⟩⟩ (Int.ofNat c) w
        have hi := idxB_spec ((Int.ofNat c).toNat.toUInt8) s 0
        rw [e1] at hi
        rcases hi with ⟨h1, h2⟩ | ⟨k, h1, h2⟩
        · rw [h2] at hx
          cases hx
          exact upon_extern f1 f2 f3 f4 f5 h (u := .int .i64 (-1)) (by rw [← h1]; exact hr) rfl
        · rw [h2] at hx
          cases hx
          exact upon_extern f1 f2 f3 f4 f5 h (u := .int .i64 k) (by rw [← h1]; exact hr) (by simp [tr])
    · cases hx

def cntB (c : Nat) : List UInt8 → Nat → Nat
  | [], n => n
  | b :: l, n => match Nat.beq b.toNat c with | true => cntB c l (n + 1) | false => cntB c l n
theorem cntB_spec (c : UInt8) : ∀ (l : List UInt8) (n : Nat), cntB c.toNat l n = n + Lib.countByte l c
  | [], n => by simp [cntB, Lib.countByte]
  | b :: l, n => by
    have hbc : Nat.beq b.toNat c.toNat = (b == c) := by
      rw [Bool.eq_iff_iff]
      simp [Nat.beq_eq, UInt8.toNat_inj]
    have ih := cntB_spec c l
    unfold Lib.countByte at ih ⊢
    rw [cntB, hbc, List.count_cons]
    cases b == c with
    | true => rw [ih (n + 1)]; simp; omega
    | false => rw [ih n]; simp
def hookCnt (f : Nat) : Hook := fun g args m => match Nat.beq g f with
  | false => none
  | true => match args with
    | [.str s, .int .u8 (.ofNat c)] => match Nat.blt c 256 with
      | false => none
      | true => Nat.rec (motive := fun _ => Option (MV × Mem)) (some (.int .i64 (.ofNat 0), m)) (fun n _ => some (.int .i64 (.ofNat (n + 1)), m)) (cntB c s 0)
    | _ => none
theorem hookCnt_sound {f : Nat} (F : ExtF P f Extern.BytealgCount.count) : HookS P (hookCnt f) := by
  intro g args m v m' hx μ w us h _ hu
  unfold hookCnt at hx
  cases hg : Nat.beq g f with
  | false => rw [hg] at hx; cases hx
  | true =>
    obtain rfl : g = f := Nat.eq_of_beq_eq_true hg
    rw [hg] at hx
    simp only [] at hx
    split at hx
    · rename_i s c
      cases hc : Nat.blt c 256 with
      | false => rw [hc] at hx; cases hx
      | true =>
        rw [hc] at hx
        have hlt := blt_lt hc
        obtain ⟨u, us', rfl, k1, k2⟩ := trs_cons hu
        obtain ⟨u2, us'', rfl, k3, k4⟩ := trs_cons k2
        have := trs_nil k4
        subst this
        cases k1
        cases k3
        obtain ⟨fn, f1, f2, f3, f4, f5⟩ := F.fn
        have e1 : ((Int.ofNat c).toNat.toUInt8).toNat = c := by
          show (c.toUInt8).toNat = c
          simp only [Nat.toUInt8, UInt8.toNat_ofNat']
          omega
        have hr := Lib.run_countString (P := P) ⟨⟨s⟩⟩ (Int.ofNat c) w
        have hi := cntB_spec ((Int.ofNat c).toNat.toUInt8) s 0
        rw [e1, Nat.zero_add] at hi
        have hx' : some ((MV.int .i64 (.ofNat (cntB c s 0))), m) = some (v, m') := by
          cases hn : cntB c s 0 <;> (rw [hn] at hx; exact hx)
        cases hx'
        refine upon_extern f1 f2 f3 f4 f5 h hr ?_
        rw [hi]
        rfl
    · cases hx

/-- Two hooks side by side. -/
def hookOr (X Y : Hook) : Hook := fun f args m => match X f args m with
  | some r => some r
  | none => Y f args m
theorem hookOr_sound {X Y : Hook} (hX : HookS P X) (hY : HookS P Y) : HookS P (hookOr X Y) := by
  intro f args m v m' hx μ w us h hf hu
  unfold hookOr at hx
  cases hc : X f args m with
  | none => rw [hc] at hx; exact hY f args m v m' hx μ w us h hf hu
  | some r => rw [hc] at hx; cases hx; exact hX f args m v m' hc μ w us h hf hu
end
end
end Go.Mir

/-! THE MIRROR, LAWS 40: a call of its own text: a hook for a call that begins with what is laid alone and says 'true' (or another plain value). -/
namespace Go.Mir
open Go.RowKit
noncomputable section

mutual
/-- All names in a value are at most G. -/
def low (G : Nat) : MV → Bool
  | .ptr b _ => Nat.ble b G
  | .sl b _ _ _ _ _ => Nat.ble b G
  | .es b _ _ _ => Nat.ble b G
  | .map b => Nat.ble b G
  | .func fn a c => (match fn with | .yield l => Nat.ble l G | _ => true) && lows G a && lows G c
  | .iface _ v => low G v
  | .agg cs => lows G cs
  | .tup cs => lows G cs
  | _ => true
def lows (G : Nat) : List MV → Bool
  | [] => true
  | v :: vs => low G v && lows G vs
end
section
variable {μ μ' : Mp} {G : Nat}
theorem trFn_low (h : ∀ b, b ≤ G → μ' b = μ b) {fn : Fn} (hl : (match fn with | .yield l => Nat.ble l G | _ => true) = true) : trFn μ' fn = trFn μ fn := by
  cases fn with
  | yield l => simp only [trFn]; rw [h l (Nat.le_of_ble_eq_true hl)]
  | _ => rfl
mutual
theorem tr_low (h : ∀ b, b ≤ G → μ' b = μ b) : ∀ (v : MV), low G v = true → tr μ' v = tr μ v
  | .bool _, _ | .int _ _, _ | .str _, _ | .nilp, _ | .nils, _ | .nilf, _ | .nili, _ | .nilm, _ => rfl
  | .ptr b _, hl => by simp only [low] at hl; simp only [tr]; rw [h b (Nat.le_of_ble_eq_true hl)]
  | .sl b _ _ _ _ _, hl => by simp only [low] at hl; simp only [tr]; rw [h b (Nat.le_of_ble_eq_true hl)]
  | .es b _ _ _, hl => by simp only [low] at hl; simp only [tr]; rw [h b (Nat.le_of_ble_eq_true hl)]
  | .map b, hl => by simp only [low] at hl; simp only [tr]; rw [h b (Nat.le_of_ble_eq_true hl)]
  | .func fn a c, hl => by
    simp only [low, Bool.and_eq_true] at hl
    simp only [tr]
    rw [trFn_low h hl.1.1, trs_low h a hl.1.2, trs_low h c hl.2]
  | .iface t v, hl => by simp only [low] at hl; simp only [tr]; rw [tr_low h v hl]
  | .agg cs, hl => by simp only [low] at hl; simp only [tr]; rw [trs_low h cs hl]
  | .tup cs, hl => by simp only [low] at hl; simp only [tr]; rw [trs_low h cs hl]
theorem trs_low (h : ∀ b, b ≤ G → μ' b = μ b) : ∀ (vs : List MV), lows G vs = true → trs μ' vs = trs μ vs
  | [], _ => rfl
  | v :: vs, hl => by
    simp only [lows, Bool.and_eq_true] at hl
    simp only [trs]
    rw [tr_low h v hl.1, trs_low h vs hl.2]
end
theorem lows_mem : ∀ {vs : List MV} {v : MV}, lows G vs = true → v ∈ vs → low G v = true
  | [], _, _, h => by cases h
  | y :: ys, v, hh, h => by
    simp only [lows, Bool.and_eq_true] at hh
    rcases List.mem_cons.1 h with rfl | h
    · exact hh.1
    · exact lows_mem hh.2 h
end

/-- Do the rows lie in a memory as they are laid? -/
def rowIn (m : Mem) (g : Nat) (e : TypeId) (vs : List MV) : Bool := match m.get g with
  | some (.cells t n e' _ _) => match Nat.beq e' e && Nat.beq n vs.length with
    | true => match readT t n 0 n with
      | some vs' => sames vs' vs
      | none => false
    | false => false
  | _ => false
def rowsIn (m : Mem) : Gs → Bool
  | [] => true
  | (g, e, vs) :: gs => match rowIn m g e vs with | true => rowsIn m gs | false => false
theorem rowsIn_mem {m : Mem} : ∀ {gs : Gs}, rowsIn m gs = true → ∀ x ∈ gs, rowIn m x.1 x.2.1 x.2.2 = true
  | [], _, x, hx => by cases hx
  | (g, e, vs) :: gs, h, x, hx => by
    unfold rowsIn at h
    cases h1 : rowIn m g e vs with
    | false => rw [h1] at h; cases h
    | true =>
      rw [h1] at h
      rcases List.mem_cons.1 hx with rfl | hx
      · exact h1
      · exact rowsIn_mem h x hx
theorem rowIn_spec {m : Mem} {g : Nat} {e : TypeId} {vs : List MV} (h : rowIn m g e vs = true) : ∃ t ro fz, m.get g = some (.cells t vs.length e ro fz) ∧ ∀ (i : Nat) v, vs[i]? = some v → T.get (pth i) t = some v := by
  unfold rowIn at h
  split at h
  · rename_i t n e' ro fz hg
    cases hc : (Nat.beq e' e && Nat.beq n vs.length) with
    | false => rw [hc] at h; cases h
    | true =>
      rw [hc] at h
      obtain ⟨c1, c2⟩ := Bool.and_eq_true_iff.1 hc
      obtain rfl := Nat.eq_of_beq_eq_true c1
      obtain rfl := Nat.eq_of_beq_eq_true c2
      simp only [] at h
      cases hr : readT t vs.length 0 vs.length with
      | none => rw [hr] at h; cases h
      | some vs' =>
        rw [hr] at h
        obtain rfl := sames_eq h
        obtain ⟨_, _, h3⟩ := readT_spec t _ _ 0 vs' hr
        exact ⟨t, ro, fz, hg, fun i v hv => by have := h3 i v hv; rwa [Nat.zero_add] at this⟩
  · cases h

section
variable {P : Program} {X : Hook} {K : Masks} {μ : Mp} {m m' : Mem} {w w' : World} {G : Nat}
def cutMu (G : Nat) (μ : Mp) : Mp := fun b => if b ≤ G then μ b else none
theorem cutMu_low {b : Nat} (h : b ≤ G) : cutMu G μ b = μ b := by unfold cutMu; rw [if_pos h]

/-- What is laid, within a greater memory. -/
theorem rel_within (hG : P.globals.size = G) (h : Rel P μ m w) {gs : Gs} (hin : rowsIn m gs = true) (hlow : (gs.all fun x => Nat.ble x.1 G && lows G x.2.2) = true) : Rel P (cutMu G μ) (memG (G + 1) gs) w := by
  subst hG
  have hmem := rowsIn_mem hin
  rw [List.all_eq_true] at hlow
  have hle : ∀ x ∈ gs, x.1 ≤ P.globals.size ∧ lows P.globals.size x.2.2 = true := fun x hx => by
    have := hlow x hx
    rw [Bool.and_eq_true] at this
    exact ⟨Nat.le_of_ble_eq_true this.1, this.2⟩
  have hsub : ∀ {b x}, cutMu P.globals.size μ b = some x → b ≤ P.globals.size ∧ μ b = some x := fun {b x} e => by
    unfold cutMu at e
    split at e
    · exact ⟨‹_›, e⟩
    · cases e
  refine ⟨fun b x e => h.lt b x (hsub e).2, fun b x e => h.sh0 b x (hsub e).2, ?_, ?_, ?_, ?_, ?_⟩
  · intro b x o e ho
    obtain ⟨h1, h2⟩ := hsub e
    obtain ⟨el, vs, g1, g2, rfl⟩ := memG_get _ gs b o ho
    obtain ⟨t, ro, fz, g3, g4⟩ := rowIn_spec (hmem _ g1)
    obtain ⟨ob, g5, g6, c, lh, rfl, g7, g8, _⟩ := h.blk b x _ h2 g3
    refine ⟨_, g5, g6, c, lh, rfl, g7, fun i v hi hv => ?_, fun q => by cases q⟩
    have hi' : i < vs.length := hi
    rw [rowT_get, if_pos (by omega), Nat.sub_zero] at hv
    obtain ⟨u, a1, a2⟩ := g8 i v hi (g4 i v hv)
    refine ⟨u, a1, ?_⟩
    have hlv : low P.globals.size v = true := by
      have := (hle _ g1).2
      have hv' : v ∈ vs := List.mem_of_getElem? hv
      exact lows_mem this hv'
    rw [tr_low (fun b hb => cutMu_low hb) v hlv]
    exact a2
  · intro b b' x x' e e' hr hd hd'
    obtain ⟨h1, h2⟩ := hsub e
    obtain ⟨h3, h4⟩ := hsub e'
    obtain ⟨y, k1, k2, _⟩ := h.glob b h1
    obtain ⟨y', k3, k4, _⟩ := h.glob b' h3
    rw [h2] at k1
    rw [h4] at k3
    cases k1
    cases k3
    omega
  · intro g hg
    obtain ⟨x, h1, h2⟩ := h.glob g hg
    exact ⟨x, by rw [cutMu_low hg]; exact h1, h2⟩
  · intro b hb
    rw [memG_next] at hb
    cases ho : (memG (P.globals.size + 1) gs).get b with
    | none => rfl
    | some o =>
      obtain ⟨e, vs, h1, _, _⟩ := memG_get _ gs b o ho
      have h2 : b ≤ P.globals.size := (hle _ h1).1
      omega
  · rw [memG_next]; omega

/-- A hook for calls that begin with what is laid alone: what they are called with, what they say. -/
structure Ent where
  f : FuncId
  args : List MV
  v : Bool
def findE (f : FuncId) (args : List MV) : List Ent → Option Bool
  | [] => none
  | e :: es => match Nat.beq e.f f with
    | false => findE f args es
    | true => match sames args e.args with
      | true => some e.v
      | false => findE f args es
theorem findE_mem {f : FuncId} {args : List MV} {v : Bool} : ∀ {es : List Ent}, findE f args es = some v → ∃ e ∈ es, e.f = f ∧ args = e.args ∧ e.v = v
  | [], h => by cases h
  | e :: es, h => by
    unfold findE at h
    cases h1 : Nat.beq e.f f with
    | false =>
      rw [h1] at h
      obtain ⟨x, hx, r⟩ := findE_mem h
      exact ⟨x, List.mem_cons_of_mem _ hx, r⟩
    | true =>
      rw [h1] at h
      simp only [] at h
      cases h2 : sames args e.args with
      | false =>
        rw [h2] at h
        obtain ⟨x, hx, r⟩ := findE_mem h
        exact ⟨x, List.mem_cons_of_mem _ hx, r⟩
      | true =>
        rw [h2] at h
        cases h
        exact ⟨e, List.mem_cons_self .., Nat.eq_of_beq_eq_true h1, sames_eq h2, rfl⟩
def hookE (gs : Gs) (es : List Ent) : Hook := fun f args m => match findE f args es with
  | none => none
  | some v => match rowsIn m gs with
    | true => some (.bool v, m)
    | false => none
/-- What an entry must show: it says so, run over the rows alone; it is a function with a body; its values are plain. -/
structure EntF (P : Program) (G : Nat) (gs : Gs) (e : Ent) : Prop where
  body : ∃ fn c, P.funcs[e.f]? = some fn ∧ (fn.name == "runtime.NumGoroutine") = false ∧ fn.body = some c
  plain : lows G e.args = true
  runs : ∃ (X : Hook) (K : Masks) (n : Nat) (m' : Mem), HookS P X ∧ evCall P X K n e.f e.args (memG (G + 1) gs) = .ok (.bool e.v) m'
theorem hookE_sound (hmix : P.follows .mixedOrders = true) (hG : P.globals.size = G) {gs : Gs} {es : List Ent} (hlow : (gs.all fun x => Nat.ble x.1 G && lows G x.2.2) = true) (hes : ∀ e ∈ es, EntF P G gs e) : HookS P (hookE gs es) := by
  intro f args m v m' hx μ w us h _ hu
  unfold hookE at hx
  cases hfe : findE f args es with
  | none => rw [hfe] at hx; cases hx
  | some v0 =>
    rw [hfe] at hx
    simp only [] at hx
    cases hin : rowsIn m gs with
    | false => rw [hin] at hx; cases hx
    | true =>
      rw [hin] at hx
      cases hx
      obtain ⟨e, he, rfl, rfl, rfl⟩ := findE_mem hfe
      obtain ⟨⟨fn, c, b1, b2, b3⟩, hp, X, K, n, m1, hX, hrun⟩ := hes e he
      have hR := rel_within hG h hin hlow
      have hu0 : trs (cutMu G μ) e.args = some us := by rw [trs_low (fun b hb => cutMu_low hb) _ hp]; exact hu
      have hfree : Free (cutMu G μ) (memG (G + 1) gs).next m1.next := fun k hk _ => by
        rw [memG_next] at hk
        unfold cutMu
        rw [if_neg (by omega)]
      refine upon_below b1 b2 b3 h (u := .bool e.v) rfl ((evCall_closed hX hmix hrun memG_ro hR hfree hu0).mono ?_)
      rintro ev w' ⟨u, μ', rfl, h2, h3⟩
      cases h2
      exact ⟨rfl, h3⟩

theorem says_ok {gs : Gs} {n : Nat} {f : FuncId} {args : List MV} (he : (memGK (G + 1) gs fun m => saysTrue (evCall P X K n f args m)) = true) : ∃ m', evCall P X K n f args (memG (G + 1) gs) = .ok (.bool true) m' := by
  rw [memGK_eq] at he
  exact saysTrue_ok he
end
end
end Go.Mir

/-! THE MIRROR, LAWS 41: the same evaluator in the form that the kernel runs quickest (small bodies, recursors), and that it is the same. -/
namespace Go.Mir
noncomputable section

/-! ### Operands -/
def getK {β : Type} (e : Env) (i : Nat) (bad : β) (k : MV → β) : β :=
  Env.rec (motive := fun _ => β) (fun l t _ m => EL.rec (motive := fun _ => β) (Bool.rec (motive := fun _ => β) bad (Option.rec (motive := fun _ => β) bad k (T.get (pth i) t)) (keeps m i))
    (fun j v _ ih => Bool.rec (motive := fun _ => β) ih (k v) (Nat.beq i j)) l) e
theorem getK_eq {β : Type} (e : Env) (i : Nat) (bad : β) (k : MV → β) : getK e i bad k = match e.get i with | some v => k v | none => bad := by
  obtain ⟨l, t, n, m⟩ := e
  rw [Env.get_def]
  show EL.rec (motive := fun _ => β) _ _ l = _
  simp only []
  induction l with
  | nil =>
    simp only [EL.find_nil]
    cases keeps m i with
    | false => rfl
    | true => cases T.get (pth i) t <;> rfl
  | cons j v r ih =>
    rw [EL.find_cons]
    simp only []
    by_cases h : i = j
    · rw [if_pos h, show Nat.beq i j = true from by rw [h]; exact Nat.beq_refl j]
    · rw [if_neg h, show Nat.beq i j = false from by cases hb : Nat.beq i j with | false => rfl | true => exact absurd (Nat.eq_of_beq_eq_true hb) h]
      exact ih

section
variable (P : Program)
def cnK {β : Type} (bad : β) (k : MV → β) (v : Value) : β := Option.rec (motive := fun _ => β) bad k (ofC v)
def glK {β : Type} (bad : β) (k : MV → β) (g : Nat) : β := Bool.rec (motive := fun _ => β) bad (k (.ptr g 0)) (Nat.blt g P.globals.size)
def fnK {β : Type} (k : MV → β) (f : Nat) : β := k (.func (.func f) [] [])
def opK {β : Type} (e : Env) (x : Operand) (bad : β) (k : MV → β) : β := Operand.rec (motive := fun _ => β) (fun t => getK e t bad k) (cnK bad k) (glK P bad k) (fnK k) x
theorem opK_eq {β : Type} (e : Env) (x : Operand) (bad : β) (k : MV → β) : opK P e x bad k = match ops? P e x with | some v => k v | none => bad := by
  cases x with
  | tmp t => exact getK_eq e t bad k
  | const v =>
    show cnK bad k v = match ofC v with | some v => k v | none => bad
    unfold cnK
    cases ofC v <;> rfl
  | global g =>
    show glK P bad k g = match (match Nat.blt g P.globals.size with | true => some (.ptr g 0) | false => none) with | some v => k v | none => bad
    unfold glK
    cases Nat.blt g P.globals.size <;> rfl
  | func f => rfl

def ptrK {β : Type} (v : MV) (bad : β) (k : Nat → Nat → β) : β := match v with | .ptr b off => k b off | _ => bad
def boolK {β : Type} (v : MV) (bad t f : β) : β := match v with | .bool b => Bool.rec (motive := fun _ => β) f t b | _ => bad
def someOR (m : Mem) (r : Option MV) : OR := Option.rec (motive := fun _ => OR) .fail (fun v => .val v m) r

/-! ### Operations -/
def valR (m : Mem) (v : MV) : OR := .val v m
def fMove (x : Operand) (e : Env) (m : Mem) : OR := opK P e x .fail (valR m)
theorem fMove_eq (x : Operand) (e : Env) (m : Mem) : fMove P x e m = (opMove P e x m).plain := by
  unfold fMove opMove
  rw [opK_eq]
  cases ops? P e x <;> rfl
def fPick (c a b : Operand) (e : Env) (m : Mem) : OR := opK P e c .fail fun v => boolK v .fail (fMove P a e m) (fMove P b e m)
theorem fPick_eq (c a b : Operand) (e : Env) (m : Mem) : fPick P c a b e m = (opPick P e c a b m).plain := by
  unfold fPick opPick
  rw [opK_eq]
  cases ops? P e c with
  | none => rfl
  | some v =>
    cases v with
    | bool q => cases q <;> simp only [boolK, fMove_eq]
    | _ => rfl
def ldK (t : TypeId) (m : Mem) (b off : Nat) : OR := someOR m (loadV P m t b off)
def fLoad (t : TypeId) (a : Operand) (e : Env) (m : Mem) : OR := opK P e a .fail fun v => ptrK v .fail (ldK P t m)
theorem fLoad_eq (t : TypeId) (a : Operand) (e : Env) (m : Mem) : fLoad P t a e m = (opLoad P e t a m).plain := by
  unfold fLoad opLoad
  rw [opK_eq]
  cases ops? P e a with
  | none => rfl
  | some v =>
    cases v with
    | ptr b off =>
      show ldK P t m b off = _
      unfold ldK
      simp only []
      cases loadV P m t b off <;> rfl
    | _ => rfl
def fieldK (s : TypeId) (i : Nat) (m : Mem) (v : MV) : OR := (fieldA P s v i m).plain
def fFieldA (s : TypeId) (x : Operand) (i : Nat) (e : Env) (m : Mem) : OR := opK P e x .fail (fieldK P s i m)
theorem op1_plain (e : Env) (x : Operand) (k : MV → OR) : opK P e x .fail (fun v => (k v).plain) = (op1 P e x k).plain := by
  unfold op1
  rw [opK_eq]
  cases ops? P e x <;> rfl
theorem fFieldA_eq (s : TypeId) (x : Operand) (i : Nat) (e : Env) (m : Mem) : fFieldA P s x i e m = (op1 P e x fun v => fieldA P s v i m).plain := op1_plain P e x fun v => fieldA P s v i m
def f1 (k : MV → OR) (x : Operand) (e : Env) : OR := opK P e x .fail fun v => (k v).plain
def f2 (k : MV → MV → OR) (x y : Operand) (e : Env) : OR := opK P e x .fail fun v => opK P e y .fail fun w => (k v w).plain
theorem f2_eq (k : MV → MV → OR) (x y : Operand) (e : Env) : f2 P k x y e = (op2 P e x y k).plain := by
  unfold f2 op2
  rw [opK_eq]
  cases ops? P e x with
  | none => rfl
  | some v =>
    simp only [opK_eq]
    cases ops? P e y <;> rfl

def bAdd (k : IntKind) (a b : Int) (m : Mem) : OR := intR k (wrapF k (addI a b)) m
def bSub (k : IntKind) (a b : Int) (m : Mem) : OR := intR k (wrapF k (subI a b)) m
def bMul (k : IntKind) (a b : Int) (m : Mem) : OR := intR k (wrapF k (a * b)) m
def bEql (_ : IntKind) (a b : Int) (m : Mem) : OR := boolR (eqI a b) m
def bNeq (_ : IntKind) (a b : Int) (m : Mem) : OR := boolR (!eqI a b) m
def bLss (_ : IntKind) (a b : Int) (m : Mem) : OR := boolR (ltI a b) m
def bLeq (_ : IntKind) (a b : Int) (m : Mem) : OR := boolR (!ltI b a) m
def bGtr (_ : IntKind) (a b : Int) (m : Mem) : OR := boolR (ltI b a) m
def bGeq (_ : IntKind) (a b : Int) (m : Mem) : OR := boolR (!ltI a b) m
def fBinI (op : BinOp) : IntKind → Int → Int → Mem → OR := match op with
  | .add => bAdd
  | .sub => bSub
  | .eql => bEql
  | .neq => bNeq
  | .lss => bLss
  | .leq => bLeq
  | .gtr => bGtr
  | .geq => bGeq
  | op => binI op
theorem fBinI_eq (op : BinOp) (k : IntKind) (a b : Int) (m : Mem) : fBinI op k a b m = binI op k a b m := by cases op <;> rfl
def fBinII (op : BinOp) (k k' : IntKind) (a b : Int) (m : Mem) : OR := Bool.rec (motive := fun _ => OR) .fail (fBinI op k a b m) (sameK k k' || isSh op)
def fBinM (op : BinOp) (t : TypeId) (x y : Operand) (a b : MV) (m : Mem) : OR :=
  match a, b with
  | .int k a, .int k' b => (fBinII op k k' a b m).plain
  | a, b => (binM P op t x y a b m).plain
theorem fBinM_eq (op : BinOp) (t : TypeId) (x y : Operand) (a b : MV) (m : Mem) : fBinM P op t x y a b m = (binM P op t x y a b m).plain := by
  unfold fBinM
  split
  · rename_i k a k' b
    simp only [binM, fBinII, fBinI_eq]
    cases (sameK k k' || isSh op) <;> rfl
  · rfl
def fBin (op : BinOp) (t : TypeId) (x y : Operand) (_ : TypeId) (e : Env) (m : Mem) : OR := opK P e x .fail fun a => opK P e y .fail fun b => fBinM P op t x y a b m
theorem fBin_eq (op : BinOp) (t : TypeId) (x y : Operand) (z : TypeId) (e : Env) (m : Mem) : fBin P op t x y z e m = (opBin P e op t x y m).plain := by
  unfold fBin opBin
  rw [opK_eq]
  cases ops? P e x with
  | none => rfl
  | some v =>
    simp only [opK_eq]
    cases ops? P e y with
    | none => rfl
    | some u => exact fBinM_eq P op t x y v u m

def aFail (_ : Env) (_ : Mem) : OR := .fail
def aAlloc (t : TypeId) (_ : Env) (m : Mem) : OR := (opAlloc P t m).plain
def aBox (t : TypeId) (x : Operand) (e : Env) (m : Mem) : OR := (opBox P e t x m).plain
def aBuild (t : TypeId) (ps : Array (Nat × Operand)) (e : Env) (m : Mem) : OR := (opBuild P e t ps.toList m).plain
def aBuildSlice (t : TypeId) (n : Nat) (ps : Array (Nat × Operand)) (e : Env) (m : Mem) : OR := (opBuildSlice P e t n ps.toList m).plain
def aStore (t : TypeId) (a x : Operand) (e : Env) (m : Mem) : OR := (opStore P e t a x m).plain
def aNil (x : Operand) (e : Env) (m : Mem) : OR := (opNil P e x m).plain
def aUn (op : UnOp) (_ : TypeId) (x : Operand) (e : Env) (m : Mem) : OR := f1 P (fun v => unM op v m) x e
def aConv (s d : TypeId) (x : Operand) (e : Env) (m : Mem) : OR := f1 P (fun v => convM P s d v m) x e
def aIface (t : TypeId) (x : Operand) (e : Env) (m : Mem) : OR := (opIface P e t x m).plain
def aFunc (fn : Fn) (fs cs : Array Operand) (e : Env) (m : Mem) : OR := (opFunc P e fn fs.toList cs.toList m).plain
def aMakeSl (t : TypeId) (l c : Operand) (e : Env) (m : Mem) : OR := f2 P (fun l c => makeSl P t l c m) l c e
def aSlice (t : TypeId) (x : Operand) (lo hi mx : Option Operand) (e : Env) (m : Mem) : OR := (opSlice P e t x lo hi mx m).plain
def aField (t : TypeId) (x : Operand) (i : Nat) (e : Env) (m : Mem) : OR := f1 P (fun v => fieldV P t v i m) x e
def aIndexA (t : TypeId) (x i : Operand) (e : Env) (m : Mem) : OR := f2 P (fun v j => indexA P t v j m) x i e
def aIndex (t : TypeId) (x i : Operand) (e : Env) (m : Mem) : OR := f2 P (fun v j => indexV P t v j m) x i e
def aAssert (x : Operand) (_ a : TypeId) (ok : Bool) (e : Env) (m : Mem) : OR := f1 P (fun v => assertM P v a ok m) x e
def aExtract (x : Operand) (i : Nat) (e : Env) (m : Mem) : OR := (opExtract P e x i m).plain
def aMakeMap (_ : TypeId) (r : Option Operand) (_ : Env) (m : Mem) : OR := match r with
  | none => (m.newK (.map [] 0) fun m' => .val (.map m.next) m' : OR).plain
  | some _ => .fail
def aLook (t : TypeId) (x k : Operand) (ok : Bool) (e : Env) (m : Mem) : OR := f2 P (fun v k => lookM P t v k ok m) x k e
def aUpd (t : TypeId) (x k v : Operand) (e : Env) (m : Mem) : OR := (opUpd P e t x k v m).plain
def aRange (t : TypeId) (x : Operand) (e : Env) (m : Mem) : OR := (opRange P e t x m).plain
def aNext (it : Operand) (b : Bool) (e : Env) (m : Mem) : OR := match b with
  | true => (opNext P e it m).plain
  | false => .fail
variable (X : Hook) (call : Caller) (yl : Yielder)
def aCall (c : Call) (e : Env) (m : Mem) : OR := opCall P X call yl e c m
def aDefer (c : Call) (e : Env) (m : Mem) : OR := opDefer P e c m
def aPanic (x : Operand) (e : Env) (m : Mem) : OR := opPanic P e x m
/-- What an operation does. -/
def fOp (o : Op) : Env → Mem → OR :=
  Op.rec (motive := fun _ => Env → Mem → OR) (fMove P) (fMove P) (fPick P) (aAlloc P) (aBox P) (aBuild P) (aBuildSlice P) (aUpd P) (fLoad P) (aStore P) (fun _ => aFail) (fun _ => aFail) (aNil P) (fBin P) (aUn P)
    (aConv P) (fun _ _ => aFail) (aIface P) (aFunc P) aMakeMap (fun _ _ => aFail) (aMakeSl P) (aSlice P) (fFieldA P) (aField P) (aIndexA P) (aIndex P) (aLook P) (aUpd P) (fun _ _ _ => aFail)
    (fun _ _ _ _ => aFail) (aRange P) (aNext P) (fun _ => aFail) (aAssert P) (aExtract P) (aCall P X call yl) (fun _ => aFail) (aDefer P) (aPanic P) (fun _ _ => aFail) (fun _ _ _ => aFail) (fun _ _ => aFail) o
theorem fOp_eq (o : Op) (e : Env) (m : Mem) : fOp P X call yl o e m = evOp P X call yl e o m := by
  cases o with
  | move x => exact fMove_eq P x e m
  | assign x => exact fMove_eq P x e m
  | pick c a b => exact fPick_eq P c a b e m
  | load t a => exact fLoad_eq P t a e m
  | binOp op t x y z => exact fBin_eq P op t x y z e m
  | unOp op t x => exact op1_plain P e x _
  | convert s d x => exact op1_plain P e x _
  | makeSlice t l c => exact f2_eq P _ l c e
  | fieldAddr s x i => exact fFieldA_eq P s x i e m
  | field t x i => exact op1_plain P e x _
  | indexAddr t x i => exact f2_eq P _ x i e
  | index t x i => exact f2_eq P _ x i e
  | typeAssert x t a ok => exact op1_plain P e x _
  | lookup t x k ok => exact f2_eq P _ x k e
  | makeMap t r => cases r <;> rfl
  | next it b => cases b <;> rfl
  | _ => rfl

/-! ### Regions -/
def goOn (dst : Option Tmp) (ih : Env → List MD → Mem → CR) (e : Env) (ds : List MD) (m : Mem) (v : MV) : CR := e.putK dst v .fail fun e => ih e ds m
def valA (dst : Option Tmp) (ih : Env → List MD → Mem → CR) (e : Env) (ds : List MD) (m : Mem) (v : MV) (m1 : Mem) : CR := Bool.rec (motive := fun _ => CR) .fail (goOn dst ih e ds m1 v) (Nat.ble m.next m1.next)
def panA (e : Env) (ds : List MD) (m : Mem) (v : MV) (m1 : Mem) : CR := Bool.rec (motive := fun _ => CR) .fail (.ok (.pan v) e ds m1) (Nat.ble m.next m1.next)
def dfrA (rd : Option Nat) (dst : Option Tmp) (ih : Env → List MD → Mem → CR) (e : Env) (ds : List MD) (f : FuncId) (args : List MV) (m1 : Mem) : CR :=
  Option.rec (motive := fun _ => CR) (e.putK dst (.tup []) .fail fun e => ih e (.call f args :: ds) m1) (fun _ => .fail) rd
def fExec (rd : Option Nat) (dst : Option Tmp) (op : Op) (ih : Env → List MD → Mem → CR) (e : Env) (ds : List MD) (m : Mem) : CR :=
  OR.rec (motive := fun _ => CR) (valA dst ih e ds m) (panA e ds m) (dfrA rd dst ih e ds) .fail (fOp P X call yl op e m)
def fWant (ops : Array Oper) (e : Env) (g : Nat × Bool) : Option Bool := match ops[g.1]? with
  | some oj => match oj.dst with
    | some d => match e.get d with
      | some (.bool b) => some (b == g.2)
      | some _ => some false
      | none => none
    | none => none
  | none => none
def fGuard (rd : Option Nat) (ops : Array Oper) (dst : Option Tmp) (op : Op) (ih : Env → List MD → Mem → CR) (g : Nat × Bool) (e : Env) (ds : List MD) (m : Mem) : CR :=
  match fWant ops e g with
  | none => .fail
  | some false => goOn dst ih e ds m (.tup [])
  | some true => fExec P X call yl rd dst op ih e ds m
def fCons (rd : Option Nat) (ops : Array Oper) (o : Oper) (ih : Env → List MD → Mem → CR) : Env → List MD → Mem → CR :=
  Oper.rec (motive := fun _ => Env → List MD → Mem → CR) (fun dst op _ _ _ guard => Option.rec (motive := fun _ => Env → List MD → Mem → CR) (fExec P X call yl rd dst op ih) (fGuard P X call yl rd ops dst op ih) guard) o
def nilA (e : Env) (ds : List MD) (m : Mem) : CR := e.flushK fun e => .ok .normal e ds m
def fOps (rd : Option Nat) (ops : Array Oper) (l : List Oper) : Env → List MD → Mem → CR :=
  List.rec (motive := fun _ => Env → List MD → Mem → CR) nilA (fun o _ ih => fCons P X call yl rd ops o ih) l
theorem fExec_eq (rd : Option Nat) (dst : Option Tmp) (op : Op) (ih : Env → List MD → Mem → CR) (e : Env) (ds : List MD) (m : Mem) :
    fExec P X call yl rd dst op ih e ds m = match evOp P X call yl e op m with
      | .val v m1 => match Nat.ble m.next m1.next with
        | true => e.putK dst v .fail fun e => ih e ds m1
        | false => .fail
      | .pan v m1 => match Nat.ble m.next m1.next with
        | true => .ok (.pan v) e ds m1
        | false => .fail
      | .dfr f args m1 => match rd with
        | none => e.putK dst (.tup []) .fail fun e => ih e (.call f args :: ds) m1
        | some _ => .fail
      | .fail => .fail := by
  unfold fExec
  rw [fOp_eq]
  cases evOp P X call yl e op m with
  | val v m1 =>
    show valA dst ih e ds m v m1 = _
    unfold valA
    simp only []
    cases Nat.ble m.next m1.next <;> rfl
  | pan v m1 =>
    show panA e ds m v m1 = _
    unfold panA
    simp only []
    cases Nat.ble m.next m1.next <;> rfl
  | dfr f args m1 => cases rd <;> rfl
  | fail => rfl
theorem fOps_eq (rd : Option Nat) (ops : Array Oper) : ∀ (l : List Oper) (e : Env) (ds : List MD) (m : Mem), fOps P X call yl rd ops l e ds m = evOps P X call yl rd ops l e ds m
  | [], e, ds, m => by
    simp only [evOps]
    rfl
  | o :: os, e, ds, m => by
    have ih : fOps P X call yl rd ops os = evOps P X call yl rd ops os := by
      funext e ds m
      exact fOps_eq rd ops os e ds m
    obtain ⟨dst, op, ty, pos, after, guard⟩ := o
    cases guard with
    | none =>
      show fExec P X call yl rd dst op (fOps P X call yl rd ops os) e ds m = _
      rw [fExec_eq, ih]
      simp only [evOps, wantM]
      cases evOp P X call yl e op m <;> rfl
    | some g =>
      obtain ⟨j, wt⟩ := g
      show fGuard P X call yl rd ops dst op (fOps P X call yl rd ops os) (j, wt) e ds m = _
      have hw : wantM ops e ⟨dst, op, ty, pos, after, some (j, wt)⟩ = fWant ops e (j, wt) := rfl
      unfold fGuard
      rw [fExec_eq, ih]
      simp only [evOps, hw]
      cases fWant ops e (j, wt) with
      | none => rfl
      | some b => cases b <;> rfl

/-! ### Regions that draw their order -/
def goD (dst : Option Tmp) (e : Env) (es : List En) (x : En) (ih : Nat → Env → Mem → List En → DR) (i : Nat) (m : Mem) (v : MV) : DR := e.putK dst v .fail fun e' => ih (i + 1) e' m (x :: es)
def valD (o : Oper) (dst : Option Tmp) (op : Op) (ih : Nat → Env → Mem → List En → DR) (i : Nat) (e : Env) (m : Mem) (es : List En) (v : MV) (m1 : Mem) : DR :=
  Bool.rec (motive := fun _ => DR) .fail (goD dst e es ⟨i, o, false, kd P op, e, m, v⟩ ih i m1 v) (Nat.ble m.next m1.next)
def panD (o : Oper) (i : Nat) (e : Env) (m : Mem) (es : List En) (v : MV) (m1 : Mem) : DR :=
  Bool.rec (motive := fun _ => DR) .fail (.pan es ⟨i, o, false, .eff, e, m, v⟩ m1) (Nat.ble m.next m1.next)
def exD (o : Oper) (dst : Option Tmp) (op : Op) (ih : Nat → Env → Mem → List En → DR) (i : Nat) (e : Env) (m : Mem) (es : List En) : DR :=
  OR.rec (motive := fun _ => DR) (valD P o dst op ih i e m es) (panD o i e m es) (fun _ _ _ => .fail) .fail (fOp P X call yl op e m)
def guD (ops : Array Oper) (o : Oper) (dst : Option Tmp) (op : Op) (ih : Nat → Env → Mem → List En → DR) (g : Nat × Bool) (i : Nat) (e : Env) (m : Mem) (es : List En) : DR :=
  match fWant ops e g with
  | none => .fail
  | some false => goD dst e es ⟨i, o, true, .pure, e, m, .tup []⟩ ih i m (.tup [])
  | some true => exD P X call yl o dst op ih i e m es
def coD (ops : Array Oper) (o : Oper) (ih : Nat → Env → Mem → List En → DR) : Nat → Env → Mem → List En → DR :=
  Oper.rec (motive := fun _ => Nat → Env → Mem → List En → DR) (fun dst op _ _ _ guard => Option.rec (motive := fun _ => Nat → Env → Mem → List En → DR) (exD P X call yl o dst op ih) (guD P X call yl ops o dst op ih) guard) o
def fRunD (ops : Array Oper) (l : List Oper) : Nat → Env → Mem → List En → DR :=
  List.rec (motive := fun _ => Nat → Env → Mem → List En → DR) (fun _ e m es => .ok es e m) (fun o _ ih => coD P X call yl ops o ih) l
theorem exD_eq (o : Oper) (ih : Nat → Env → Mem → List En → DR) (i : Nat) (e : Env) (m : Mem) (es : List En) :
    exD P X call yl o o.dst o.op ih i e m es = match evOp P X call yl e o.op m with
      | .val v m' => match Nat.ble m.next m'.next with
        | true => e.putK o.dst v .fail fun e' => ih (i + 1) e' m' (⟨i, o, false, kd P o.op, e, m, v⟩ :: es)
        | false => .fail
      | .pan v m' => match Nat.ble m.next m'.next with
        | true => .pan es ⟨i, o, false, .eff, e, m, v⟩ m'
        | false => .fail
      | _ => .fail := by
  unfold exD
  rw [fOp_eq]
  cases evOp P X call yl e o.op m with
  | val v m1 =>
    show valD P o o.dst o.op ih i e m es v m1 = _
    unfold valD
    simp only []
    cases Nat.ble m.next m1.next <;> rfl
  | pan v m1 =>
    show panD o i e m es v m1 = _
    unfold panD
    simp only []
    cases Nat.ble m.next m1.next <;> rfl
  | dfr f args m1 => rfl
  | fail => rfl
theorem fRunD_eq (ops : Array Oper) : ∀ (l : List Oper) (i : Nat) (e : Env) (m : Mem) (es : List En), fRunD P X call yl ops l i e m es = runD P X call yl ops l i e m es
  | [], i, e, m, es => by
    simp only [runD]
    rfl
  | o :: os, i, e, m, es => by
    have ih : fRunD P X call yl ops os = runD P X call yl ops os := by
      funext i e m es
      exact fRunD_eq ops os i e m es
    have he := exD_eq P X call yl o (fRunD P X call yl ops os) i e m es
    cases hg : o.guard with
    | none =>
      have h0 : fRunD P X call yl ops (o :: os) i e m es = exD P X call yl o o.dst o.op (fRunD P X call yl ops os) i e m es := by
        obtain ⟨dst, op, ty, pos, after, guard⟩ := o
        cases hg
        rfl
      have hw : wantM ops e o = some true := by simp only [wantM, hg]
      rw [h0, he, ih]
      simp only [runD, hw]
      cases evOp P X call yl e o.op m <;> rfl
    | some g =>
      have h0 : fRunD P X call yl ops (o :: os) i e m es = guD P X call yl ops o o.dst o.op (fRunD P X call yl ops os) g i e m es := by
        obtain ⟨dst, op, ty, pos, after, guard⟩ := o
        cases hg
        rfl
      have hw : wantM ops e o = fWant ops e g := by
        obtain ⟨j, wt⟩ := g
        simp only [wantM, hg, fWant]
        rfl
      rw [h0]
      unfold guD
      rw [he, ih]
      simp only [runD, hw]
      cases fWant ops e g with
      | none => rfl
      | some b =>
        cases b with
        | false => rfl
        | true =>
          simp only []
          cases evOp P X call yl e o.op m <;> rfl

def nthN : List Nat → Nat → Nat
  | [], _ => 0
  | a :: _, 0 => a
  | _ :: l, i + 1 => nthN l i
def befN (l : List Nat) (i j : Nat) : Bool := Nat.beq (Nat.land (Nat.shiftRight (nthN l j) i) 1) 1
theorem nthN_eq : ∀ (l : List Nat) (j : Nat), nthN l j = l[j]?.getD 0
  | [], j => by simp [nthN]
  | a :: l, 0 => by simp [nthN]
  | a :: l, j + 1 => by simp [nthN, nthN_eq l j]
theorem bef_eq (b : Array Nat) (i j : Nat) : bef b i j = befN b.toList i j := by
  have h1 : b.getD j 0 = nthN b.toList j := by
    rw [nthN_eq, Array.getElem?_toList, Array.getD_eq_getD_getElem?]
  unfold bef befN
  rw [h1, Nat.testBit]
  generalize nthN b.toList j = a
  have h2 : Nat.land (Nat.shiftRight a i) 1 = a >>> i % 2 := by
    show (a >>> i) &&& 1 = _
    exact Nat.and_one_is_mod _
  have h3 : 1 &&& a >>> i = a >>> i % 2 := by rw [Nat.and_comm]; exact Nat.and_one_is_mod _
  rw [h2, h3]
  have : a >>> i % 2 = 0 ∨ a >>> i % 2 = 1 := by omega
  rcases this with h | h <;> rw [h] <;> rfl
/-- The looks of a drawn region, over any order. -/
def chainG (bf : Nat → Nat → Bool) : List En → Bool
  | x :: y :: l => bf x.i y.i && chainG bf (y :: l)
  | _ => true
def readG (bf : Nat → Nat → Bool) (x : En) (last : Mem) : List En → List En → Bool
  | done, rest =>
    let here (m : Mem) : Bool := match evOp P X call yl x.e x.o.op m with | .val v _ => same v x.v | _ => false
    let free : Bool := rest.any (fun y => bf y.i x.i) || done.any (fun y => bf x.i y.i)
    match rest with
    | [] => free || here last
    | y :: rest => (free || here y.m) && readG bf x last (y :: done) rest
def drawG (bf : Nat → Nat → Bool) (es : List En) (last : Mem) (pan : Option En) : Bool :=
  let fx := (es.filter (·.isEff)).reverse
  let fx' := fx ++ pan.toList
  chainG bf fx' && (match fx, es.any (·.isAlloc) with
    | [], false => true
    | _, _ => es.all fun x => !x.isRead || readG P X call yl bf x last [] fx)
theorem chainG_eq (b : Array Nat) : ∀ l : List En, chainG (befN b.toList) l = chain b l
  | [] => rfl
  | [_] => rfl
  | x :: y :: l => by simp only [chainG, chain, bef_eq, chainG_eq b (y :: l)]
theorem readG_eq (b : Array Nat) (x : En) (last : Mem) : ∀ (rest done : List En), readG P X call yl (befN b.toList) x last done rest = readAll P X call yl b x last done rest
  | [], done => by
    unfold readG readAll
    simp only [bef_eq]
    rfl
  | y :: rest, done => by
    unfold readG readAll
    simp only [bef_eq, readG_eq b x last rest]
    rfl
theorem drawG_eq (b : Array Nat) (es : List En) (last : Mem) (pan : Option En) : drawG P X call yl (befN b.toList) es last pan = drawOk P X call yl b es last pan := by
  unfold drawG drawOk
  simp only [chainG_eq, readG_eq]
  rfl
def calm : List En → Bool
  | [] => true
  | x :: l => match x.k with
    | .pure | .read => calm l
    | _ => false
theorem calm_spec : ∀ {es : List En}, calm es = true → es.filter (·.isEff) = [] ∧ es.any (·.isAlloc) = false
  | [], _ => ⟨rfl, rfl⟩
  | x :: l, h => by
    unfold calm at h
    cases hk : x.k with
    | pure =>
      rw [hk] at h
      obtain ⟨h1, h2⟩ := calm_spec h
      have e1 : x.isEff = false := by unfold En.isEff; rw [hk]
      have e2 : x.isAlloc = false := by unfold En.isAlloc; rw [hk]
      refine ⟨?_, ?_⟩
      · rw [List.filter_cons, e1]; exact h1
      · rw [List.any_cons, e2, h2]; rfl
    | read =>
      rw [hk] at h
      obtain ⟨h1, h2⟩ := calm_spec h
      have e1 : x.isEff = false := by unfold En.isEff; rw [hk]
      have e2 : x.isAlloc = false := by unfold En.isAlloc; rw [hk]
      refine ⟨?_, ?_⟩
      · rw [List.filter_cons, e1]; exact h1
      · rw [List.any_cons, e2, h2]; rfl
    | alloc => rw [hk] at h; cases h
    | eff => rw [hk] at h; cases h
theorem calm_draw {b : Array Nat} {es : List En} {last : Mem} (h : calm es = true) : drawOk P X call yl b es last none = true := by
  obtain ⟨h1, h2⟩ := calm_spec h
  unfold drawOk
  simp only [h1, h2]
  rfl
def okD (ops : Array Oper) (ds : List MD) (es : List En) (e : Env) (m : Mem) : CR :=
  match calm es with
  | true => e.flushK fun e => .ok .normal e ds m
  | false => match drawG P X call yl (befN (Region.before ops).toList) es m none with
    | true => e.flushK fun e => .ok .normal e ds m
    | false => .fail
def fDraw (ops : Array Oper) (e : Env) (ds : List MD) (m : Mem) : CR :=
  match regOk ops with
  | false => .fail
  | true => match fRunD P X call yl ops ops.toList 0 e m [] with
    | .ok es e' m' => okD P X call yl ops ds es e' m'
    | .pan .. => evDraw P X call yl ops e ds m
    | .fail => .fail
theorem fDraw_eq (ops : Array Oper) (e : Env) (ds : List MD) (m : Mem) : fDraw P X call yl ops e ds m = evDraw P X call yl ops e ds m := by
  unfold fDraw
  cases hr : regOk ops with
  | false => unfold evDraw; rw [hr]
  | true =>
    simp only [fRunD_eq]
    cases hd : runD P X call yl ops ops.toList 0 e m [] with
    | ok es e' m' =>
      have h0 : evDraw P X call yl ops e ds m = match drawOk P X call yl (Region.before ops) es m' none with
          | true => e'.flushK fun e' => .ok .normal e' ds m'
          | false => .fail := by
        unfold evDraw
        simp only [hr, hd]
        rfl
      rw [h0]
      show okD P X call yl ops ds es e' m' = _
      unfold okD
      cases hc : calm es with
      | true => rw [calm_draw P X call yl hc]
      | false =>
        simp only [drawG_eq]
    | pan es x m' => rfl
    | fail =>
      unfold evDraw
      simp only [hr, hd]

/-! ### Code -/
def seqK (k : Env → List MD → Mem → CR) (r : CR) : CR := match r with
  | .ok .normal e ds m => k e ds m
  | r => r
def blockK (id : Nat) (r : CR) : CR := match r with
  | .ok (.exit i) e ds m => match Nat.beq i id with
    | true => .ok .normal e ds m
    | false => .ok (.exit i) e ds m
  | r => r
variable (k : Nat) (ev : Option Nat → Code → Env → List MD → Mem → CR) (rd : Option Nat)
def sNormal (e : Env) (ds : List MD) (m : Mem) : CR := .ok .normal e ds m
def sRegion (_ : Nat) (ops : Array Oper) (d : Bool) : Env → List MD → Mem → CR :=
  Bool.rec (motive := fun _ => Env → List MD → Mem → CR) (fOps P X call yl rd ops ops.toList) (fDraw P X call yl ops) d
def sSeq (a b : Code) (e : Env) (ds : List MD) (m : Mem) : CR := seqK (ev rd b) (ev rd a e ds m)
def sCond (c : Operand) (a b : Code) (e : Env) (ds : List MD) (m : Mem) : CR := opK P e c .fail fun v => boolK v .fail (ev rd a e ds m) (ev rd b e ds m)
def sBlock (id : Nat) (b : Code) (e : Env) (ds : List MD) (m : Mem) : CR := blockK id (ev rd b e ds m)
def sLoop (b : Code) (e : Env) (ds : List MD) (m : Mem) : CR := seqK (ev rd (.loop b)) (ev rd b e ds m)
def sScope (b : Code) (e : Env) (ds : List MD) (m : Mem) : CR := scopeK (ev rd) b k b e ds m
def sExit (i : Nat) (e : Env) (ds : List MD) (m : Mem) : CR := .ok (.exit i) e ds m
def sGoto (l : Nat) (e : Env) (ds : List MD) (m : Mem) : CR := .ok (.goto l) e ds m
def sRet (e : Env) (ds : List MD) (m : Mem) : CR := .ok .ret e ds m
def sRange (g : Operand) (ps : Array Tmp) (a b : Code) (e : Env) (ds : List MD) (m : Mem) : CR := rangeM P call (ev rd) rd g ps.toList a b e ds m
def sFail (_ : Env) (_ : List MD) (_ : Mem) : CR := .fail
def fStep (c : Code) : Env → List MD → Mem → CR :=
  Code.rec (motive := fun _ => Env → List MD → Mem → CR) sNormal (sRegion P X call yl rd) (fun a b _ _ => sSeq ev rd a b) (fun c a b _ _ => sCond P ev rd c a b) (fun id b _ => sBlock ev rd id b) (fun b _ => sLoop ev rd b)
    (fun g ps a b _ _ => sRange P call ev rd g ps a b) sExit (fun b _ => sScope k ev rd b) (fun _ => sNormal) sGoto sRet (fun _ => sFail) c
theorem fStep_eq (c : Code) (e : Env) (ds : List MD) (m : Mem) : fStep P X call yl k ev rd c e ds m = evStep P X call yl k ev rd c e ds m := by
  cases c with
  | region id ops d =>
    cases d with
    | false => exact fOps_eq P X call yl rd ops ops.toList e ds m
    | true => exact fDraw_eq P X call yl ops e ds m
  | cond c a b =>
    show sCond P ev rd c a b e ds m = evStep P X call yl k ev rd (.cond c a b) e ds m
    unfold sCond
    rw [opK_eq]
    simp only [evStep]
    cases ops? P e c with
    | none => rfl
    | some v =>
      cases v with
      | bool q => cases q <;> rfl
      | _ => rfl
  | _ => rfl
end

def noCall : Caller := fun _ _ _ => .fail
def noYield : Yielder := fun _ _ _ => .fail
def callFF (P : Program) (X : Hook) (K : Masks) (ih : Option Nat → Code → Env → List MD → Mem → CR) : Caller := fun f a m => callF P X noCall noYield K ih f a m
def fRound (P : Program) (X : Hook) (K : Masks) (n : Nat) (ih : Option Nat → Code → Env → List MD → Mem → CR) (rd : Option Nat) (c : Code) : Env → List MD → Mem → CR :=
  fStep P X (callFF P X K ih) (yieldM ih) n ih rd c
def ev0 (_ : Option Nat) (_ : Code) (_ : Env) (_ : List MD) (_ : Mem) : CR := .fail
/-- The same evaluator, for the kernel. -/
def evF (P : Program) (X : Hook) (K : Masks) (n : Nat) : Option Nat → Code → Env → List MD → Mem → CR :=
  Nat.rec (motive := fun _ => Option Nat → Code → Env → List MD → Mem → CR) ev0 (fun n ih => fRound P X K n ih) n
theorem evF_eq (P : Program) (X : Hook) (K : Masks) : ∀ n, evF P X K n = ev P X K n
  | 0 => rfl
  | n + 1 => by
    have ih := evF_eq P X K n
    funext rd c e ds m
    show fRound P X K n (evF P X K n) rd c e ds m = ev P X K (n + 1) rd c e ds m
    rw [ih]
    exact fStep_eq P X _ _ n _ rd c e ds m
def evCallF (P : Program) (X : Hook) (K : Masks) (n : Nat) (f : FuncId) (args : List MV) (m : Mem) : CRes := callF P X noCall noYield K (evF P X K n) f args m
theorem evCallF_eq (P : Program) (X : Hook) (K : Masks) (n : Nat) (f : FuncId) (args : List MV) (m : Mem) : evCallF P X K n f args m = evCall P X K n f args m := by
  unfold evCallF
  rw [evF_eq]
  rfl
theorem fast {P : Program} {X : Hook} {K : Masks} {N n : Nat} {gs : Gs} {f : FuncId} {args : List MV} (h : (memGK N gs fun m => saysTrue (evCallF P X K n f args m)) = true) : (memGK N gs fun m => saysTrue (evCall P X K n f args m)) = true := by
  rw [memGK_eq] at h ⊢
  rw [← evCallF_eq]
  exact h
end
end Go.Mir

/-! THE MIRROR, LAWS 42: walking a function's code in the mirror: what code, regions and calls come to, with fuel enough. -/
namespace Go.Mir
noncomputable section

/-! ### Environments by what they hold -/
def Env.put (e : Env) (d : Nat) (v : MV) : Env := ⟨.cons d v e.l, e.t, e.n, e.k⟩
theorem Env.get_put (e : Env) (d : Nat) (v : MV) (i : Nat) : (e.put d v).get i = if i = d then some v else e.get i := Env.get_cons e d v i
theorem Env.get_put_same (e : Env) (d : Nat) (v : MV) : (e.put d v).get d = some v := by rw [Env.get_put, if_pos rfl]
theorem Env.get_put_ne (e : Env) {d i : Nat} (v : MV) (h : i ≠ d) : (e.put d v).get i = e.get i := by rw [Env.get_put, if_neg h]
theorem Env.get_flush (e : Env) (i : Nat) : e.flush.get i = if keeps e.k i = true then e.get i else none := by
  have h1 : e.flush.get i = if keeps e.k i = true then T.get (pth i) (flushT e.k e.l e.t id) else none := by
    rw [Env.get_def]
    rfl
  rw [h1]
  by_cases hk : keeps e.k i = true
  · rw [if_pos hk, if_pos hk, flushT_get, if_pos hk, Env.get_def]
    cases EL.find i e.l with
    | some v => rfl
    | none => simp only []; rw [if_pos hk]
  · rw [if_neg hk, if_neg hk]
theorem getF {e : Env} {i : Nat} (h : keeps e.k i = true) : e.flush.get i = e.get i := by rw [Env.get_flush, if_pos h]
/-- A frame of N temporaries, all of which are kept. -/
structure Env.Full (e : Env) (N : Nat) : Prop where
  n : e.n = N
  k : ∀ i, i < N → keeps e.k i = true
theorem Env.Full.put {e : Env} {N : Nat} (h : e.Full N) (d : Nat) (v : MV) : (e.put d v).Full N := ⟨h.n, h.k⟩
theorem Env.Full.flush {e : Env} {N : Nat} (h : e.Full N) : e.flush.Full N := ⟨h.n, h.k⟩
theorem Env.Full.get_flush {e : Env} {N : Nat} (h : e.Full N) {i : Nat} (hi : i < N) : e.flush.get i = e.get i := by rw [Env.get_flush, if_pos (h.k i hi)]

section
variable (P : Program) (X : Hook) (K : Masks)
/-- Code, with fuel enough. -/
def Ev (rd : Option Nat) (c : Code) (e : Env) (ds : List MD) (m : Mem) (x : EX) (e' : Env) (ds' : List MD) (m' : Mem) : Prop := ∃ N, ∀ n, N ≤ n → evF P X K n rd c e ds m = .ok x e' ds' m'
/-- A region in the text's order. -/
def EvO (rd : Option Nat) (ops : Array Oper) (l : List Oper) (e : Env) (ds : List MD) (m : Mem) (x : EX) (e' : Env) (ds' : List MD) (m' : Mem) : Prop :=
  ∃ N, ∀ n, N ≤ n → fOps P X (callFF P X K (evF P X K n)) (yieldM (evF P X K n)) rd ops l e ds m = .ok x e' ds' m'
/-- An operation. -/
def EvP (o : Op) (e : Env) (m : Mem) (v : MV) (m' : Mem) : Prop := ∃ N, ∀ n, N ≤ n → fOp P X (callFF P X K (evF P X K n)) (yieldM (evF P X K n)) o e m = .val v m'
/-- A call. -/
def EvC (f : FuncId) (args : List MV) (m : Mem) (v : MV) (m' : Mem) : Prop := ∃ N, ∀ n, N ≤ n → evCallF P X K n f args m = .ok v m'
end
section
variable {P : Program} {X : Hook} {K : Masks} {rd : Option Nat} {e e' e1 : Env} {ds ds' ds1 : List MD} {m m' m1 : Mem} {x : EX} {v : MV}

theorem ops_tmp {t : Nat} : ops? P e (.tmp t) = e.get t := rfl
theorem EvC.run {f : FuncId} {args : List MV} (h : EvC P X K f args m v m') : ∃ n, evCall P X K n f args m = .ok v m' := by
  obtain ⟨N, h⟩ := h
  exact ⟨N, by rw [← evCallF_eq]; exact h N (Nat.le_refl N)⟩

theorem Ev.skip : Ev P X K rd .skip e ds m .normal e ds m := ⟨1, fun n hn => by
  obtain ⟨k, rfl⟩ : ∃ k, n = k + 1 := ⟨n - 1, by omega⟩
  rfl⟩
theorem Ev.label {l : Nat} : Ev P X K rd (.label l) e ds m .normal e ds m := ⟨1, fun n hn => by
  obtain ⟨k, rfl⟩ : ∃ k, n = k + 1 := ⟨n - 1, by omega⟩
  rfl⟩
theorem Ev.ret : Ev P X K rd .ret e ds m .ret e ds m := ⟨1, fun n hn => by
  obtain ⟨k, rfl⟩ : ∃ k, n = k + 1 := ⟨n - 1, by omega⟩
  rfl⟩
theorem Ev.exit {i : Nat} : Ev P X K rd (.exit i) e ds m (.exit i) e ds m := ⟨1, fun n hn => by
  obtain ⟨k, rfl⟩ : ∃ k, n = k + 1 := ⟨n - 1, by omega⟩
  rfl⟩
theorem Ev.goto {l : Nat} : Ev P X K rd (.goto l) e ds m (.goto l) e ds m := ⟨1, fun n hn => by
  obtain ⟨k, rfl⟩ : ∃ k, n = k + 1 := ⟨n - 1, by omega⟩
  rfl⟩
theorem Ev.region {id : Nat} {ops : Array Oper} (h : EvO P X K rd ops ops.toList e ds m x e' ds' m') : Ev P X K rd (.region id ops false) e ds m x e' ds' m' := by
  obtain ⟨N, h⟩ := h
  refine ⟨N + 1, fun n hn => ?_⟩
  obtain ⟨k, rfl⟩ : ∃ k, n = k + 1 := ⟨n - 1, by omega⟩
  exact h k (by omega)
theorem Ev.seq {a b : Code} (h1 : Ev P X K rd a e ds m .normal e1 ds1 m1) (h2 : Ev P X K rd b e1 ds1 m1 x e' ds' m') : Ev P X K rd (.seq a b) e ds m x e' ds' m' := by
  obtain ⟨N1, h1⟩ := h1
  obtain ⟨N2, h2⟩ := h2
  refine ⟨N1 + N2 + 1, fun n hn => ?_⟩
  obtain ⟨k, rfl⟩ : ∃ k, n = k + 1 := ⟨n - 1, by omega⟩
  show seqK (evF P X K k rd b) (evF P X K k rd a e ds m) = _
  rw [h1 k (by omega)]
  exact h2 k (by omega)
theorem Ev.seq_out {a b : Code} (hx : x ≠ .normal) (h1 : Ev P X K rd a e ds m x e' ds' m') : Ev P X K rd (.seq a b) e ds m x e' ds' m' := by
  obtain ⟨N1, h1⟩ := h1
  refine ⟨N1 + 1, fun n hn => ?_⟩
  obtain ⟨k, rfl⟩ : ∃ k, n = k + 1 := ⟨n - 1, by omega⟩
  show seqK (evF P X K k rd b) (evF P X K k rd a e ds m) = _
  rw [h1 k (by omega)]
  cases x with
  | normal => exact absurd rfl hx
  | _ => rfl
theorem Ev.cond {c : Operand} {a b : Code} {q : Bool} (hc : ops? P e c = some (.bool q)) (h : Ev P X K rd (if q = true then a else b) e ds m x e' ds' m') : Ev P X K rd (.cond c a b) e ds m x e' ds' m' := by
  obtain ⟨N, h⟩ := h
  refine ⟨N + 1, fun n hn => ?_⟩
  obtain ⟨k, rfl⟩ : ∃ k, n = k + 1 := ⟨n - 1, by omega⟩
  show sCond P (evF P X K k) rd c a b e ds m = _
  unfold sCond
  rw [opK_eq, hc]
  cases q with
  | true => exact h k (by omega)
  | false => exact h k (by omega)
theorem Ev.block_out {id : Nat} {b : Code} (h : Ev P X K rd b e ds m (.exit id) e' ds' m') : Ev P X K rd (.block id b) e ds m .normal e' ds' m' := by
  obtain ⟨N, h⟩ := h
  refine ⟨N + 1, fun n hn => ?_⟩
  obtain ⟨k, rfl⟩ : ∃ k, n = k + 1 := ⟨n - 1, by omega⟩
  show blockK id (evF P X K k rd b e ds m) = _
  rw [h k (by omega)]
  simp [blockK]
theorem Ev.block {id : Nat} {b : Code} (hx : x ≠ .exit id) (h : Ev P X K rd b e ds m x e' ds' m') : Ev P X K rd (.block id b) e ds m x e' ds' m' := by
  obtain ⟨N, h⟩ := h
  refine ⟨N + 1, fun n hn => ?_⟩
  obtain ⟨k, rfl⟩ : ∃ k, n = k + 1 := ⟨n - 1, by omega⟩
  show blockK id (evF P X K k rd b e ds m) = _
  rw [h k (by omega)]
  cases x with
  | exit i =>
    have hi : i ≠ id := fun q => hx (by rw [q])
    have : Nat.beq i id = false := by
      cases hb : Nat.beq i id with
      | false => rfl
      | true => exact absurd (Nat.eq_of_beq_eq_true hb) hi
    simp [blockK, this]
  | _ => rfl
theorem Ev.loop {b : Code} (h1 : Ev P X K rd b e ds m .normal e1 ds1 m1) (h2 : Ev P X K rd (.loop b) e1 ds1 m1 x e' ds' m') : Ev P X K rd (.loop b) e ds m x e' ds' m' := by
  obtain ⟨N1, h1⟩ := h1
  obtain ⟨N2, h2⟩ := h2
  refine ⟨N1 + N2 + 1, fun n hn => ?_⟩
  obtain ⟨k, rfl⟩ : ∃ k, n = k + 1 := ⟨n - 1, by omega⟩
  show seqK (evF P X K k rd (.loop b)) (evF P X K k rd b e ds m) = _
  rw [h1 k (by omega)]
  exact h2 k (by omega)
theorem Ev.loop_out {b : Code} (hx : x ≠ .normal) (h1 : Ev P X K rd b e ds m x e' ds' m') : Ev P X K rd (.loop b) e ds m x e' ds' m' := by
  obtain ⟨N1, h1⟩ := h1
  refine ⟨N1 + 1, fun n hn => ?_⟩
  obtain ⟨k, rfl⟩ : ∃ k, n = k + 1 := ⟨n - 1, by omega⟩
  show seqK (evF P X K k rd (.loop b)) (evF P X K k rd b e ds m) = _
  rw [h1 k (by omega)]
  cases x with
  | normal => exact absurd rfl hx
  | _ => rfl

/-! ### Regions -/
theorem EvO.nil {ops : Array Oper} : EvO P X K rd ops [] e ds m .normal e.flush ds m := ⟨0, fun n _ => by
  show nilA e ds m = _
  unfold nilA
  rw [Env.flushK_eq]⟩
theorem EvO.cons {ops : Array Oper} {d : Nat} {op : Op} {ty : TypeId} {pos : String} {after : Array Edge} {os : List Oper} (h1 : EvP P X K op e m v m1) (hn : m.next ≤ m1.next) (hd : d < e.n)
    (h2 : EvO P X K rd ops os (e.put d v) ds m1 x e' ds' m') : EvO P X K rd ops (⟨some d, op, ty, pos, after, none⟩ :: os) e ds m x e' ds' m' := by
  obtain ⟨N1, h1⟩ := h1
  obtain ⟨N2, h2⟩ := h2
  refine ⟨N1 + N2, fun n hn' => ?_⟩
  show fExec P X (callFF P X K (evF P X K n)) (yieldM (evF P X K n)) rd (some d) op _ e ds m = _
  unfold fExec
  rw [h1 n (by omega)]
  show valA (some d) _ e ds m v m1 = _
  unfold valA goOn
  rw [show Nat.ble m.next m1.next = true from Nat.ble_eq_true_of_le hn]
  show e.putK (some d) v CR.fail _ = _
  have h0 : ∀ k : Env → CR, e.putK (some d) v .fail k = Bool.rec (motive := fun _ => CR) .fail (k (e.put d v)) (Nat.blt d e.n) := fun k => rfl
  rw [h0, lt_blt hd]
  exact h2 n (by omega)
/-- An operation without a place for its value. -/
theorem EvO.cons0 {ops : Array Oper} {op : Op} {ty : TypeId} {pos : String} {after : Array Edge} {os : List Oper} (h1 : EvP P X K op e m v m1) (hn : m.next ≤ m1.next)
    (h2 : EvO P X K rd ops os e ds m1 x e' ds' m') : EvO P X K rd ops (⟨none, op, ty, pos, after, none⟩ :: os) e ds m x e' ds' m' := by
  obtain ⟨N1, h1⟩ := h1
  obtain ⟨N2, h2⟩ := h2
  refine ⟨N1 + N2, fun n hn' => ?_⟩
  show fExec P X (callFF P X K (evF P X K n)) (yieldM (evF P X K n)) rd none op _ e ds m = _
  unfold fExec
  rw [h1 n (by omega)]
  show valA none _ e ds m v m1 = _
  unfold valA goOn
  rw [show Nat.ble m.next m1.next = true from Nat.ble_eq_true_of_le hn]
  exact h2 n (by omega)
theorem fWant_some {ops : Array Oper} {j : Nat} {w q : Bool} {oj : Oper} {t : Tmp} (h1 : ops[j]? = some oj) (h2 : oj.dst = some t) (h3 : e.get t = some (.bool q)) : fWant ops e (j, w) = some (q == w) := by
  unfold fWant
  simp only [h1, h2, h3]
theorem EvO.consG {ops : Array Oper} {d j : Nat} {w : Bool} {oj : Oper} {t : Tmp} {op : Op} {ty : TypeId} {pos : String} {after : Array Edge} {os : List Oper} (g1 : ops[j]? = some oj) (g2 : oj.dst = some t) (g3 : e.get t = some (.bool w))
    (h1 : EvP P X K op e m v m1) (hn : m.next ≤ m1.next) (hd : d < e.n)
    (h2 : EvO P X K rd ops os (e.put d v) ds m1 x e' ds' m') : EvO P X K rd ops (⟨some d, op, ty, pos, after, some (j, w)⟩ :: os) e ds m x e' ds' m' := by
  obtain ⟨N1, h1⟩ := h1
  obtain ⟨N2, h2⟩ := h2
  refine ⟨N1 + N2, fun n hn' => ?_⟩
  show fGuard P X (callFF P X K (evF P X K n)) (yieldM (evF P X K n)) rd ops (some d) op _ (j, w) e ds m = _
  unfold fGuard
  rw [fWant_some g1 g2 g3, beq_self_eq_true]
  show fExec P X (callFF P X K (evF P X K n)) (yieldM (evF P X K n)) rd (some d) op _ e ds m = _
  unfold fExec
  rw [h1 n (by omega)]
  show valA (some d) _ e ds m v m1 = _
  unfold valA goOn
  rw [show Nat.ble m.next m1.next = true from Nat.ble_eq_true_of_le hn]
  show e.putK (some d) v CR.fail _ = _
  have h0 : ∀ k : Env → CR, e.putK (some d) v .fail k = Bool.rec (motive := fun _ => CR) .fail (k (e.put d v)) (Nat.blt d e.n) := fun k => rfl
  rw [h0, lt_blt hd]
  exact h2 n (by omega)
theorem EvO.skipG {ops : Array Oper} {d j : Nat} {w q : Bool} {oj : Oper} {t : Tmp} {op : Op} {ty : TypeId} {pos : String} {after : Array Edge} {os : List Oper} (g1 : ops[j]? = some oj) (g2 : oj.dst = some t) (g3 : e.get t = some (.bool q)) (g4 : q ≠ w)
    (hd : d < e.n) (h2 : EvO P X K rd ops os (e.put d (.tup [])) ds m x e' ds' m') : EvO P X K rd ops (⟨some d, op, ty, pos, after, some (j, w)⟩ :: os) e ds m x e' ds' m' := by
  obtain ⟨N2, h2⟩ := h2
  refine ⟨N2, fun n hn' => ?_⟩
  show fGuard P X (callFF P X K (evF P X K n)) (yieldM (evF P X K n)) rd ops (some d) op _ (j, w) e ds m = _
  unfold fGuard
  rw [fWant_some g1 g2 g3, show (q == w) = false by simpa using g4]
  show e.putK (some d) (.tup []) CR.fail _ = _
  have h0 : ∀ k : Env → CR, e.putK (some d) (.tup []) .fail k = Bool.rec (motive := fun _ => CR) .fail (k (e.put d (.tup []))) (Nat.blt d e.n) := fun k => rfl
  rw [h0, lt_blt hd]
  exact h2 n (by omega)

theorem EvO.skipS {ops : Array Oper} {d j : Nat} {w : Bool} {oj : Oper} {t : Tmp} {op : Op} {ty : TypeId} {pos : String} {after : Array Edge} {os : List Oper} (g1 : ops[j]? = some oj) (g2 : oj.dst = some t) (g3 : e.get t = some (.tup []))
    (hd : d < e.n) (h2 : EvO P X K rd ops os (e.put d (.tup [])) ds m x e' ds' m') : EvO P X K rd ops (⟨some d, op, ty, pos, after, some (j, w)⟩ :: os) e ds m x e' ds' m' := by
  obtain ⟨N2, h2⟩ := h2
  refine ⟨N2, fun n hn' => ?_⟩
  show fGuard P X (callFF P X K (evF P X K n)) (yieldM (evF P X K n)) rd ops (some d) op _ (j, w) e ds m = _
  have hw : fWant ops e (j, w) = some false := by
    unfold fWant
    simp only [g1, g2, g3]
  unfold fGuard
  rw [hw]
  show e.putK (some d) (.tup []) CR.fail _ = _
  have h0 : ∀ k : Env → CR, e.putK (some d) (.tup []) .fail k = Bool.rec (motive := fun _ => CR) .fail (k (e.put d (.tup []))) (Nat.blt d e.n) := fun k => rfl
  rw [h0, lt_blt hd]
  exact h2 n (by omega)

/-! ### Operations -/
theorem EvP.of {o : Op} (h : ∀ call yl, evOp P X call yl e o m = .val v m') : EvP P X K o e m v m' := ⟨0, fun n _ => by rw [fOp_eq]; exact h _ _⟩
theorem EvP.move {a : Operand} (h : ops? P e a = some v) : EvP P X K (.move a) e m v m := .of fun _ _ => by simp [evOp, evPlain, opMove, h, OR.plain]
theorem EvP.assign {a : Operand} (h : ops? P e a = some v) : EvP P X K (.assign a) e m v m := .of fun _ _ => by simp [evOp, evPlain, opMove, h, OR.plain]
theorem EvP.pick {c a b : Operand} {q : Bool} (hc : ops? P e c = some (.bool q)) (h : ops? P e (if q = true then a else b) = some v) : EvP P X K (.pick c a b) e m v m := .of fun _ _ => by
  cases q <;> simp_all [evOp, evPlain, opPick, opMove, OR.plain]
theorem EvP.bin {op : BinOp} {t z : TypeId} {a b : Operand} {u w : MV} (ha : ops? P e a = some u) (hb : ops? P e b = some w) (h : binM P op t a b u w m = .val v m') : EvP P X K (.binOp op t a b z) e m v m' := .of fun _ _ => by
  simp [evOp, evPlain, opBin, ha, hb, h, OR.plain]
theorem EvP.load {t : TypeId} {a : Operand} {b off : Nat} (ha : ops? P e a = some (.ptr b off)) (h : loadV P m t b off = some v) : EvP P X K (.load t a) e m v m := .of fun _ _ => by
  simp [evOp, evPlain, opLoad, ha, h, OR.plain]
theorem EvP.nilCheck {a : Operand} {b off : Nat} (ha : ops? P e a = some (.ptr b off)) : EvP P X K (.nilCheck a) e m (.ptr b off) m := .of fun _ _ => by
  simp [evOp, evPlain, opNil, ha, OR.plain]
theorem EvP.fieldAddr {s : TypeId} {a : Operand} {i b off : Nat} (ha : ops? P e a = some (.ptr b off)) (h : fieldA P s (.ptr b off) i m = .val v m') : EvP P X K (.fieldAddr s a i) e m v m' := .of fun _ _ => by
  simp [evOp, evPlain, op1, ha, h, OR.plain]
theorem EvP.indexAddr {t : TypeId} {a i : Operand} {u w : MV} (ha : ops? P e a = some u) (hi : ops? P e i = some w) (h : indexA P t u w m = .val v m') : EvP P X K (.indexAddr t a i) e m v m' := .of fun _ _ => by
  simp [evOp, evPlain, op2, ha, hi, h, OR.plain]
end
end
end Go.Mir

/-! THE MIRROR, LAWS 43: numbers in a walk; a function entered and left. -/
namespace Go.Mir
noncomputable section
section
variable {P : Program} {X : Hook} {K : Masks} {m m' : Mem} {t : TypeId} {x y : Operand}

theorem bin_int {op : BinOp} {k : IntKind} {a b : Int} : binM P op t x y (.int k a) (.int k b) m = binI op k a b m := by
  have : sameK k k = true := by cases k <;> rfl
  simp [binM, this]
theorem bin_sub {a b : Nat} (h : b ≤ a) (ha : a ≤ 9223372036854775807) : binM P .sub t x y (.int .i64 (.ofNat a)) (.int .i64 (.ofNat b)) m = .val (.int .i64 (.ofNat (a - b))) m := by
  rw [bin_int]
  simp only [binI, intR_eq, wrapF_eq, subI_eq]
  rw [IntWalk.i64_in _ (by simp; omega)]
  congr 2
  simp; omega
theorem bin_add {a b : Nat} (h : a + b ≤ 9223372036854775807) : binM P .add t x y (.int .i64 (.ofNat a)) (.int .i64 (.ofNat b)) m = .val (.int .i64 (.ofNat (a + b))) m := by
  rw [bin_int]
  simp only [binI, intR_eq, wrapF_eq, addI_eq]
  rw [IntWalk.i64_in _ (by simp; omega)]
  rfl
theorem bin_quo {a b : Nat} (hb : b ≠ 0) (h : a ≤ 9223372036854775807) : binM P .quo t x y (.int .i64 (.ofNat a)) (.int .i64 (.ofNat b)) m = .val (.int .i64 (.ofNat (a / b))) m := by
  rw [bin_int]
  have h0 : eqI (Int.ofNat b) 0 = false := by
    rw [eqI_eq]
    simpa using hb
  have h1 : (Int.ofNat a).tdiv (Int.ofNat b) = Int.ofNat (a / b) := rfl
  simp only [binI, divI, h0, intR_eq, wrapF_eq, h1]
  have := Nat.div_le_self a b
  rw [IntWalk.i64_in _ (by
    show -9223372036854775808 ≤ ((a / b : Nat) : Int) ∧ ((a / b : Nat) : Int) ≤ 9223372036854775807
    generalize a / b = q at this
    omega)]
theorem bin_lss {k : IntKind} {a b : Int} : binM P .lss t x y (.int k a) (.int k b) m = .val (.bool (decide (a < b))) m := by
  rw [bin_int]; simp only [binI, boolR_eq, ltI_eq]
theorem bin_gtr {k : IntKind} {a b : Int} : binM P .gtr t x y (.int k a) (.int k b) m = .val (.bool (decide (b < a))) m := by
  rw [bin_int]; simp only [binI, boolR_eq, ltI_eq]
theorem bin_leq {k : IntKind} {a b : Int} : binM P .leq t x y (.int k a) (.int k b) m = .val (.bool (decide (a ≤ b))) m := by
  rw [bin_int]; simp only [binI, boolR_eq, ltI_eq, decide_not_lt]
theorem bin_geq {k : IntKind} {a b : Int} : binM P .geq t x y (.int k a) (.int k b) m = .val (.bool (decide (b ≤ a))) m := by
  rw [bin_int]; simp only [binI, boolR_eq, ltI_eq, decide_not_lt]
theorem bin_eql {k : IntKind} {a b : Int} : binM P .eql t x y (.int k a) (.int k b) m = .val (.bool (decide (a = b))) m := by
  rw [bin_int]; simp only [binI, boolR_eq, eqI_eq]
theorem bin_neq {k : IntKind} {a b : Int} : binM P .neq t x y (.int k a) (.int k b) m = .val (.bool (!decide (a = b))) m := by
  rw [bin_int]; simp only [binI, boolR_eq, eqI_eq]

theorem bin_lss_t {k : IntKind} {a b : Int} (h : a < b) : binM P .lss t x y (.int k a) (.int k b) m = .val (.bool true) m := by rw [bin_lss, decide_eq_true h]
theorem bin_lss_f {k : IntKind} {a b : Int} (h : ¬ a < b) : binM P .lss t x y (.int k a) (.int k b) m = .val (.bool false) m := by rw [bin_lss, decide_eq_false h]
theorem bin_gtr_t {k : IntKind} {a b : Int} (h : b < a) : binM P .gtr t x y (.int k a) (.int k b) m = .val (.bool true) m := by rw [bin_gtr, decide_eq_true h]
theorem bin_gtr_f {k : IntKind} {a b : Int} (h : ¬ b < a) : binM P .gtr t x y (.int k a) (.int k b) m = .val (.bool false) m := by rw [bin_gtr, decide_eq_false h]
theorem bin_leq_t {k : IntKind} {a b : Int} (h : a ≤ b) : binM P .leq t x y (.int k a) (.int k b) m = .val (.bool true) m := by rw [bin_leq, decide_eq_true h]
theorem bin_leq_f {k : IntKind} {a b : Int} (h : ¬ a ≤ b) : binM P .leq t x y (.int k a) (.int k b) m = .val (.bool false) m := by rw [bin_leq, decide_eq_false h]
theorem bin_geq_t {k : IntKind} {a b : Int} (h : b ≤ a) : binM P .geq t x y (.int k a) (.int k b) m = .val (.bool true) m := by rw [bin_geq, decide_eq_true h]
theorem bin_geq_f {k : IntKind} {a b : Int} (h : ¬ b ≤ a) : binM P .geq t x y (.int k a) (.int k b) m = .val (.bool false) m := by rw [bin_geq, decide_eq_false h]
theorem bin_eql_t {k : IntKind} {a b : Int} (h : a = b) : binM P .eql t x y (.int k a) (.int k b) m = .val (.bool true) m := by rw [bin_eql, decide_eq_true h]
theorem bin_eql_f {k : IntKind} {a b : Int} (h : ¬ a = b) : binM P .eql t x y (.int k a) (.int k b) m = .val (.bool false) m := by rw [bin_eql, decide_eq_false h]
theorem bin_neq_t {k : IntKind} {a b : Int} (h : ¬ a = b) : binM P .neq t x y (.int k a) (.int k b) m = .val (.bool true) m := by rw [bin_neq, decide_eq_false h]; rfl
theorem bin_neq_f {k : IntKind} {a b : Int} (h : a = b) : binM P .neq t x y (.int k a) (.int k b) m = .val (.bool false) m := by rw [bin_neq, decide_eq_true h]; rfl

theorem bin_subI {a b : Int} (h : -2147483648 ≤ a - b ∧ a - b ≤ 2147483647) : binM P .sub t x y (.int .i32 a) (.int .i32 b) m = .val (.int .i32 (a - b)) m := by
  rw [bin_int]
  simp only [binI, intR_eq, wrapF_eq, subI_eq]
  rw [IntWalk.i32_in _ h]
theorem bin_addI {a b : Int} (h : -2147483648 ≤ a + b ∧ a + b ≤ 2147483647) : binM P .add t x y (.int .i32 a) (.int .i32 b) m = .val (.int .i32 (a + b)) m := by
  rw [bin_int]
  simp only [binI, intR_eq, wrapF_eq, addI_eq]
  rw [IntWalk.i32_in _ h]

/-- All temporaries are kept. -/
def allK : Nat := 13407807929942597099574024998205846127479365820592393377723561443721764030073546976801874298166903427690031858186486050853753882811946569946433649006084095
def Kall : Masks := fun _ => allK
theorem keeps_all : ∀ i, i < 512 → keeps allK i = true := by
  intro i hi
  have h : (List.range 512).all (fun i => keeps allK i) = true := by decide +kernel
  exact List.all_eq_true.1 h i (List.mem_range.2 hi)

/-- The temporaries of a frame that is entered. -/
def envIn (N : Nat) (args : List MV) : Env := Env.flush ⟨envL args 0 .nil, .leaf, N, allK⟩
theorem envIn_full {N : Nat} (hN : N ≤ 512) (args : List MV) : (envIn N args).Full N := ⟨rfl, fun i hi => keeps_all i (by omega)⟩
theorem envIn_get {N : Nat} {args : List MV} {i : Nat} (hi : i < args.length) (hN : i < 512) : (envIn N args).get i = args[i]? := by
  unfold envIn
  rw [Env.get_flush, if_pos (keeps_all i hN), Env.get_def]
  simp only [envL_find]
  rw [if_pos (by omega), Nat.sub_zero]
  cases h : args[i]? with
  | some v => rfl
  | none => rw [List.getElem?_eq_none_iff] at h; omega

/-- A FUNCTION IS CALLED: its body, from its arguments to its results; nothing deferred. -/
theorem EvC.of_body {f : FuncId} {fn : Func} {c : Code} {args : List MV} {x : EX} {e' : Env} {v : MV} (hf : P.funcs[f]? = some fn) (hc : fn.body = some c) (hx : x = .normal ∨ x = .ret)
    (h : Ev P X Kall none c (envIn (args.length + (fn.ntmps - args.length)) args) [] m x e' [] m') (hr : results? P fn e' m' = some v) : EvC P X Kall f args m v m' := by
  obtain ⟨N, h⟩ := h
  refine ⟨N, fun n hn => ?_⟩
  unfold evCallF callF
  simp only [hf, hc]
  have h0 : ∀ k : Env → CRes, env0 (args.length + (fn.ntmps - args.length)) (Kall f) args k = k (envIn (args.length + (fn.ntmps - args.length)) args) := fun k => Env.flushK_eq _ _
  rw [h0, h n hn]
  rcases hx with rfl | rfl <;> simp [leave, hr]

/-! ### Results -/
theorem results_one {fn : Func} {e : Env} {a : Nat} {v : MV} (h : fn.results.toList = [.tmp a]) (h1 : e.get a = some v) : results? P fn e m = some v := by
  unfold results?
  rw [h]
  simp [results?.go, h1]
theorem results_two {fn : Func} {e : Env} {a b : Nat} {v w : MV} (h : fn.results.toList = [.tmp a, .tmp b]) (h1 : e.get a = some v) (h2 : e.get b = some w) : results? P fn e m = some (.tup [v, w]) := by
  unfold results?
  rw [h]
  simp [results?.go, h1, h2]

/-! ### Slices: a place, a length -/
theorem index_sl {t el : TypeId} {s b off len cap i : Nat} {ex : Bool} {k : IntKind} (ht : P.underlying t = some (.slice el)) (hs : sizeT P el = some s) (hi : i < len) :
    indexA P t (.sl b off len cap s ex) (.int k (.ofNat i)) m = .val (.ptr b (off + i * s)) m := by
  simp [indexA, ht, hs, idxSl, lt_blt hi, forceN_eq]
def someSize (P : Program) (t : TypeId) : Bool := match sizeT P t with | some (_ + 1) => true | _ => false
theorem field_at {s : TypeId} {fs : Array Field} {f : Field} {b off i : Nat} (ht : P.underlying s = some (.struct fs)) (hf : fs[i]? = some f) (hz : someSize P f.type = true) : fieldA P s (.ptr b off) i m = .val (.ptr b (off + f.offset)) m := by
  unfold someSize at hz
  cases hs : sizeT P f.type with
  | none => rw [hs] at hz; cases hz
  | some n =>
    cases n with
    | zero => rw [hs] at hz; cases hz
    | succ n => simp [fieldA, ht, hf, hs, forceN_eq]

/-! ### A table of pairs in memory: two cells each -/
def Tab (m : Mem) (b : Nat) (tab : List (Nat × Nat)) : Prop := ∃ tr e ro fz, m.get b = some (.cells tr (2 * tab.length) e ro fz) ∧
  ∀ (i : Nat) p, tab[i]? = some p → T.get (pth (2 * i)) tr = some (.int .i32 (.ofNat p.1)) ∧ T.get (pth (2 * i + 1)) tr = some (.int .u8 (.ofNat p.2))
theorem Tab.read {b : Nat} {tab : List (Nat × Nat)} (h : Tab m b tab) {i : Nat} {p : Nat × Nat} (hp : tab[i]? = some p) :
    m.read b (2 * i) 1 = some [.int .i32 (.ofNat p.1)] ∧ m.read b (2 * i + 1) 1 = some [.int .u8 (.ofNat p.2)] := by
  obtain ⟨tr, e, ro, fz, hg, ht⟩ := h
  obtain ⟨h1, h2⟩ := ht i p hp
  have hi : i < tab.length := by
    rcases Nat.lt_or_ge i tab.length with g | g
    · exact g
    · rw [List.getElem?_eq_none g] at hp; cases hp
  have l1 : Nat.blt (2 * i) (2 * tab.length) = true := lt_blt (by omega)
  have l2 : Nat.blt (2 * i + 1) (2 * tab.length) = true := lt_blt (by omega)
  refine ⟨?_, ?_⟩
  · unfold Mem.read
    simp only [hg, readT, l1, h1]
  · unfold Mem.read
    simp only [hg, readT, l2, h2]
theorem load_one {t : TypeId} {b off : Nat} {v : MV} (ha : aggT P t = some false) (h : m.read b off 1 = some [v]) : loadV P m t b off = some v := by
  unfold loadV
  simp only [ha, h]
end
end
end Go.Mir

/-! THE MIRROR, LAWS 44: the same walk backwards: what must hold ahead of code so that it comes to what is wanted. -/
namespace Go.Mir
noncomputable section
abbrev Post := EX → Env → List MD → Mem → Prop
section
variable (P : Program) (X : Hook) (K : Masks) (rd : Option Nat)
def To (c : Code) (e : Env) (ds : List MD) (m : Mem) (Q : Post) : Prop := ∃ x e' ds' m', Ev P X K rd c e ds m x e' ds' m' ∧ Q x e' ds' m'
def ToO (ops : Array Oper) (l : List Oper) (e : Env) (ds : List MD) (m : Mem) (Q : Post) : Prop := ∃ x e' ds' m', EvO P X K rd ops l e ds m x e' ds' m' ∧ Q x e' ds' m'
/-- Behind a piece: if it ends as usual, the rest; else what is wanted. -/
def onN (k : Env → List MD → Mem → Prop) (Q : Post) : Post := fun x e ds m => match x with
  | .normal => k e ds m
  | x => Q x e ds m
end
section
variable {P : Program} {X : Hook} {K : Masks} {rd : Option Nat} {e : Env} {ds : List MD} {m : Mem} {Q Q' : Post} {a b : Code}
theorem To.mono {c : Code} (h : To P X K rd c e ds m Q) (hq : ∀ x e ds m, Q x e ds m → Q' x e ds m) : To P X K rd c e ds m Q' := by
  obtain ⟨x, e', ds', m', h1, h2⟩ := h
  exact ⟨x, e', ds', m', h1, hq _ _ _ _ h2⟩
theorem To.seq (h : To P X K rd a e ds m (onN (fun e ds m => To P X K rd b e ds m Q) Q)) : To P X K rd (.seq a b) e ds m Q := by
  obtain ⟨x, e', ds', m', h1, h2⟩ := h
  by_cases hx : x = .normal
  · subst hx
    obtain ⟨x2, e2, ds2, m2, h3, h4⟩ := (h2 : To P X K rd b e' ds' m' Q)
    exact ⟨x2, e2, ds2, m2, h1.seq h3, h4⟩
  · refine ⟨x, e', ds', m', h1.seq_out hx, ?_⟩
    cases x <;> first | exact absurd rfl hx | exact h2
theorem To.skip (h : Q .normal e ds m) : To P X K rd .skip e ds m Q := ⟨_, _, _, _, Ev.skip, h⟩
theorem To.label {l : Nat} (h : Q .normal e ds m) : To P X K rd (.label l) e ds m Q := ⟨_, _, _, _, Ev.label, h⟩
theorem To.ret (h : Q .ret e ds m) : To P X K rd .ret e ds m Q := ⟨_, _, _, _, Ev.ret, h⟩
theorem To.exit {i : Nat} (h : Q (.exit i) e ds m) : To P X K rd (.exit i) e ds m Q := ⟨_, _, _, _, Ev.exit, h⟩
theorem To.goto {i : Nat} (h : Q (.goto i) e ds m) : To P X K rd (.goto i) e ds m Q := ⟨_, _, _, _, Ev.goto, h⟩
theorem To.region {id : Nat} {ops : Array Oper} (h : ToO P X K rd ops ops.toList e ds m Q) : To P X K rd (.region id ops false) e ds m Q := by
  obtain ⟨x, e', ds', m', h1, h2⟩ := h
  exact ⟨x, e', ds', m', Ev.region h1, h2⟩
theorem To.cond {c : Operand} {q : Bool} (hc : ops? P e c = some (.bool q)) (h1 : q = true → To P X K rd a e ds m Q) (h2 : q = false → To P X K rd b e ds m Q) : To P X K rd (.cond c a b) e ds m Q := by
  cases q with
  | true =>
    obtain ⟨x, e', ds', m', k1, k2⟩ := h1 rfl
    exact ⟨x, e', ds', m', Ev.cond hc k1, k2⟩
  | false =>
    obtain ⟨x, e', ds', m', k1, k2⟩ := h2 rfl
    exact ⟨x, e', ds', m', Ev.cond hc (by simpa using k1), k2⟩
def outB (id : Nat) (Q : Post) : Post := fun x e ds m => match x with
  | .exit i => if i = id then Q .normal e ds m else Q (.exit i) e ds m
  | x => Q x e ds m
theorem To.block {id : Nat} (h : To P X K rd b e ds m (outB id Q)) : To P X K rd (.block id b) e ds m Q := by
  obtain ⟨x, e', ds', m', h1, h2⟩ := h
  by_cases hx : x = .exit id
  · subst hx
    refine ⟨.normal, e', ds', m', h1.block_out, ?_⟩
    simpa [outB] using h2
  · refine ⟨x, e', ds', m', h1.block hx, ?_⟩
    cases x with
    | exit i =>
      have : i ≠ id := fun q => hx (by rw [q])
      simpa [outB, this] using h2
    | _ => exact h2
/-- A loop: a measure that falls, and what holds ahead of each round. -/
theorem To.loop {I : Env → List MD → Mem → Prop} (f : Env → List MD → Mem → Nat) (h0 : I e ds m)
    (hs : ∀ e ds m, I e ds m → To P X K rd b e ds m (onN (fun e' ds' m' => I e' ds' m' ∧ f e' ds' m' < f e ds m) Q)) : To P X K rd (.loop b) e ds m Q := by
  have key : ∀ (n : Nat) (e : Env) (ds : List MD) (m : Mem), f e ds m ≤ n → I e ds m → To P X K rd (.loop b) e ds m Q := by
    intro n
    induction n with
    | zero =>
      intro e ds m hn hI
      obtain ⟨x, e', ds', m', h1, h2⟩ := hs e ds m hI
      by_cases hx : x = .normal
      · subst hx
        have := (h2 : I e' ds' m' ∧ f e' ds' m' < f e ds m).2
        omega
      · refine ⟨x, e', ds', m', h1.loop_out hx, ?_⟩
        cases x <;> first | exact absurd rfl hx | exact h2
    | succ n ih =>
      intro e ds m hn hI
      obtain ⟨x, e', ds', m', h1, h2⟩ := hs e ds m hI
      by_cases hx : x = .normal
      · subst hx
        obtain ⟨k1, k2⟩ := (h2 : I e' ds' m' ∧ f e' ds' m' < f e ds m)
        obtain ⟨x2, e2, ds2, m2, h3, h4⟩ := ih e' ds' m' (by omega) k1
        exact ⟨x2, e2, ds2, m2, h1.loop h3, h4⟩
      · refine ⟨x, e', ds', m', h1.loop_out hx, ?_⟩
        cases x <;> first | exact absurd rfl hx | exact h2
  exact key _ e ds m (Nat.le_refl _) h0

/-! ### Regions -/
theorem ToO.nil {ops : Array Oper} (h : Q .normal e.flush ds m) : ToO P X K rd ops [] e ds m Q := ⟨_, _, _, _, EvO.nil, h⟩
theorem ToO.cons {ops : Array Oper} {d : Nat} {op : Op} {ty : TypeId} {pos : String} {after : Array Edge} {os : List Oper} {v : MV} {m1 : Mem} (h1 : EvP P X K op e m v m1) (hn : m.next ≤ m1.next) (hd : d < e.n)
    (h2 : ToO P X K rd ops os (e.put d v) ds m1 Q) : ToO P X K rd ops (⟨some d, op, ty, pos, after, none⟩ :: os) e ds m Q := by
  obtain ⟨x, e', ds', m', k1, k2⟩ := h2
  exact ⟨x, e', ds', m', EvO.cons h1 hn hd k1, k2⟩
theorem ToO.cons0 {ops : Array Oper} {op : Op} {ty : TypeId} {pos : String} {after : Array Edge} {os : List Oper} {v : MV} {m1 : Mem} (h1 : EvP P X K op e m v m1) (hn : m.next ≤ m1.next)
    (h2 : ToO P X K rd ops os e ds m1 Q) : ToO P X K rd ops (⟨none, op, ty, pos, after, none⟩ :: os) e ds m Q := by
  obtain ⟨x, e', ds', m', k1, k2⟩ := h2
  exact ⟨x, e', ds', m', EvO.cons0 h1 hn k1, k2⟩
theorem ToO.guard {ops : Array Oper} {d j : Nat} {w q : Bool} {oj : Oper} {t : Tmp} {op : Op} {ty : TypeId} {pos : String} {after : Array Edge} {os : List Oper} (g1 : ops[j]? = some oj) (g2 : oj.dst = some t) (g3 : e.get t = some (.bool q)) (hd : d < e.n)
    (h1 : q = w → ∃ v m1, EvP P X K op e m v m1 ∧ m.next ≤ m1.next ∧ ToO P X K rd ops os (e.put d v) ds m1 Q)
    (h2 : q ≠ w → ToO P X K rd ops os (e.put d (.tup [])) ds m Q) : ToO P X K rd ops (⟨some d, op, ty, pos, after, some (j, w)⟩ :: os) e ds m Q := by
  by_cases hq : q = w
  · subst hq
    obtain ⟨v, m1, k1, k2, x, e', ds', m', k3, k4⟩ := h1 rfl
    exact ⟨x, e', ds', m', EvO.consG g1 g2 g3 k1 k2 hd k3, k4⟩
  · obtain ⟨x, e', ds', m', k1, k2⟩ := h2 hq
    exact ⟨x, e', ds', m', EvO.skipG g1 g2 g3 hq hd k1, k2⟩
theorem ToO.guardY {ops : Array Oper} {d j : Nat} {w : Bool} {oj : Oper} {t : Tmp} {op : Op} {ty : TypeId} {pos : String} {after : Array Edge} {os : List Oper} {v : MV} {m1 : Mem} (g1 : ops[j]? = some oj) (g2 : oj.dst = some t) (g3 : e.get t = some (.bool w)) (hd : d < e.n)
    (h1 : EvP P X K op e m v m1) (hn : m.next ≤ m1.next) (h2 : ToO P X K rd ops os (e.put d v) ds m1 Q) : ToO P X K rd ops (⟨some d, op, ty, pos, after, some (j, w)⟩ :: os) e ds m Q :=
  ToO.guard g1 g2 g3 hd (fun _ => ⟨v, m1, h1, hn, h2⟩) (fun h => absurd rfl h)
theorem ToO.guardS {ops : Array Oper} {d j : Nat} {w : Bool} {oj : Oper} {t : Tmp} {op : Op} {ty : TypeId} {pos : String} {after : Array Edge} {os : List Oper} (g1 : ops[j]? = some oj) (g2 : oj.dst = some t) (g3 : e.get t = some (.tup [])) (hd : d < e.n)
    (h2 : ToO P X K rd ops os (e.put d (.tup [])) ds m Q) : ToO P X K rd ops (⟨some d, op, ty, pos, after, some (j, w)⟩ :: os) e ds m Q := by
  obtain ⟨x, e', ds', m', k1, k2⟩ := h2
  exact ⟨x, e', ds', m', EvO.skipS g1 g2 g3 hd k1, k2⟩
theorem ToO.guardN {ops : Array Oper} {d j : Nat} {w q : Bool} {oj : Oper} {t : Tmp} {op : Op} {ty : TypeId} {pos : String} {after : Array Edge} {os : List Oper} (g1 : ops[j]? = some oj) (g2 : oj.dst = some t) (g3 : e.get t = some (.bool q)) (hd : d < e.n) (hq : q ≠ w)
    (h2 : ToO P X K rd ops os (e.put d (.tup [])) ds m Q) : ToO P X K rd ops (⟨some d, op, ty, pos, after, some (j, w)⟩ :: os) e ds m Q :=
  ToO.guard g1 g2 g3 hd (fun h => absurd h hq) (fun _ => h2)
/-- A region that draws its order, if it reads only: as in the text's order. -/
theorem To.draw {id : Nat} {ops : Array Oper} (hr : regOk ops = true) (h : ∃ N es e' m', (∀ n, N ≤ n → fRunD P X (callFF P X K (evF P X K n)) (yieldM (evF P X K n)) ops ops.toList 0 e m [] = .ok es e' m') ∧ calm es = true ∧ Q .normal e'.flush ds m') :
    To P X K rd (.region id ops true) e ds m Q := by
  obtain ⟨N, es, e', m', h1, h2, h3⟩ := h
  refine ⟨.normal, e'.flush, ds, m', ⟨N + 1, fun n hn => ?_⟩, h3⟩
  obtain ⟨k, rfl⟩ : ∃ k, n = k + 1 := ⟨n - 1, by omega⟩
  show fDraw P X (callFF P X K (evF P X K k)) (yieldM (evF P X K k)) ops e ds m = _
  unfold fDraw
  simp only [hr, h1 k (by omega)]
  show okD P X _ _ ops ds es e' m' = _
  unfold okD
  simp only [h2, Env.flushK_eq]
theorem EvP.lenSl {c : Call} {x : Operand} {t el : TypeId} {ts : List TypeId} {b off len cap sz : Nat} {ex : Bool} (hc : c.callee = .builtin .len) (ha : c.args.toList = [x]) (h0 : c.argTypes.toList = t :: ts) (ht : P.underlying t = some (.slice el))
    (hx : ops? P e x = some (.sl b off len cap sz ex)) : EvP P X K (.call c) e m (.int .i64 (.ofNat len)) m := .of fun _ _ => by
  simp [evOp, opCall, ha, opsL, hx, hc, opBuiltin, h0, lenM, ht, lenS, OR.plain]

/-- Such a region, walked. -/
def ToD (P : Program) (X : Hook) (K : Masks) (ops : Array Oper) (l : List Oper) (i : Nat) (e : Env) (m : Mem) (Q : Env → Mem → Prop) : Prop :=
  ∀ es, calm es = true → ∃ N es' e' m', (∀ n, N ≤ n → fRunD P X (callFF P X K (evF P X K n)) (yieldM (evF P X K n)) ops l i e m es = .ok es' e' m') ∧ calm es' = true ∧ Q e' m'
theorem ToD.nil {ops : Array Oper} {i : Nat} {Q : Env → Mem → Prop} (h : Q e m) : ToD P X K ops [] i e m Q := fun es hc => ⟨0, es, e, m, fun _ _ => rfl, hc, h⟩
theorem ToD.cons {ops : Array Oper} {i d : Nat} {op : Op} {ty : TypeId} {pos : String} {after : Array Edge} {os : List Oper} {v : MV} {m1 : Mem} {Q : Env → Mem → Prop} (h1 : EvP P X K op e m v m1) (hk : kd P op = .pure ∨ kd P op = .read) (hn : m.next ≤ m1.next) (hd : d < e.n)
    (h2 : ToD P X K ops os (i + 1) (e.put d v) m1 Q) : ToD P X K ops (⟨some d, op, ty, pos, after, none⟩ :: os) i e m Q := fun es hc => by
  obtain ⟨N1, h1⟩ := h1
  have hc' : calm (⟨i, ⟨some d, op, ty, pos, after, none⟩, false, kd P op, e, m, v⟩ :: es) = true := by
    rcases hk with hk | hk <;> simp only [calm, hk, hc]
  obtain ⟨N2, es', e', m', h3, h4, h5⟩ := h2 _ hc'
  refine ⟨N1 + N2, es', e', m', fun n hn' => ?_, h4, h5⟩
  show exD P X (callFF P X K (evF P X K n)) (yieldM (evF P X K n)) _ (some d) op _ i e m es = _
  unfold exD
  rw [h1 n (by omega)]
  show valD P _ (some d) op _ i e m es v m1 = _
  unfold valD goD
  rw [show Nat.ble m.next m1.next = true from Nat.ble_eq_true_of_le hn]
  show e.putK (some d) v DR.fail _ = _
  have h0 : ∀ k : Env → DR, e.putK (some d) v .fail k = Bool.rec (motive := fun _ => DR) .fail (k (e.put d v)) (Nat.blt d e.n) := fun k => rfl
  rw [h0, lt_blt hd]
  exact h3 n (by omega)
theorem To.drawn {id : Nat} {ops : Array Oper} (hr : regOk ops = true) (h : ToD P X K ops ops.toList 0 e m fun e' m' => Q .normal e'.flush ds m') : To P X K rd (.region id ops true) e ds m Q := by
  obtain ⟨N, es, e', m', h1, h2, h3⟩ := h [] rfl
  exact To.draw hr ⟨N, es, e', m', h1, h2, h3⟩
theorem EvC.to {f : FuncId} {fn : Func} {c : Code} {args : List MV} {R : MV → Mem → Prop} (hf : P.funcs[f]? = some fn) (hc : fn.body = some c)
    (h : To P X Kall none c (envIn (args.length + (fn.ntmps - args.length)) args) [] m fun x e' ds' m' => (x = .normal ∨ x = .ret) ∧ ds' = [] ∧ ∃ v, results? P fn e' m' = some v ∧ R v m') : ∃ v m', EvC P X Kall f args m v m' ∧ R v m' := by
  obtain ⟨x, e', ds', m', h1, hx, rfl, v, h2, h3⟩ := h
  exact ⟨v, m', EvC.of_body hf hc hx h1 h2, h3⟩
end
end
end Go.Mir

/-! THE MIRROR, LAWS 45: hooks for functions of plain data: what they say is told by a Lean function. -/
namespace Go.Mir
open Go.RowKit
noncomputable section
section
variable {P : Program} {X : Hook} {K : Masks} {μ : Mp} {m m' : Mem} {w w' : World} {G : Nat}
/-- A value without names. -/
def bare : MV → Bool
  | .bool _ | .int _ _ | .str _ => true
  | _ => false
def bares (v : MV) : Bool := match v with
  | .tup vs => vs.all bare
  | v => bare v
theorem bare_tr : ∀ {v : MV}, bare v = true → ∃ u, ∀ μ, tr μ v = some u
  | .bool _, _ => ⟨_, fun _ => rfl⟩
  | .int _ _, _ => ⟨_, fun _ => rfl⟩
  | .str _, _ => ⟨_, fun _ => rfl⟩
theorem bares_trs : ∀ {vs : List MV}, vs.all bare = true → ∃ us, ∀ μ, trs μ vs = some us
  | [], _ => ⟨[], fun _ => rfl⟩
  | v :: vs, h => by
    rw [List.all_cons, Bool.and_eq_true] at h
    obtain ⟨u, hu⟩ := bare_tr h.1
    obtain ⟨us, hus⟩ := bares_trs h.2
    exact ⟨u :: us, fun μ => by simp only [trs, hu μ, hus μ]⟩
theorem bares_tr {v : MV} (h : bares v = true) : ∃ u, ∀ μ, tr μ v = some u := by
  cases v with
  | tup vs =>
    obtain ⟨us, hus⟩ := bares_trs h
    exact ⟨.tuple us.toArray, fun μ => by simp only [tr, hus μ]⟩
  | bool _ => exact bare_tr h
  | int _ _ => exact bare_tr h
  | str _ => exact bare_tr h
  | _ => cases h

abbrev Fun := FuncId → List MV → Option MV
def hookF (gs : Gs) (F : Fun) : Hook := fun f args m => match F f args with
  | none => none
  | some v => match rowsIn m gs with
    | true => some (v, m)
    | false => none
structure FunF (P : Program) (G : Nat) (gs : Gs) (F : Fun) : Prop where
  ok : ∀ f args v, F f args = some v → (∃ fn c, P.funcs[f]? = some fn ∧ (fn.name == "runtime.NumGoroutine") = false ∧ fn.body = some c) ∧ lows G args = true ∧ bares v = true ∧
    ∃ (X : Hook) (K : Masks) (n : Nat) (m' : Mem), HookS P X ∧ evCall P X K n f args (memG (G + 1) gs) = .ok v m'
theorem hookF_sound (hmix : P.follows .mixedOrders = true) (hG : P.globals.size = G) {gs : Gs} {F : Fun} (hlow : (gs.all fun x => Nat.ble x.1 G && lows G x.2.2) = true) (hF : FunF P G gs F) : HookS P (hookF gs F) := by
  intro f args m v m' hx μ w us h _ hu
  unfold hookF at hx
  cases hfe : F f args with
  | none => rw [hfe] at hx; cases hx
  | some v0 =>
    rw [hfe] at hx
    simp only [] at hx
    cases hin : rowsIn m gs with
    | false => rw [hin] at hx; cases hx
    | true =>
      rw [hin] at hx
      cases hx
      obtain ⟨⟨fn, c, b1, b2, b3⟩, hp, hb, X, K, n, m1, hX, hrun⟩ := hF.ok f args v hfe
      have hR := rel_within hG h hin hlow
      have hu0 : trs (cutMu G μ) args = some us := by rw [trs_low (fun b hb => cutMu_low hb) _ hp]; exact hu
      have hfree : Free (cutMu G μ) (memG (G + 1) gs).next m1.next := fun k hk _ => by
        rw [memG_next] at hk
        unfold cutMu
        rw [if_neg (by omega)]
      obtain ⟨u, hu1⟩ := bares_tr hb
      refine upon_below b1 b2 b3 h (u := u) (hu1 μ) ((evCall_closed hX hmix hrun memG_ro hR hfree hu0).mono ?_)
      rintro ev w' ⟨u', μ', rfl, h2, h3⟩
      rw [hu1 μ'] at h2
      cases h2
      exact ⟨rfl, h3⟩
end
end
end Go.Mir

/-! THE MIRROR, LAWS 46: more operations of a walk: new memory, stores, calls, tuples, slices of arrays. -/
namespace Go.Mir
noncomputable section
section
variable {P : Program} {X : Hook} {K : Masks} {e : Env} {m m' : Mem} {v : MV}
theorem EvP.alloc {t : TypeId} {z : MV} (hz : zeroT P t = some z) : EvP P X K (.alloc t) e m (.ptr m.next 0) (m.new (.cells (rowT z.cells 0 .leaf) z.cells.length t false 0)) := .of fun _ _ => by
  simp [evOp, evPlain, opAlloc, hz, newRowK_eq, OR.plain]
theorem EvP.box {t : TypeId} {x : Operand} (hx : ops? P e x = some v) : EvP P X K (.box t x) e m (.ptr m.next 0) (m.new (.cells (rowT v.cells 0 .leaf) v.cells.length t false 0)) := .of fun _ _ => by
  simp [evOp, evPlain, opBox, hx, newRowK_eq, OR.plain]
theorem EvP.store {t : TypeId} {a x : Operand} {b off s : Nat} (ha : ops? P e a = some (.ptr b off)) (hx : ops? P e x = some v) (hs : sizeT P t = some s) (hl : v.cells.length = s) (hw : m.write b off v.cells = some m') :
    EvP P X K (.store t a x) e m (.tup []) m' := .of fun _ _ => by
  have h1 : Nat.beq v.cells.length s = true := by rw [hl]; exact Nat.beq_refl s
  simp [evOp, evPlain, opStore, ha, hx, hs, h1, Mem.writeK_eq, hw, OR.plain]
theorem write_row {b off n : Nat} {t : T MV} {el : TypeId} {vs : List MV} (hg : m.get b = some (.cells t n el false 0)) (h1 : ∀ v ∈ vs, v.one = true) (hn : off + vs.length ≤ n) (h0 : vs ≠ []) :
    m.write b off vs = some (m.put b (.cells (rowT vs off t) n el false 0)) := by
  unfold Mem.write Mem.writeK
  cases vs with
  | nil => exact absurd rfl h0
  | cons v vs =>
    simp only [hg]
    have : Nat.ble 0 off = true := Nat.ble_eq_true_of_le (Nat.zero_le off)
    rw [this]
    simp only []
    rw [writeTK_eq, if_pos ⟨h1, fun _ => hn⟩]
    simp only [Mem.putK_eq, id]
theorem EvP.extract {x : Operand} {i : Nat} {vs : List MV} (hx : ops? P e x = some (.tup vs)) (hi : vs[i]? = some v) : EvP P X K (.extract x i) e m v m := .of fun _ _ => by
  simp [evOp, evPlain, opExtract, hx, hi, OR.plain]
theorem EvP.conv {s d : TypeId} {x : Operand} {u : MV} (hx : ops? P e x = some u) (h : convM P s d u m = .val v m') : EvP P X K (.convert s d x) e m v m' := .of fun _ _ => by
  simp [evOp, evPlain, op1, hx, h, OR.plain]
theorem EvP.sliceArr {t el : TypeId} {x : Operand} {b off n s : Nat} (ht : P.underlying t = some (.array (n + 1) el)) (hs : sizeT P el = some s) (hx : ops? P e x = some (.ptr b off)) :
    EvP P X K (.slice t x none none none) e m (.sl b off (n + 1) (n + 1) s true) m := .of fun _ _ => by
  simp [evOp, evPlain, opSlice, hx, opO, sliceM, ht, hs, sliceA, boundsM, natO, loM, forceN_eq, OR.plain, Nat.beq]
theorem EvP.call {c : Call} {g : FuncId} {args : List MV} {fn : Func} (hc : c.callee = .value (.func g)) (ha : opsL P e c.args.toList = some args) (hX : X g args m = none) (hf : P.funcs[g]? = some fn) (hn : (fn.name == "runtime.NumGoroutine") = false) (hb : fn.body.isSome = true)
    (h : EvC P X K g args m v m') : EvP P X K (.call c) e m v m' := by
  obtain ⟨N, h⟩ := h
  refine ⟨N, fun n hn' => ?_⟩
  rw [fOp_eq]
  have h1 : callFF P X K (evF P X K n) g args m = .ok v m' := h n hn'
  cases hbd : fn.body with
  | none => rw [hbd] at hb; cases hb
  | some cd => simp [evOp, opCall, ha, hc, ops?, callV, callN, hX, hf, hn, hbd, h1, CRes.toOR]
theorem EvP.hook {c : Call} {g : FuncId} {args : List MV} (hc : c.callee = .value (.func g)) (ha : opsL P e c.args.toList = some args) (hX : X g args m = some (v, m')) : EvP P X K (.call c) e m v m' := .of fun _ _ => by
  simp [evOp, opCall, ha, hc, ops?, callV, callN, hX]
/-- No hooks. -/
def noHook : Hook := fun _ _ _ => none
theorem noHook_sound : HookS P noHook := fun f args m v m' hx => by cases hx
end
end
end Go.Mir

/-! THE MIRROR, LAWS 47: a hook for utf8.DecodeRuneInString, by the library's contract. -/
namespace Go.Mir
open Go.RowKit
noncomputable section
section
variable {P : Program} {X : Hook} {K : Masks} {μ : Mp} {m m' : Mem} {w w' : World} {G : Nat}
/-- A cell of a row that lies in the memory as it was laid. -/
theorem rel_cell (h : Rel P μ m w) {g : Nat} {e : TypeId} {vs : List MV} (hg : g ≤ P.globals.size) (hin : rowIn m g e vs = true) {i : Nat} {v : MV} (hv : vs[i]? = some v) :
    ∃ u, tr μ v = some u ∧ w.cell? ⟨g, i, none⟩ = some u := by
  obtain ⟨t, ro, fz, g3, g4⟩ := rowIn_spec hin
  obtain ⟨x, h1, h2, h3⟩ := h.glob g hg
  obtain ⟨ob, g5, g6, c, lh, rfl, g7, g8, _⟩ := h.blk g x _ h1 g3
  obtain ⟨hi, _⟩ := List.getElem?_eq_some_iff.1 hv
  obtain ⟨u, a1, a2⟩ := g8 i v hi (g4 i v hv)
  refine ⟨u, a2, ?_⟩
  rw [h3, Nat.zero_add] at a1
  rw [h2] at g5
  simp [World.cell?, g5, a1]
/-- The tables that the decoder reads. -/
def firstL : List MV := (List.range 256).map fun c => .int .u8 (.ofNat (Lib.firstT c))
def accL : List MV := (List.range 16).flatMap fun i => [.int .u8 (.ofNat (Lib.accLo i)), .int .u8 (.ofNat (Lib.accHi i))]
theorem accL_get : ∀ i, i < 16 → accL[2 * i]? = some (.int .u8 (.ofNat (Lib.accLo i))) ∧ accL[2 * i + 1]? = some (.int .u8 (.ofNat (Lib.accHi i))) := by
  intro i hi
  rcases (by omega : i = 0 ∨ i = 1 ∨ i = 2 ∨ i = 3 ∨ i = 4 ∨ i = 5 ∨ i = 6 ∨ i = 7 ∨ i = 8 ∨ i = 9 ∨ i = 10 ∨ i = 11 ∨ i = 12 ∨ i = 13 ∨ i = 14 ∨ i = 15) with h | h | h | h | h | h | h | h | h | h | h | h | h | h | h | h <;> subst h <;> exact ⟨rfl, rfl⟩
theorem tabs_in (h : Rel P μ m w) {g3 g4 : Nat} {e3 e4 : TypeId} (hg3 : g3 ≤ P.globals.size) (hg4 : g4 ≤ P.globals.size) (h3 : rowIn m g3 e3 firstL = true) (h4 : rowIn m g4 e4 accL = true) : Lib.Utf8Tabs g3 g4 w := by
  constructor
  · intro c hc
    obtain ⟨u, k1, k2⟩ := rel_cell h hg3 h3 (i := c) (v := .int .u8 (.ofNat (Lib.firstT c))) (by simp [firstL, hc])
    cases k1
    exact k2
  · intro i hi
    obtain ⟨a1, a2⟩ := accL_get i hi
    obtain ⟨u, k1, k2⟩ := rel_cell h hg4 h4 a1
    obtain ⟨u', k3, k4⟩ := rel_cell h hg4 h4 a2
    cases k1
    cases k3
    exact ⟨k2, k4⟩
def decL (l : List UInt8) : Nat × Nat := match l with
  | [] => (65533, 0)
  | b :: r => Lib.decodeN (r.length + 1) b.toNat (r.getD 0 0).toNat (r.getD 1 0).toNat (r.getD 2 0).toNat
theorem decL_go (l : List UInt8) : Lib.decodeGo ⟨⟨l⟩⟩ = decL l := by
  unfold Lib.decodeGo decL
  cases l with
  | nil => rfl
  | cons b r =>
    have h0 : (⟨⟨b :: r⟩⟩ : ByteArray).size ≠ 0 := by simp [ByteArray.size]
    rw [if_neg h0, Lib.decode_N]
    simp
/-- f: the decoder; g3, g4: where the tables lie, of types e3, e4. -/
def hookDec (f : FuncId) (g3 : Nat) (e3 : TypeId) (g4 : Nat) (e4 : TypeId) : Hook := fun f' args m => match Nat.beq f' f with
  | false => none
  | true => match args with
    | [.str s] => match rowIn m g3 e3 firstL && rowIn m g4 e4 accL with
      | false => none
      | true => forceN (decL s).1 fun r => forceN (decL s).2 fun n => some (.tup [.int .i32 (.ofNat r), .int .i64 (.ofNat n)], m)
    | _ => none
theorem hookDec_sound {f : FuncId} {g3 g4 : Nat} {e3 e4 : TypeId} (hg3 : g3 ≤ P.globals.size) (hg4 : g4 ≤ P.globals.size) {fn : Func} {c : Code} (b1 : P.funcs[f]? = some fn) (b2 : (fn.name == "runtime.NumGoroutine") = false) (b3 : fn.body = some c)
    (hc : ∀ (s : ByteArray) (w : World), Lib.Utf8Tabs g3 g4 w → Calls P f #[.string s] w fun e w' => e = .returned (.tuple #[.int .i32 (Lib.decodeGo s).1, .int .i64 (Lib.decodeGo s).2]) ∧ Below w.heap.size w w') : HookS P (hookDec f g3 e3 g4 e4) := by
  intro f' args m v m' hx μ w us h _ hu
  unfold hookDec at hx
  cases hf : Nat.beq f' f with
  | false => rw [hf] at hx; cases hx
  | true =>
    obtain rfl : f' = f := Nat.eq_of_beq_eq_true hf
    rw [hf] at hx
    simp only [] at hx
    split at hx
    · rename_i s
      cases hr : (rowIn m g3 e3 firstL && rowIn m g4 e4 accL) with
      | false => rw [hr] at hx; cases hx
      | true =>
        rw [hr] at hx
        simp only [forceN_eq] at hx
        cases hx
        rw [Bool.and_eq_true] at hr
        obtain ⟨u, us', rfl, k1, k2⟩ := trs_cons hu
        have := trs_nil k2
        subst this
        cases k1
        refine upon_below b1 b2 b3 h (v := .tup [.int .i32 (.ofNat (decL s).1), .int .i64 (.ofNat (decL s).2)]) rfl ((hc ⟨⟨s⟩⟩ w (tabs_in h hg3 hg4 hr.1 hr.2)).mono ?_)
        rintro e w' ⟨rfl, hb⟩
        rw [decL_go]
        exact ⟨rfl, hb⟩
    · cases hx
end
end
end Go.Mir

/-! THE MIRROR, LAWS 48: a hook out of a table of calls (plain arguments, plain results), each of which the kernel has run once: what a long run asks again and again need not be run again. -/
namespace Go.Mir
noncomputable section
structure EntV where
  f : FuncId
  args : List MV
  v : MV
/-- The table's answer. -/
def findV : List EntV → Fun
  | [] => fun _ _ => none
  | e :: es => fun f args => match Nat.beq e.f f with
    | false => findV es f args
    | true => match sames args e.args with
      | true => some e.v
      | false => findV es f args
theorem findV_mem {f : FuncId} {args : List MV} {v : MV} : ∀ {es : List EntV}, findV es f args = some v → ∃ e ∈ es, e.f = f ∧ args = e.args ∧ e.v = v
  | [], h => by cases h
  | e :: es, h => by
    unfold findV at h
    cases h1 : Nat.beq e.f f with
    | false =>
      rw [h1] at h
      obtain ⟨x, hx, r⟩ := findV_mem h
      exact ⟨x, List.mem_cons_of_mem _ hx, r⟩
    | true =>
      rw [h1] at h
      simp only [] at h
      cases h2 : sames args e.args with
      | false =>
        rw [h2] at h
        obtain ⟨x, hx, r⟩ := findV_mem h
        exact ⟨x, List.mem_cons_of_mem _ hx, r⟩
      | true =>
        rw [h2] at h
        cases h
        exact ⟨e, List.mem_cons_self .., Nat.eq_of_beq_eq_true h1, sames_eq h2, rfl⟩
def saysV (v : MV) : CRes → Bool
  | .ok v' _ => same v' v
  | _ => false
theorem saysV_ok {v : MV} {r : CRes} (h : saysV v r = true) : ∃ m', r = .ok v m' := by
  cases r with
  | ok v' m' => exact ⟨m', by rw [same_eq h]⟩
  | _ => cases h
section
variable (P : Program) (X : Hook) (K : Masks) (n G : Nat) (gs : Gs)
/-- Does each entry say what the run says? -/
def runsV (es : List EntV) : Bool := match es with
  | [] => true
  | e :: es => match memGK (G + 1) gs fun m => saysV e.v (evCallF P X K n e.f e.args m) with
    | true => runsV es
    | false => false
def formV (es : List EntV) : Bool := es.all fun e => lows G e.args && bares e.v && (match P.funcs[e.f]? with
  | some fn => !(fn.name == "runtime.NumGoroutine") && fn.body.isSome
  | none => false)
end
theorem runsV_mem {P : Program} {X : Hook} {K : Masks} {n G : Nat} {gs : Gs} : ∀ {es : List EntV}, runsV P X K n G gs es = true → ∀ e ∈ es, ∃ m', evCall P X K n e.f e.args (memG (G + 1) gs) = .ok e.v m'
  | [], _, e, he => by cases he
  | x :: es, h, e, he => by
    unfold runsV at h
    cases h1 : (memGK (G + 1) gs fun m => saysV x.v (evCallF P X K n x.f x.args m)) with
    | false => rw [h1] at h; cases h
    | true =>
      rw [h1] at h
      rcases List.mem_cons.1 he with rfl | he
      · rw [memGK_eq, evCallF_eq] at h1
        exact saysV_ok h1
      · exact runsV_mem h e he
theorem funF_of {P : Program} {X : Hook} {K : Masks} {n G : Nat} {gs : Gs} {es : List EntV} (hX : HookS P X) (hf : formV P G es = true) (hr : runsV P X K n G gs es = true) : FunF P G gs (findV es) := by
  constructor
  intro f args v h
  obtain ⟨e, he, rfl, rfl, rfl⟩ := findV_mem h
  have h1 := (List.all_eq_true.1 hf) e he
  rw [Bool.and_eq_true, Bool.and_eq_true] at h1
  obtain ⟨⟨a1, a2⟩, a3⟩ := h1
  obtain ⟨m', hm⟩ := runsV_mem hr e he
  refine ⟨?_, a1, a2, X, K, n, m', hX, hm⟩
  split at a3
  · rename_i fn hfn
    rw [Bool.and_eq_true] at a3
    obtain ⟨b1, b2⟩ := a3
    cases hb : fn.body with
    | none => rw [hb] at b2; cases b2
    | some c => exact ⟨fn, c, hfn, by simpa using b1, hb⟩
  · cases a3
/-- Tables of which each is run with the others' help stand together. -/
theorem FunF.either {P : Program} {G : Nat} {gs : Gs} {F F' : Fun} (h : FunF P G gs F) (h' : FunF P G gs F') : FunF P G gs (fun f args => match F f args with | some v => some v | none => F' f args) := by
  constructor
  intro f args v hv
  cases hF : F f args with
  | some u =>
    simp only [hF] at hv
    cases hv
    exact h.ok f args v hF
  | none =>
    simp only [hF] at hv
    exact h'.ok f args v hv
end
end Go.Mir
