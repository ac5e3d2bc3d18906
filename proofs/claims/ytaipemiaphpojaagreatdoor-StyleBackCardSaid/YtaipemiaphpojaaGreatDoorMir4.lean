/- The mirror, part 4 of 8: a deterministic evaluator of the code, which the kernel runs, and the proof that what it says of a call, the machine does, in every memory and on every tape. No condition. -/
import Derived.Test.YtaipemiaphpojaaGreatDoorMir3
import Derived.RangeFuncLeaves
import Derived.RangeFuncCalls
import Derived.TacticsIn

/-! THE MIRROR, LAWS 16: calls. -/
namespace Go.Mir
noncomputable section

/-- The fence: of a function's frame, of a round's. -/
def Fc (r : Option Nat) : Fence := match r with | none => Fence.wide | some l => Fence.wide.inRound l
theorem Fc_fn (r : Option Nat) (f : FuncId) : (Fc r).fn f := by cases r <;> trivial
theorem Fc_depth (r : Option Nat) : (Fc r).depth = none := by cases r <;> rfl
theorem Fc_round (r : Option Nat) : (Fc r).round = r := by cases r <;> rfl
theorem Fc_room (r : Option Nat) (n : Nat) : (Fc r).depth.isSome = true → 1 ≤ n := by rw [Fc_depth]; intro h; cases h
theorem Fc_calls {r : Option Nat} {n : Nat} {P : Program} {f : FuncId} {args : Array Value} {w : World} {R : Ending → World → Prop} (h : CallsIn Fence.wide n P f args w R) : CallsIn (Fc r) n P f args w R := by
  cases r with
  | none => exact h
  | some l => exact CallsIn.inRound l h
theorem Fc_rounds {r : Option Nat} {n : Nat} {P : Program} {l : Nat} {f : FuncId} {tmps : Array Value} {assign body : Code} {w : World} {R : Ending → World → Prop} (h : RoundIn Fence.wide n P l f tmps assign body w R) :
    RoundIn (Fc r) n P l f tmps assign body w R := by
  cases r with
  | none => exact h
  | some l => exact h

section
variable (P : Program)

/-- What a call comes to: it hands back a value; it passes a panic up. -/
def RetP (μ : Mp) (m : Mem) (w : World) (v : MV) (m' : Mem) (e : Ending) (w' : World) : Prop :=
  ∃ u μ', e = .returned u ∧ tr μ' v = some u ∧ Rel P μ' m' w' ∧ Ext μ m w μ' m' w'
def PanP (μ : Mp) (m : Mem) (w : World) (v : MV) (m' : Mem) (e : Ending) (w' : World) : Prop :=
  ∃ u μ', e = .panicked [{ v := u, recovered := false }] ∧ tr μ' v = some u ∧ Rel P μ' m' w' ∧ Ext μ m w μ' m' w'

/-- Functions that the mirror calls do as it says. -/
structure CallS (call : Caller) : Prop where
  ok : ∀ f args m v m', call f args m = .ok v m' → ∀ μ w us n, Rel P μ m w → Free μ m.next m'.next → trs μ args = some us → CallsIn Fence.wide n P f us.toArray w (RetP P μ m w v m')
  pan : ∀ f args m v m', call f args m = .pan v m' → ∀ μ w us n, Rel P μ m w → Free μ m.next m'.next → trs μ args = some us → CallsIn Fence.wide n P f us.toArray w (PanP P μ m w v m')
/-- Rounds likewise. -/
structure YieldS (yl : Yielder) : Prop where
  ok : ∀ l args m v m', yl l args m = .ok v m' → ∀ μ w us x n, Rel P μ m w → Free μ m.next m'.next → trs μ args = some us → μ l = some x →
    ∃ fn tmps assign body w1, (Instr.yield x.r us.toArray).run P w = .ok (.round x.r fn tmps assign body) w1 ∧ RoundIn Fence.wide n P x.r fn tmps assign body w1 (RetP P μ m w v m')
  pan : ∀ l args m v m', yl l args m ≠ .pan v m'

/-- A step of the machine's that comes to a value, whatever it takes. -/
def Upon (μ : Mp) (m : Mem) (w : World) (v : MV) (m' : Mem) (s : Sem Next) : Prop :=
  ∀ (r : Option Nat) (n : Nat) (o : Oper) (a : Act) (next : Act → World → Prop) (Q : Exit → Act → World → Prop),
    (∀ u μ' w', tr μ' v = some u → Rel P μ' m' w' → Ext μ m w μ' m' w' → next (a.put o.dst u) w') → o.uponIn (Fc r) n P a next Q (s.run P w)
def UponP (μ : Mp) (m : Mem) (w : World) (v : MV) (m' : Mem) (s : Sem Next) : Prop :=
  ∀ (r : Option Nat) (n : Nat) (o : Oper) (a : Act) (next : Act → World → Prop) (Q : Exit → Act → World → Prop),
    (∀ u μ' w', tr μ' v = some u → Rel P μ' m' w' → Ext μ m w μ' m' w' → Q (.panic [{ v := u, recovered := false }]) a w') → o.uponIn (Fc r) n P a next Q (s.run P w)
/-- Hooks hold. -/
def HookS (X : Hook) : Prop := ∀ f args m v m', X f args m = some (v, m') → ∀ μ w us, Rel P μ m w → Free μ m.next m'.next → trs μ args = some us → Upon P μ m w v m' (callFunc f us.toArray)
end

section
variable {P : Program} {μ : Mp} {m m' : Mem} {w : World} {e : Env} {ρ : Operand → Value} {X : Hook} {call : Caller} {yl : Yielder}

theorem Runs.upon {v : MV} {s : Sem Next} (h : Runs P μ m w v m' s) : Upon P μ m w v m' s := by
  intro r n o a next Q hk
  obtain ⟨u, w', μ', h1, h2, h3, h4⟩ := h
  rcases h1 with h1 | ⟨h1, rfl⟩
  · rw [h1]; exact hk u μ' w' h2 h3 h4
  · rw [h1]; exact hk _ μ' w' h2 h3 h4

theorem Upon.of_run {v : MV} {s s' : Sem Next} (hr : s.run P w = s'.run P w) (h : Upon P μ m w v m' s') : Upon P μ m w v m' s := by
  intro r n o a next Q hk
  rw [hr]
  exact h r n o a next Q hk
theorem UponP.of_run {v : MV} {s s' : Sem Next} (hr : s.run P w = s'.run P w) (h : UponP P μ m w v m' s') : UponP P μ m w v m' s := by
  intro r n o a next Q hk
  rw [hr]
  exact h r n o a next Q hk

theorem upon_call {v : MV} {s : Sem Next} {g : FuncId} {us : List Value} (hs : s.run P w = .ok (.enter g us.toArray) w) (hc : ∀ n, CallsIn Fence.wide n P g us.toArray w (RetP P μ m w v m')) : Upon P μ m w v m' s := by
  intro r n o a next Q hk
  rw [hs, Oper.uponIn_enter]
  refine ⟨Fc_room r n, Fc_calls ((hc (n - 1)).mono ?_)⟩
  rintro e w' ⟨u, μ', rfl, h2, h3, h4⟩
  exact hk u μ' w' h2 h3 h4
theorem uponP_call {v : MV} {s : Sem Next} {g : FuncId} {us : List Value} (hs : s.run P w = .ok (.enter g us.toArray) w) (hc : ∀ n, CallsIn Fence.wide n P g us.toArray w (PanP P μ m w v m')) : UponP P μ m w v m' s := by
  intro r n o a next Q hk
  rw [hs, Oper.uponIn_enter]
  refine ⟨Fc_room r n, Fc_calls ((hc (n - 1)).mono ?_)⟩
  rintro e w' ⟨u, μ', rfl, h2, h3, h4⟩
  exact hk u μ' w' h2 h3 h4

theorem callFunc_enter {g : FuncId} {fn : Func} {c : Code} {us : Array Value} (hf : P.funcs[g]? = some fn) (hn : (fn.name == "runtime.NumGoroutine") = false) (hb : fn.body = some c) : (callFunc g us).run P w = .ok (.enter g us) w := by
  simp only [callFunc, Sem.run_bind, run_program, Result.andThen_ok, hf]
  rw [hn, hb]
  simp

theorem callN_sound (hX : HookS P X) (hC : CallS P call) (h : Rel P μ m w) (hf : Free μ m.next m'.next) {g : FuncId} {args : List MV} {us : List Value} {v : MV} (hu : trs μ args = some us) (hv : callN P X call g args m = .val v m') :
    Upon P μ m w v m' (callFunc g us.toArray) := by
  unfold callN at hv
  cases hx : X g args m with
  | some q =>
    obtain ⟨v1, m1⟩ := q
    rw [hx] at hv
    cases hv
    exact hX g args m v m' hx μ w us h hf hu
  | none =>
    rw [hx] at hv
    simp only [] at hv
    cases hfn : P.funcs[g]? with
    | none => rw [hfn] at hv; cases hv
    | some fn =>
      simp only [hfn] at hv
      cases hn : (fn.name == "runtime.NumGoroutine") with
      | true => rw [hn] at hv; cases hv
      | false =>
        simp only [hn] at hv
        cases hb : fn.body with
        | none => rw [hb] at hv; cases hv
        | some c =>
          rw [hb] at hv
          simp only [] at hv
          cases hc : call g args m with
          | ok v1 m1 =>
            rw [hc] at hv
            cases hv
            exact upon_call (callFunc_enter hfn hn hb) (fun n => hC.ok g args m v m' hc μ w us n h hf hu)
          | pan v1 m1 => rw [hc] at hv; cases hv
          | fail => rw [hc] at hv; cases hv

theorem callN_pan (hC : CallS P call) (h : Rel P μ m w) (hf : Free μ m.next m'.next) {g : FuncId} {args : List MV} {us : List Value} {v : MV} (hu : trs μ args = some us) (hv : callN P X call g args m = .pan v m') :
    UponP P μ m w v m' (callFunc g us.toArray) := by
  unfold callN at hv
  cases hx : X g args m with
  | some q =>
    obtain ⟨v1, m1⟩ := q
    rw [hx] at hv
    cases hv
  | none =>
    rw [hx] at hv
    simp only [] at hv
    cases hfn : P.funcs[g]? with
    | none => rw [hfn] at hv; cases hv
    | some fn =>
      simp only [hfn] at hv
      cases hn : (fn.name == "runtime.NumGoroutine") with
      | true => rw [hn] at hv; cases hv
      | false =>
        simp only [hn] at hv
        cases hb : fn.body with
        | none => rw [hb] at hv; cases hv
        | some c =>
          rw [hb] at hv
          simp only [] at hv
          cases hc : call g args m with
          | pan v1 m1 =>
            rw [hc] at hv
            cases hv
            exact uponP_call (callFunc_enter hfn hn hb) (fun n => hC.pan g args m v m' hc μ w us n h hf hu)
          | ok v1 m1 => rw [hc] at hv; cases hv
          | fail => rw [hc] at hv; cases hv

theorem chk_run (tys : Array TypeId) (ty : TypeId) (a : Addr) (x y : ByteArray) : (Builtin.ssaWrapNilChk_ tys ty #[.pointer (some a), .string x, .string y]).run P w = .ok (.pointer (some a)) w := rfl
theorem methodM_sound (h : Rel P μ m w) {t : TypeId} {x r : MV} {x' : Value} {name : String} {g : FuncId} (hx : tr μ x = some x') (hv : methodM P m t x name = some (g, r)) :
    ∃ r', tr μ r = some r' ∧ ∀ k, (method (k + 1) t x' name).run P w = .ok (g, r') w := by
  unfold methodM at hv
  cases hi : P.info? t with
  | none => rw [hi] at hv; cases hv
  | some i =>
    rw [hi] at hv
    simp only [] at hv
    cases hm : i.methods.find? (·.name == name) with
    | none => rw [hm] at hv; cases hv
    | some me =>
      rw [hm] at hv
      simp only [] at hv
      cases hp : me.path.toList with
      | cons a l => rw [hp] at hv; cases me.func <;> cases hv
      | nil =>
        cases hfu : me.func with
        | none => rw [hp, hfu] at hv; cases hv
        | some q =>
          obtain ⟨f, p⟩ := q
          simp only [hp, hfu] at hv
          have hpe : me.path = #[] := Array.toList_eq_nil_iff.1 hp
          cases ht : P.underlying t with
          | none => rw [ht] at hv; cases hv
          | some td =>
            have h1 := run_underlying ht w
            have same : (∀ el, td = .pointer el → p = true) → p = false ∨ (∃ el, td = .pointer el) → g = f → r = x → ∃ r', tr μ r = some r' ∧ ∀ k, (method (k + 1) t x' name).run P w = .ok (g, r') w := by
              rintro hpt hor rfl rfl
              refine ⟨x', hx, fun k => ?_⟩
              cases td with
              | pointer el =>
                obtain rfl := hpt el rfl
                simp [method, info_run hi, hm, hpe, hfu, follow, receiverAt, h1, Place.get]
              | _ =>
                rcases hor with rfl | ⟨el, q⟩
                · simp [method, info_run hi, hm, hpe, hfu, follow, receiverAt, h1, Place.get]
                · cases q
            rw [ht] at hv
            cases td with
            | pointer el =>
              cases p with
              | true =>
                cases hv
                exact same (fun _ _ => rfl) (.inr ⟨el, rfl⟩) rfl rfl
              | false =>
                simp only [] at hv
                cases x with
                | ptr b off =>
                  simp only [] at hv
                  cases hl : loadV P m el b off with
                  | none => rw [hl] at hv; cases hv
                  | some y =>
                    rw [hl] at hv
                    cases hv
                    obtain ⟨pl, hb, rfl⟩ := tr_ptr_inv hx
                    obtain ⟨u, k1, k2⟩ := h.loadVar hb hl
                    refine ⟨u, k2, fun k => ?_⟩
                    simp [method, info_run hi, hm, hpe, hfu, follow, receiverAt, h1, Place.get, chk_run, strVal, asAddr, k1]
                | _ => cases hv
            | _ =>
              cases p with
              | true => cases hv
              | false =>
                cases hv
                exact same (fun _ q => by cases q) (.inl rfl) rfl rfl

theorem callMethod_run (h : Rel P μ m w) {t : TypeId} {x r : MV} {x' : Value} {name : String} {g : FuncId} (hx : tr μ x = some x') (hv : methodM P m t x name = some (g, r)) (us : Array Value) :
    ∃ r', tr μ r = some r' ∧ (callMethod (.iface t x') name us).run P w = (callFunc g (#[r'] ++ us)).run P w := by
  obtain ⟨r', k1, k2⟩ := methodM_sound h hx hv
  refine ⟨r', k1, ?_⟩
  have hfuel : P.types.size + Made.depth = (P.types.size + 99) + 1 := rfl
  simp only [callMethod, Sem.run_bind, run_program, Result.andThen_ok, hfuel, k2]

/-- A function value called. -/
theorem callV_run (h : Rel P μ m w) {name : String} {t : TypeId} {x : MV} {x' : Value} (hx : tr μ x = some x') (us : Array Value) (cap : Array Value) :
    (invoke (.fn (.method name) cap) (#[.iface t x'] ++ us)).run P w = (callMethod (.iface t x') name us).run P w := by
  have : (#[Value.iface t x'] ++ us).extract 1 (#[Value.iface t x'] ++ us).size = us := by
    apply Array.ext'
    simp
  have h0 : (#[Value.iface t x'] ++ us)[0]? = some (Value.iface t x') := by rw [Array.getElem?_append_left (by simp)]; rfl
  unfold invoke
  rw [h0]
  simp only [this]

theorem callV_sound (hX : HookS P X) (hC : CallS P call) (hY : YieldS P yl) (h : Rel P μ m w) (hf : Free μ m.next m'.next) {fv : MV} {fu : Value} {args : List MV} {us : List Value} {v : MV} (hfu : tr μ fv = some fu) (hu : trs μ args = some us)
    (hv : callV P X call yl fv args m = .val v m') : Upon P μ m w v m' (do let d ← Deferred.ofValue fu us.toArray; invoke d.target d.args) := by
  unfold callV at hv
  split at hv
  · rename_i g first caps
    obtain ⟨f', a', c', k1, k2, k3, rfl⟩ := tr_func_inv hfu
    cases k1
    refine Upon.of_run (s' := callFunc g (a' ++ us ++ c').toArray) ?_ (callN_sound hX hC h hf (trs_append (trs_append k2 hu) k3) hv)
    have : (a'.toArray ++ us.toArray) ++ c'.toArray = (a' ++ us ++ c').toArray := by simp
    simp only [Deferred.ofValue, Sem.run_bind, Sem.run_pure, Result.andThen_ok, invoke, this]
  · rename_i l caps
    obtain ⟨f', a', c', k1, k2, k3, rfl⟩ := tr_func_inv hfu
    simp only [trFn] at k1
    cases hl : μ l with
    | none => rw [hl] at k1; cases k1
    | some x =>
      rw [hl] at k1
      cases k1
      have := trs_nil k2
      subst this
      cases hc : yl l args m with
      | ok v1 m1 =>
        rw [hc] at hv
        cases hv
        intro r n o a next Q hk
        obtain ⟨fn, tmps, assign, body, w1, q1, q2⟩ := hY.ok l args m v m' hc μ w us x (n - 1) h hf hu hl
        have hrun : Sem.run P (do let d ← Deferred.ofValue (.func (.yield x.r) ([] : List Value).toArray c'.toArray) us.toArray; invoke d.target d.args) w = .ok (.round x.r fn tmps assign body) w1 := by
          simp only [Deferred.ofValue, Sem.run_bind, Sem.run_pure, Result.andThen_ok, invoke]
          simpa using q1
        rw [hrun, Oper.uponIn_round]
        refine ⟨Fc_room r n, Fc_rounds (q2.mono ?_)⟩
        rintro e w' ⟨u, μ', rfl, h2, h3, h4⟩
        exact hk u μ' w' h2 h3 h4
      | pan v1 m1 => rw [hc] at hv; cases hv
      | fail => rw [hc] at hv; cases hv
  · rename_i name t x caps
    cases hm : methodM P m t x name with
    | none => rw [hm] at hv; cases hv
    | some q =>
      obtain ⟨g, r⟩ := q
      rw [hm] at hv
      obtain ⟨f', a', c', k1, k2, k3, rfl⟩ := tr_func_inv hfu
      cases k1
      obtain ⟨i', us', rfl, k4, k5⟩ := trs_cons k2
      have := trs_nil k5
      subst this
      obtain ⟨x', hx, rfl⟩ := tr_iface_inv k4
      obtain ⟨r', q1, q2⟩ := callMethod_run h hx hm us.toArray
      refine Upon.of_run (s' := callFunc g (r' :: us).toArray) ?_ (callN_sound hX hC h hf (trs_mk q1 hu) hv)
      have e1 : (#[r'] ++ us.toArray) = (r' :: us).toArray := by simp
      simp only [Deferred.ofValue, Sem.run_bind, Sem.run_pure, Result.andThen_ok]
      rw [show ([Value.iface t x'] : List Value).toArray = #[Value.iface t x'] from rfl, callV_run h hx, q2, e1]
  · cases hv

theorem callV_pan (hC : CallS P call) (hY : YieldS P yl) (h : Rel P μ m w) (hf : Free μ m.next m'.next) {fv : MV} {fu : Value} {args : List MV} {us : List Value} {v : MV} (hfu : tr μ fv = some fu) (hu : trs μ args = some us)
    (hv : callV P X call yl fv args m = .pan v m') : UponP P μ m w v m' (do let d ← Deferred.ofValue fu us.toArray; invoke d.target d.args) := by
  unfold callV at hv
  split at hv
  · rename_i g first caps
    obtain ⟨f', a', c', k1, k2, k3, rfl⟩ := tr_func_inv hfu
    cases k1
    refine UponP.of_run (s' := callFunc g (a' ++ us ++ c').toArray) ?_ (callN_pan hC h hf (trs_append (trs_append k2 hu) k3) hv)
    have : (a'.toArray ++ us.toArray) ++ c'.toArray = (a' ++ us ++ c').toArray := by simp
    simp only [Deferred.ofValue, Sem.run_bind, Sem.run_pure, Result.andThen_ok, invoke, this]
  · rename_i l caps
    cases hc : yl l args m with
    | ok v1 m1 => rw [hc] at hv; cases hv
    | pan v1 m1 => exact absurd hc (hY.pan l args m v1 m1)
    | fail => rw [hc] at hv; cases hv
  · rename_i name t x caps
    cases hm : methodM P m t x name with
    | none => rw [hm] at hv; cases hv
    | some q =>
      obtain ⟨g, r⟩ := q
      rw [hm] at hv
      obtain ⟨f', a', c', k1, k2, k3, rfl⟩ := tr_func_inv hfu
      cases k1
      obtain ⟨i', us', rfl, k4, k5⟩ := trs_cons k2
      have := trs_nil k5
      subst this
      obtain ⟨x', hx, rfl⟩ := tr_iface_inv k4
      obtain ⟨r', q1, q2⟩ := callMethod_run h hx hm us.toArray
      refine UponP.of_run (s' := callFunc g (r' :: us).toArray) ?_ (callN_pan hC h hf (trs_mk q1 hu) hv)
      have e1 : (#[r'] ++ us.toArray) = (r' :: us).toArray := by simp
      simp only [Deferred.ofValue, Sem.run_bind, Sem.run_pure, Result.andThen_ok]
      rw [show ([Value.iface t x'] : List Value).toArray = #[Value.iface t x'] from rfl, callV_run h hx, q2, e1]
  · cases hv
end
end
end Go.Mir

/-! THE MIRROR, LAWS 17: every operation. -/
namespace Go.Mir
noncomputable section
section
variable {P : Program} {μ : Mp} {m m' : Mem} {w : World} {e : Env} {ρ : Operand → Value} {X : Hook} {call : Caller} {yl : Yielder}

theorem minmax_sound (h : Rel P μ m w) {mx : Bool} {x v : MV} {r : List MV} {us : List Value} (hu : trs μ (x :: r) = some us) (hv : minM mx x r = some v) {ts : Array TypeId} {ty : TypeId} :
    Yd P μ m w v m (if mx then Builtin.max_ ts ty us.toArray else Builtin.min_ ts ty us.toArray) := by
  obtain ⟨x', r', rfl, h1, h2⟩ := trs_cons hu
  obtain ⟨u, k1, k2⟩ := minM_sound h mx x r v x' r' hv h1 h2
  cases mx with
  | true => exact Yd.mk0 h (u := u) (by simpa [Builtin.max_] using k1) k2
  | false => exact Yd.mk0 h (u := u) (by simpa [Builtin.min_] using k1) k2

theorem loadBytes_run : ∀ {vs : List MV} {l : List UInt8} {us : List Value} {r o : Nat} {acc : ByteArray}, bytesOf vs = some l → trs μ vs = some us → (∀ (j : Nat) u, us[j]? = some u → w.cell? ⟨r, o + j, none⟩ = some u) →
    (loadBytes ⟨r, o, none⟩ acc l.length).run P w = .ok ⟨acc.data ++ l.toArray⟩ w
  | [], l, us, r, o, acc, h, _, _ => by
    cases h
    simp [loadBytes]
  | v :: vs, l, us, r, o, acc, h, hu, hc => by
    obtain ⟨u, us', rfl, k1, k2⟩ := trs_cons hu
    cases v with
    | int k n =>
      cases k with
      | u8 =>
        simp only [bytesOf] at h
        cases hb : bytesOf vs with
        | none => rw [hb] at h; cases h
        | some l' =>
          rw [hb] at h
          cases h
          cases k1
          have h0 : w.cell? ⟨r, o, none⟩ = some (.int .u8 n) := hc 0 _ rfl
          have ih := loadBytes_run (r := r) (o := o + 1) (acc := acc.push (n.toNat.toUInt8)) hb k2 (fun j u e => by
            have := hc (j + 1) u (by simpa using e)
            rwa [show o + 1 + j = o + (j + 1) by omega])
          simp only [List.length_cons, loadBytes, Sem.run_bind, run_load, h0, Result.andThen_ok, addr_add, ih]
          congr 1
          apply ByteArray.ext
          simp [ByteArray.push]
      | _ => cases h
    | _ => cases h
theorem bytesOf_length : ∀ {vs : List MV} {l : List UInt8}, bytesOf vs = some l → l.length = vs.length
  | [], l, h => by cases h; rfl
  | v :: vs, l, h => by
    cases v with
    | int k n =>
      cases k with
      | u8 =>
        simp only [bytesOf] at h
        cases hb : bytesOf vs with
        | none => rw [hb] at h; cases h
        | some l' => rw [hb] at h; cases h; simp [bytesOf_length hb]
      | _ => cases h
    | _ => cases h
theorem liesAt_row {u : TypeId} {n c : Nat} (hs : P.cellsOf u = 1) (hc : n ≤ c) : liesAt P P.depth u (c / P.cellsOf u) 0 u n = true := by
  have hd : P.depth = (2 * (P.types.size + Made.depth) + 1) + 1 := rfl
  rw [hd]
  simp only [liesAt, Bool.or_eq_true]
  left
  rw [hd]
  simp [rowAt, hs, hc, sameLayout]
theorem freeze_heap {r o n : Nat} {c : Array Value} {e : TypeId} {lh : Nat × Nat} (h : w.heap[r]? = some (.cells c e lh)) :
    (∃ ob, (w.freeze ⟨r, o, none⟩ n).heap[r]? = some ob) ∧ (∀ k, k ≠ r → (w.freeze ⟨r, o, none⟩ n).heap[k]? = w.heap[k]?) ∧ (w.freeze ⟨r, o, none⟩ n).heap.size = w.heap.size ∧ Calm w (w.freeze ⟨r, o, none⟩ n) := by
  unfold World.freeze
  by_cases hn : n = 0
  · rw [if_pos hn]
    exact ⟨⟨_, h⟩, fun _ _ => rfl, rfl, Calm.refl w⟩
  · rw [if_neg hn]
    refine ⟨⟨_, by simp only [Array.getElem?_modify, if_true, h]; rfl⟩, fun k hk => ?_, by simp, ⟨rfl, rfl, rfl⟩⟩
    simp only [Array.getElem?_modify]
    rw [if_neg (fun e => hk e.symm)]

theorem sliceData_sound (h : Rel P μ m w) {x v : MV} {x' : Value} {ts : Array TypeId} {ty : TypeId} (hx : tr μ x = some x') (hv : sliceDataM x m = .val v m') : Yd P μ m w v m' (Builtin.unsafeSliceData_ ts ty #[x']) := by
  unfold sliceDataM at hv
  cases x with
  | nils =>
    cases hv
    cases hx
    exact Yd.mk0 h (u := .pointer none) rfl rfl
  | sl b off len cap sz ex =>
    cases cap with
    | zero => cases hv
    | succ k =>
      cases hv
      obtain ⟨pl, cp, hpl, rfl, hcp, _⟩ := tr_sl_inv hx
      have hc : cp ≠ 0 := by
        rcases hcp with ⟨_, rfl⟩ | ⟨_, _, _, _, rfl⟩
        · exact Nat.succ_ne_zero k
        · generalize pl.ex / sz = q; omega
      have ht : tr μ (.ptr b off) = some (.pointer (some ⟨pl.r, pl.sh + off, none⟩)) := by simp [tr, hpl]
      refine Yd.mk0 h (u := .pointer (some ⟨pl.r, pl.sh + off, none⟩)) ?_ ht
      obtain ⟨q, rfl⟩ : ∃ q, cp = q + 1 := ⟨cp - 1, by omega⟩
      rfl
  | _ => cases hv

theorem uns_none {ts : Array TypeId} {ty t : TypeId} (e0 : ts[0]? = some t) : (Builtin.unsafeString_ ts ty #[.pointer none, .int .i64 0]).run P w = .ok (.string .empty) w := by
  have hmax : IntKind.i64.max = 9223372036854775807 := rfl
  have hdef : Builtin.unsafeString_ ts ty #[.pointer none, .int .i64 0] =
      (do
        let n ← asInt (.int .i64 0)
        let some _ := ts[0]? | stuck "unsafe.String: no argument types"
        if n < 0 then runtimePanic (.error "unsafe.String: len out of range")
        if n > IntKind.i64.max then unsupported (.unsafePointer "String: a length above the largest int")
        if n = 0 then pure (.string .empty)
        else runtimePanic (.error "unsafe.String: ptr is nil and len is not zero")) := rfl
  rw [hdef]
  simp [asInt, asIntOf, hmax, e0]
theorem uns_some {ts : Array TypeId} {ty : TypeId} (a : Addr) (k : Int) : Builtin.unsafeString_ ts ty #[.pointer (some a), .int .i64 k] =
      (do
        let n ← asInt (.int .i64 k)
        let some pt := ts[0]? | stuck "unsafe.String: no argument types"
        if n < 0 then runtimePanic (.error "unsafe.String: len out of range")
        if n > IntKind.i64.max then unsupported (.unsafePointer "String: a length above the largest int")
        if n = 0 then pure (.string .empty)
        else if ← variablesAt a (← elemOf pt) n.toNat then do
          let s ← loadBytes a .empty n.toNat
          freeze a n.toNat
          pure (.string s)
        else unsupported (.unsafePointer "String: not so many bytes at ptr")) := rfl

theorem strAt_sound (h : Rel P μ m w) {t : TypeId} {x y v : MV} {x' y' : Value} {ts : Array TypeId} {ty : TypeId} (e0 : ts[0]? = some t) (hx : tr μ x = some x') (hy : tr μ y = some y') (hv : strAtM P t x y m = .val v m') :
    Yd P μ m w v m' (Builtin.unsafeString_ ts ty #[x', y']) := by
  have hmax : IntKind.i64.max = 9223372036854775807 := rfl
  unfold strAtM at hv
  split at hv
  · cases hv
    cases hx; cases hy
    exact Yd.mk0 h (u := .string .empty) (uns_none e0) rfl
  · rename_i b off
    cases hv
    cases hy
    obtain ⟨pl, hp, rfl⟩ := tr_ptr_inv hx
    exact Yd.mk0 h (u := .string .empty) (by rw [show (Int.ofNat 0) = 0 from rfl, uns_some]; simp [e0, asInt, asIntOf, hmax]) rfl
  · rename_i b k
    cases hy
    obtain ⟨pl, hp, rfl⟩ := tr_ptr_inv hx
    split at hv
    · rename_i u hu
      split at hv
      · rename_i hu8 hz
        unfold strRow at hv
        split at hv
        · rename_i tt n e fz hg
          cases hc : (Nat.ble (k + 1) 9223372036854775807 && Nat.beq e u) with
          | false => rw [hc] at hv; cases hv
          | true =>
            rw [hc] at hv
            obtain ⟨c1, c2⟩ := Bool.and_eq_true_iff.1 hc
            have c1' := Nat.le_of_ble_eq_true c1
            obtain rfl := Nat.eq_of_beq_eq_true c2
            simp only [] at hv
            cases hr : readT tt n 0 (k + 1) with
            | none => rw [hr] at hv; cases hv
            | some vs =>
              rw [hr] at hv
              simp only [] at hv
              cases hb : bytesOf vs with
              | none => rw [hb] at hv; cases hv
              | some l =>
                rw [hb] at hv
                simp only [Mem.putK_eq] at hv
                cases hv
                have h0 := h.sh0 b pl hp
                have hrd : m.read b 0 (k + 1) = some vs := by unfold Mem.read; simp only [hg]; exact hr
                obtain ⟨us, r1, r2, r3, r4⟩ := h.read hp hrd
                have hlen : l.length = k + 1 := by rw [bytesOf_length hb, ← trs_length r1, r2]
                obtain ⟨ob, g1, g2, c, lh, rfl, g4, _, _⟩ := h.blk b pl _ hp hg
                have hkn : 0 + (k + 1) ≤ n := by
                  obtain ⟨_, q, _⟩ := readT_spec tt n (k + 1) 0 vs hr
                  exact q (Nat.succ_pos k)
                have hsh : w.shape? pl.r = some (e, c.size) := by simp [World.shape?, g1]
                have hl := liesAt_row (P := P) (c := c.size) (n := k + 1) (cellsOf_size hz) (by omega)
                have hload : (loadBytes ⟨pl.r, 0, none⟩ .empty (k + 1)).run P w = .ok ⟨l.toArray⟩ w := by
                  rw [← hlen]
                  have := loadBytes_run (P := P) (r := pl.r) (o := 0) (acc := .empty) hb r1 (fun j u hj => by
                    have := r4 j u hj
                    rw [h0] at this
                    simpa using this)
                  rw [this]
                  congr 1
                  apply ByteArray.ext
                  simp
                obtain ⟨⟨ob, f1⟩, f2, f3, f4⟩ := freeze_heap (o := 0) (n := k + 1) g1
                refine ⟨.string ⟨l.toArray⟩, w.freeze ⟨pl.r, 0, none⟩ (k + 1), μ, ?_, rfl, h.put hp hg (by intro e; cases e) f3 f2 f1 trivial, Ext.put h hp hg rfl rfl f4 f3 f2⟩
                have e1 : (Int.ofNat (k + 1)) = ((k : Int) + 1) := rfl
                have e2 : ¬ ((k : Int) + 1 < 0) := by omega
                have e3 : ¬ (9223372036854775807 < (k : Int) + 1) := by omega
                have e4 : ¬ ((k : Int) + 1 = 0) := by omega
                have e5 : ((k : Int) + 1).toNat = k + 1 := by omega
                rw [h0, e1, uns_some]
                simp [e0, asInt, asIntOf, hmax, e2, e3, e4, e5, variablesAt, hsh, elemOf, run_underlying hu, hl, hload]
        · cases hv
      · cases hv
    · cases hv
  · cases hv

/-- What is copied: so many of the source's. -/
theorem src_first (h : Rel P μ m w) {s n k : Nat} {x : MV} {new : List MV} {u : Value} (hu : tr μ x = some u) (hr : srcCells m s x = some (n, new)) (hk : k ≤ n) :
    ∃ us, trs μ (new.take (k * s)) = some us ∧ (Builtin.lenOf u).run P w = .ok n w ∧ (Builtin.firstCells s k u).run P w = .ok us.toArray w := by
  obtain ⟨us, e1, e2, e3, e4⟩ := src_sound h hu hr
  refine ⟨us.take (k * s), trs_take _ e1, e3 w, ?_⟩
  have hks : k * s ≤ n * s := Nat.mul_le_mul_right s hk
  unfold srcCells at hr
  cases x with
  | nils =>
    cases hr; cases hu; cases e1
    simp [Builtin.firstCells]
  | es b base adv sz =>
    cases hr
    obtain ⟨pl, hb, _, _, _, rfl⟩ := tr_es_inv hu
    obtain rfl : k = 0 := by omega
    simp [Builtin.firstCells, loadCells, loadCellsFrom]
  | str l =>
    simp only [] at hr
    cases hs : Nat.beq s 1 with
    | false => rw [hs] at hr; cases hr
    | true =>
      rw [hs] at hr
      obtain rfl := Nat.eq_of_beq_eq_true hs
      cases hr
      cases hu
      rw [trs_bytes] at e1
      cases e1
      simp only [Builtin.firstCells, extract_mk, Sem.run_pure]
      congr 1
      simp
  | sl b off len cap sz ex =>
    simp only [] at hr
    cases hm : m.read b off (len * s) with
    | none => rw [hm] at hr; cases hr
    | some vs =>
      rw [hm] at hr
      cases hr
      obtain ⟨pl, cp, hpl, rfl, _, _⟩ := tr_sl_inv hu
      obtain ⟨us', k1, k2, _, k4⟩ := h.read hpl hm
      rw [e1] at k1
      cases k1
      show (loadCells _ (k * s)).run P w = _
      have hl : (us.take (k * s)).length = k * s := by rw [List.length_take]; omega
      have := run_loadCells_list (P := P) w ⟨pl.r, pl.sh + off, none⟩ (us.take (k * s)) fun j u hj => by
        rw [addr_add]
        rw [List.getElem?_take] at hj
        split at hj
        · exact k4 j u hj
        · cases hj
      rw [hl] at this
      exact this
  | _ => cases hr
theorem copyM_sound (h : Rel P μ m w) {t : TypeId} {x y v : MV} {x' y' : Value} {ts : Array TypeId} {ty : TypeId}
    (h0 : ts[0]? = some t) (hx : tr μ x = some x') (hy : tr μ y = some y') (hv : copyM P t x y m = .val v m') : Yd P μ m w v m' (Builtin.copy_ ts ty [x', y'].toArray) := by
  unfold copyM at hv
  cases ht : P.underlying t with
  | none => rw [ht] at hv; cases hv
  | some td =>
    rw [ht] at hv
    cases td with
    | slice el =>
      simp only [] at hv
      cases hs : sizeT P el with
      | none => rw [hs] at hv; cases hv
      | some s =>
        rw [hs] at hv
        simp only [] at hv
        cases hsrc : srcCells m s y with
        | none => rw [hsrc] at hv; cases hv
        | some q =>
          obtain ⟨n, new⟩ := q
          simp only [hsrc] at hv
          unfold copyS at hv
          have k0 : ([x', y'].toArray)[0]? = some x' := rfl
          have k1 : ([x', y'].toArray)[1]? = some y' := rfl
          cases x with
          | nils =>
            cases hv
            cases hx
            obtain ⟨us, e1, e2, e3⟩ := src_first h hy hsrc (Nat.zero_le n)
            refine Yd.mk0 h (u := .int .i64 0) ?_ rfl
            have hm : Nat.min n 0 = 0 := Nat.min_zero n
            simp [Builtin.copy_, h0, run_underlying ht, size_run hs, e2, hm, e3, goInt]
          | es b base adv sz =>
            cases hv
            obtain ⟨pl, hpl, _, _, _, rfl⟩ := tr_es_inv hx
            obtain ⟨us, e1, e2, e3⟩ := src_first h hy hsrc (Nat.zero_le n)
            rw [Nat.zero_mul, List.take_zero] at e1
            cases e1
            refine Yd.mk0 h (u := .int .i64 0) ?_ rfl
            have hm : Nat.min n 0 = 0 := Nat.min_zero n
            simp [Builtin.copy_, h0, run_underlying ht, size_run hs, e2, hm, e3, goInt, storeCells]
          | sl b off len cap sz ex =>
            simp only [] at hv
            cases hz : Nat.beq sz s with
            | false => rw [hz] at hv; cases hv
            | true =>
              rw [hz] at hv
              simp only [forceN_eq, Mem.writeK_eq] at hv
              cases hw : m.write b off (new.take (Nat.min n len * s)) with
              | none => rw [hw] at hv; cases hv
              | some m1 =>
                rw [hw] at hv
                cases hv
                obtain ⟨pl, cp, hpl, rfl, _, _⟩ := tr_sl_inv hx
                obtain ⟨us, e1, e2, e3⟩ := src_first h hy hsrc (Nat.min_le_left n len)
                obtain ⟨w', g1, g2, g3⟩ := h.write hpl hw e1
                refine ⟨.int .i64 (Nat.min n len : Nat), w', μ, ?_, rfl, g2, g3⟩
                simp [Builtin.copy_, h0, run_underlying ht, size_run hs, e2, e3, goInt, g1]
          | _ => cases hv
    | _ => cases hv

theorem builtin_sound (h : Rel P μ m w) (hf : Free μ m.next m'.next) {b : Builtin} {ts : Array TypeId} {ty : TypeId} {cs : Array Bool} {args : List MV} {us : List Value} {v : MV} (hu : trs μ args = some us)
    (hv : opBuiltin P b ts.toList args m = .val v m') : Runs P μ m w v m' (builtin b ts ty cs us.toArray) := by
  unfold opBuiltin at hv
  split at hv
  · rename_i x y t u rest heq
    obtain ⟨x', us', rfl, h1, h2⟩ := trs_cons hu
    obtain ⟨y', us'', rfl, h3, h4⟩ := trs_cons h2
    have := trs_nil h4
    subst this
    have e0 : ts[0]? = some t := by rw [← Array.getElem?_toList, heq]; rfl
    have e1 : ts[1]? = some u := by rw [← Array.getElem?_toList, heq]; rfl
    have := (appendM_sound (ty := ty) h hf e0 e1 (args := [x', y'].toArray) rfl rfl h1 h3 hv).runs
    simpa only [builtin] using this
  · rename_i x t rest heq
    obtain ⟨x', us', rfl, h1, h2⟩ := trs_cons hu
    have := trs_nil h2
    subst this
    have e0 : ts[0]? = some t := by rw [← Array.getElem?_toList, heq]; rfl
    have := (lenM_sound (ty := ty) h e0 (args := [x'].toArray) rfl h1 hv).runs
    simpa only [builtin] using this
  · rename_i x
    obtain ⟨x', us', rfl, h1, h2⟩ := trs_cons hu
    have := trs_nil h2
    subst this
    have := (sliceData_sound (ts := ts) (ty := ty) h h1 hv).runs
    simpa only [builtin] using this
  · rename_i x y t u rest heq
    obtain ⟨x', us', rfl, h1, h2⟩ := trs_cons hu
    obtain ⟨y', us'', rfl, h3, h4⟩ := trs_cons h2
    have := trs_nil h4
    subst this
    have e0 : ts[0]? = some t := by rw [← Array.getElem?_toList, heq]; rfl
    have := (strAt_sound (ty := ty) h e0 h1 h3 hv).runs
    simpa only [builtin] using this
  · rename_i x r
    cases hm : minM false x r with
    | none => rw [hm] at hv; cases hv
    | some z =>
      rw [hm] at hv
      cases hv
      have := (minmax_sound (ts := ts) (ty := ty) h hu hm).runs
      simpa only [builtin, Bool.false_eq_true, if_false] using this
  · rename_i x r
    cases hm : minM true x r with
    | none => rw [hm] at hv; cases hv
    | some z =>
      rw [hm] at hv
      cases hv
      have := (minmax_sound (ts := ts) (ty := ty) h hu hm).runs
      simpa only [builtin, if_true] using this
  · rename_i x y t rest heq
    obtain ⟨x', us', rfl, h1, h2⟩ := trs_cons hu
    obtain ⟨y', us'', rfl, h3, h4⟩ := trs_cons h2
    have := trs_nil h4
    subst this
    have e0 : ts[0]? = some t := by rw [← Array.getElem?_toList, heq]; rfl
    have := (copyM_sound (ty := ty) h e0 h1 h3 hv).runs
    simpa only [builtin] using this
  · cases hv

theorem plain_val {x : OR} {v : MV} (h : x.plain = .val v m') : x = .val v m' := by
  cases x with
  | val => exact h
  | _ => cases h
theorem plain_pan (x : OR) {v : MV} : x.plain ≠ .pan v m' := by
  cases x <;> (intro h; cases h)
theorem plain_dfr (x : OR) {f : FuncId} {args : List MV} : x.plain ≠ .dfr f args m' := by
  cases x <;> (intro h; cases h)
theorem evOp_plain {o : Op} (hp : plainOp o = true) : evOp P X call yl e o m = (evPlain P e o m).plain := by
  cases o <;> first | rfl | cases hp

theorem resolve_value (ρ : Operand → Value) (c : Call) (ty : TypeId) {f : Operand} (hc : c.callee = .value f) : resolve ρ c ty = Deferred.ofValue (ρ f) (c.args.map ρ) := by
  simp only [resolve, hc]

theorem opCall_sound (hX : HookS P X) (hC : CallS P call) (hY : YieldS P yl) (h : Rel P μ m w) (hf : Free μ m.next m'.next) (ho : Opn P μ e ρ) {c : Call} {o : Oper} (hop : o.op = .call c) {v : MV} (hv : opCall P X call yl e c m = .val v m') :
    Upon P μ m w v m' (execOp ρ o) := by
  unfold opCall at hv
  cases ha : opsL P e c.args.toList with
  | none => rw [ha] at hv; cases hv
  | some args =>
    rw [ha] at hv
    simp only [] at hv
    have hus := opsL_sound ho ha
    have harr : (c.args.toList.map ρ).toArray = c.args.map ρ := by apply Array.ext'; simp
    cases hc : c.callee with
    | value f =>
      rw [hc] at hv
      simp only [] at hv
      cases hfv : ops? P e f with
      | none => rw [hfv] at hv; cases hv
      | some fv =>
        rw [hfv] at hv
        have := callV_sound hX hC hY h hf (ho f fv hfv) hus hv
        rw [harr] at this
        refine this.of_run ?_
        simp only [execOp, hop, resolve_value ρ c o.type hc]
    | invoke r name =>
      rw [hc] at hv
      simp only [] at hv
      cases hr : ops? P e r with
      | none => rw [hr] at hv; cases hv
      | some rv =>
        rw [hr] at hv
        have hfu : tr μ (.func (.method name) [rv] []) = some (.func (.method name) #[ρ r] #[]) := by
          simp only [tr, trFn, trs_mk (ho r rv hr) (show trs μ [] = some [] from rfl), show trs μ [] = some [] from rfl]
        have := callV_sound hX hC hY h hf hfu hus hv
        rw [harr] at this
        refine this.of_run ?_
        simp only [execOp, hop, resolve, hc, Deferred.ofValue, Sem.run_bind, Sem.run_pure, Result.andThen_ok]
    | builtin b =>
      rw [hc] at hv
      simp only [] at hv
      have hv := plain_val hv
      have := builtin_sound (ty := o.type) (cs := c.args.map fun | .const _ => true | _ => false) h hf hus hv
      rw [harr] at this
      refine this.upon.of_run ?_
      simp only [execOp, hop, resolve, hc, Sem.run_bind, Sem.run_pure, Result.andThen_ok, invoke]
      rfl

theorem noR {x : Option MV} {k : MV → OR} {v : MV} {m' : Mem} (h : (match x with | some v => k v | none => OR.fail) = .pan v m') : ∃ y, x = some y ∧ k y = .pan v m' := by
  cases x with
  | none => cases h
  | some y => exact ⟨y, rfl, h⟩

theorem opCall_pan (hC : CallS P call) (hY : YieldS P yl) (h : Rel P μ m w) (hf : Free μ m.next m'.next) (ho : Opn P μ e ρ) {c : Call} {o : Oper} (hop : o.op = .call c) {v : MV} (hv : opCall P X call yl e c m = .pan v m') : UponP P μ m w v m' (execOp ρ o) := by
  unfold opCall at hv
  cases ha : opsL P e c.args.toList with
  | none => rw [ha] at hv; cases hv
  | some args =>
    rw [ha] at hv
    simp only [] at hv
    have hus := opsL_sound ho ha
    have harr : (c.args.toList.map ρ).toArray = c.args.map ρ := by apply Array.ext'; simp
    cases hc : c.callee with
    | value f =>
      rw [hc] at hv
      simp only [] at hv
      cases hfv : ops? P e f with
      | none => rw [hfv] at hv; cases hv
      | some fv =>
        rw [hfv] at hv
        have := callV_pan hC hY h hf (ho f fv hfv) hus hv
        rw [harr] at this
        refine this.of_run ?_
        simp only [execOp, hop, resolve_value ρ c o.type hc]
    | invoke r name =>
      rw [hc] at hv
      simp only [] at hv
      cases hr : ops? P e r with
      | none => rw [hr] at hv; cases hv
      | some rv =>
        rw [hr] at hv
        have hfu : tr μ (.func (.method name) [rv] []) = some (.func (.method name) #[ρ r] #[]) := by
          simp only [tr, trFn, trs_mk (ho r rv hr) (show trs μ [] = some [] from rfl), show trs μ [] = some [] from rfl]
        have := callV_pan hC hY h hf hfu hus hv
        rw [harr] at this
        refine this.of_run ?_
        simp only [execOp, hop, resolve, hc, Deferred.ofValue, Sem.run_bind, Sem.run_pure, Result.andThen_ok]
    | builtin b =>
      rw [hc] at hv
      exact absurd hv (plain_pan _)

/-- AN OPERATION THAT COMES TO A VALUE. -/
theorem evOp_val (hX : HookS P X) (hC : CallS P call) (hY : YieldS P yl) (h : Rel P μ m w) (hf : Free μ m.next m'.next) (ho : Opn P μ e ρ) {o : Oper} {v : MV} (hv : evOp P X call yl e o.op m = .val v m') :
    Upon P μ m w v m' (execOp ρ o) := by
  by_cases hp : plainOp o.op = true
  · rw [evOp_plain hp] at hv
    exact (plain_sound h hf ho hp (plain_val hv)).upon
  · cases hop : o.op with
    | call c => rw [hop] at hv; exact opCall_sound hX hC hY h hf ho hop hv
    | defer c =>
      rw [hop] at hv
      simp only [evOp, opDefer] at hv
      repeat' split at hv
      all_goals cases hv
    | panic x =>
      rw [hop] at hv
      simp only [evOp, opPanic] at hv
      split at hv <;> cases hv
    | nilCheck x => rw [hop] at hv; exact (opNil_sound h ho hop (plain_val hv)).upon
    | store t a x =>
      rw [hop] at hv
      obtain ⟨w', k1, rfl, k3, k4⟩ := opStore_sound h ho (t := t) (a := a) (x := x) (plain_val hv)
      refine Runs.upon ⟨undef, w', μ, .inr ⟨?_, rfl⟩, rfl, k3, k4⟩
      simp only [execOp, hop, Sem.run_bind, k1, Result.andThen_ok, Sem.run_pure]
    | _ => rw [hop] at hp; exact absurd rfl hp

/-- AN OPERATION THAT PANICS. -/
theorem evOp_pan (hC : CallS P call) (hY : YieldS P yl) (h : Rel P μ m w) (hf : Free μ m.next m'.next) (ho : Opn P μ e ρ) {o : Oper} {v : MV} (hv : evOp P X call yl e o.op m = .pan v m') :
    UponP P μ m w v m' (execOp ρ o) := by
  by_cases hp : plainOp o.op = true
  · rw [evOp_plain hp] at hv
    exact absurd hv (plain_pan _)
  · cases hop : o.op with
    | call c => rw [hop] at hv; exact opCall_pan hC hY h hf ho hop hv
    | defer c =>
      rw [hop] at hv
      simp only [evOp, opDefer] at hv
      repeat' split at hv
      all_goals cases hv
    | panic x =>
      rw [hop] at hv
      simp only [evOp, opPanic] at hv
      cases hx : ops? P e x with
      | none => rw [hx] at hv; cases hv
      | some y =>
        rw [hx] at hv
        cases y with
        | iface t z =>
          cases hv
          have hr := ho x _ hx
          obtain ⟨z', h1, h2⟩ := tr_iface_inv hr
          intro r n o' a next Q hk
          have hrun : (execOp ρ o).run P w = .halt (.panic (.iface t z')) w := by
            simp only [execOp, hop, h2, Instr.panic, goPanic]
            rfl
          rw [hrun, Oper.uponIn_panic]
          exact hk _ μ w (h2 ▸ hr) h (Ext.refl _ _ _)
        | _ => cases hv
    | nilCheck x => rw [hop] at hv; exact absurd hv (plain_pan _)
    | store t a x => rw [hop] at hv; exact absurd hv (plain_pan _)
    | _ => rw [hop] at hp; exact absurd rfl hp

theorem toOR_dfr (x : CRes) {f : FuncId} {args : List MV} : x.toOR ≠ .dfr f args m' := by
  cases x <;> (intro h; cases h)
theorem callN_dfr {g : FuncId} {as : List MV} {f : FuncId} {args : List MV} : callN P X call g as m ≠ .dfr f args m' := by
  intro hv
  unfold callN at hv
  split at hv
  · cases hv
  · split at hv
    · cases hv
    · split at hv
      · cases hv
      · split at hv
        · exact toOR_dfr _ hv
        · cases hv
theorem callV_dfr {g : MV} {as : List MV} {f : FuncId} {args : List MV} : callV P X call yl g as m ≠ .dfr f args m' := by
  intro hv
  unfold callV at hv
  split at hv
  · exact callN_dfr hv
  · exact toOR_dfr _ hv
  · split at hv
    · exact callN_dfr hv
    · cases hv
  · cases hv
theorem opCall_dfr {c : Call} {f : FuncId} {args : List MV} : opCall P X call yl e c m ≠ .dfr f args m' := by
  intro hv
  unfold opCall at hv
  split at hv
  · cases hv
  · split at hv
    · split at hv
      · exact callV_dfr hv
      · cases hv
    · split at hv
      · exact callV_dfr hv
      · cases hv
    · exact plain_dfr _ hv

/-- A deferred call. -/
def DfR (μ : Mp) (f : FuncId) (args : List MV) (d : Deferred) : Prop :=
  ∃ (a c : List Value), d.target = .fn (.func f) c.toArray ∧ d.args = a.toArray ∧ trs μ args = some (a ++ c)

theorem evOp_dfr (h : Rel P μ m w) (ho : Opn P μ e ρ) {o : Oper} {f : FuncId} {args : List MV} (hv : evOp P X call yl e o.op m = .dfr f args m') :
    m' = m ∧ ∃ d, (execOp ρ o).run P w = .ok (.defer d) w ∧ DfR μ f args d := by
  by_cases hp : plainOp o.op = true
  · rw [evOp_plain hp] at hv
    exact absurd hv (plain_dfr _)
  · cases hop : o.op with
    | call c =>
      rw [hop] at hv
      exact absurd hv opCall_dfr
    | defer c =>
      rw [hop] at hv
      simp only [evOp, opDefer] at hv
      cases ha : opsL P e c.args.toList with
      | none => rw [ha] at hv; cases hv
      | some as =>
        rw [ha] at hv
        cases hc : c.callee with
        | value g =>
          rw [hc] at hv
          simp only [] at hv
          cases hg : ops? P e g with
          | none => rw [hg] at hv; cases hv
          | some y =>
            rw [hg] at hv
            split at hv
            · rename_i k first caps heq
              cases heq
              cases hv
              have hus := opsL_sound ho ha
              obtain ⟨f', a', c', k1, k2, k3, k4⟩ := tr_func_inv (ho g _ hg)
              cases k1
              refine ⟨rfl, { target := .fn (.func _) c'.toArray, args := (a' ++ c.args.toList.map ρ).toArray }, ?_, a' ++ c.args.toList.map ρ, c', rfl, rfl, trs_append (trs_append k2 hus) k3⟩
              have harr : a'.toArray ++ c.args.map ρ = (a' ++ c.args.toList.map ρ).toArray := by apply Array.ext'; simp
              simp only [execOp, hop, resolve, hc, k4, Deferred.ofValue, Sem.run_bind, Sem.run_pure, Result.andThen_ok, harr]
            · cases hv
        | invoke r n => rw [hc] at hv; cases hv
        | builtin b => rw [hc] at hv; cases hv
    | panic x =>
      rw [hop] at hv
      simp only [evOp, opPanic] at hv
      split at hv <;> cases hv
    | nilCheck x => rw [hop] at hv; exact absurd hv (plain_dfr _)
    | store t a x => rw [hop] at hv; exact absurd hv (plain_dfr _)
    | _ => rw [hop] at hp; exact absurd rfl hp

theorem evOp_dfr_next {o : Op} {f : FuncId} {args : List MV} (hv : evOp P X call yl e o m = .dfr f args m') : m' = m := by
  cases o with
  | call c => exact absurd hv opCall_dfr
  | defer c =>
    simp only [evOp, opDefer] at hv
    repeat' split at hv
    all_goals first | (cases hv; done) | (cases hv; rfl)
  | panic x =>
    simp only [evOp, opPanic] at hv
    split at hv <;> cases hv
  | _ => first | (exact absurd hv (plain_dfr _)) | (cases hv)
end
end
end Go.Mir

/-! THE MIRROR, LAWS 18: regions in the order of the text. -/
namespace Go.Mir
noncomputable section

/-- Deferred calls. -/
def DsR (μ : Mp) : List MD → List Deferred → Prop
  | [], [] => True
  | .mark b :: ds, d :: ds' => (∃ x, μ b = some x ∧ d.target = .collected x.r) ∧ DsR μ ds ds'
  | .call f args :: ds, d :: ds' => DfR μ f args d ∧ DsR μ ds ds'
  | _, _ => False
theorem DfR.mono {μ μ' : Mp} (h : μ.le μ') {f : FuncId} {args : List MV} {d : Deferred} (k : DfR μ f args d) : DfR μ' f args d :=
  let ⟨a, c, k1, k2, k3⟩ := k; ⟨a, c, k1, k2, trs_mono h k3⟩
theorem DsR.mono {μ μ' : Mp} (h : μ.le μ') : ∀ {ds : List MD} {ds' : List Deferred}, DsR μ ds ds' → DsR μ' ds ds'
  | [], [], _ => trivial
  | .mark b :: ds, d :: ds', ⟨⟨x, k1, k2⟩, k3⟩ => ⟨⟨x, h b x k1, k2⟩, k3.mono h⟩
  | .call f args :: ds, d :: ds', ⟨k1, k3⟩ => ⟨k1.mono h, k3.mono h⟩

/-- Ways out. -/
def ExR (μ : Mp) : EX → Exit → Prop
  | .normal, .normal => True
  | .exit i, .exit j => i = j
  | .goto i, .goto j => i = j
  | .ret, .ret => True
  | .pan v, .panic c => ∃ u, tr μ v = some u ∧ c = [{ v := u, recovered := false }]
  | _, _ => False

/-- An activation. -/
structure ActR (μ : Mp) (e : Env) (ds : List MD) (a : Act) : Prop where
  env : EnvR μ e a.tmps
  ds : DsR μ ds a.defers
theorem ActR.mono {μ μ' : Mp} (h : μ.le μ') {e : Env} {ds : List MD} {a : Act} (k : ActR μ e ds a) : ActR μ' e ds a := ⟨k.env.mono h, k.ds.mono h⟩

section
variable {P : Program} {μ : Mp} {m m' : Mem} {w : World} {e e' : Env} {ds ds' : List MD} {a : Act} {X : Hook} {call : Caller} {yl : Yielder}

theorem EnvR.flush {tmps : Array Value} (h : EnvR μ e tmps) : EnvR μ e.flush tmps :=
  ⟨h.1, fun i v hv => h.2 i v (Env.flush_get hv)⟩

theorem putK_inv {β : Type} {d : Option Tmp} {v : MV} {bad : β} {k : Env → β} : (e.putK d v bad k = bad) ∨ ∃ e', e.putK d v bad k = k e' ∧ e'.n = e.n ∧ (d = none ∧ e' = e ∨ ∃ t, d = some t ∧ t < e.n ∧ e' = ⟨.cons t v e.l, e.t, e.n, e.k⟩) := by
  cases d with
  | none => exact .inr ⟨e, rfl, rfl, .inl ⟨rfl, rfl⟩⟩
  | some t =>
    have h0 : e.putK (some t) v bad k = Bool.rec (motive := fun _ => β) bad (k ⟨.cons t v e.l, e.t, e.n, e.k⟩) (Nat.blt t e.n) := rfl
    cases hb : Nat.blt t e.n with
    | false => exact .inl (by rw [h0, hb])
    | true => exact .inr ⟨⟨.cons t v e.l, e.t, e.n, e.k⟩, by rw [h0, hb], rfl, .inr ⟨t, rfl, blt_lt hb, rfl⟩⟩

/-- A temporary laid. -/
theorem ActR.put {d : Option Tmp} {v : MV} {u : Value} (h : ActR μ e ds a) (hu : tr μ v = some u) (hd : d = none ∧ e' = e ∨ ∃ t, d = some t ∧ t < e.n ∧ e' = ⟨.cons t v e.l, e.t, e.n, e.k⟩) : ActR μ e' ds (a.put d u) := by
  rcases hd with ⟨rfl, rfl⟩ | ⟨t, rfl, hlt, rfl⟩
  · exact h
  · refine ⟨⟨?_, fun i y hy => ?_⟩, h.ds⟩
    · show e.n ≤ (a.tmps.setIfInBounds t u).size
      rw [Array.size_setIfInBounds]
      exact h.env.1
    · rw [Env.get_cons] at hy
      show ∃ z, (a.tmps.setIfInBounds t u)[i]? = some z ∧ _
      by_cases hi : i = t
      · subst hi
        rw [if_pos rfl] at hy
        cases hy
        have := h.env.1
        exact ⟨u, by rw [Array.getElem?_setIfInBounds_self_of_lt (Nat.lt_of_lt_of_le hlt this)], hu⟩
      · rw [if_neg hi] at hy
        rw [Array.getElem?_setIfInBounds_ne (fun q => hi q.symm)]
        exact h.env.2 i y hy

theorem tr_bool_only {v : MV} {c : Bool} (h : tr μ v = some (.bool c)) : v = .bool c := by
  cases v with
  | bool b => cases h; rfl
  | _ => simp only [tr] at h; (repeat' split at h) <;> cases h

theorem wantM_sound {ops : Array Oper} {o : Oper} {b : Bool} (h : EnvR μ e a.tmps) (hw : wantM ops e o = some b) : Region.wanted o (yielded ops a.tmps) = b := by
  unfold wantM at hw
  unfold Region.wanted
  cases hg : o.guard with
  | none => rw [hg] at hw; cases hw; rfl
  | some q =>
    obtain ⟨j, want⟩ := q
    rw [hg] at hw
    simp only [] at hw ⊢
    cases hj : ops[j]? with
    | none => rw [hj] at hw; cases hw
    | some oj =>
      rw [hj] at hw
      simp only [] at hw
      cases hd : oj.dst with
      | none => rw [hd] at hw; cases hw
      | some d =>
        rw [hd] at hw
        simp only [] at hw
        cases hv : e.get d with
        | none => rw [hv] at hw; cases hw
        | some v =>
          obtain ⟨u, h1, h2⟩ := h.2 d v hv
          have hy : yielded ops a.tmps j = (match (generalizing := false) u with | .bool b => some b | _ => none : Option Bool) := by
            simp only [yielded, hj, Option.bind_some, hd, h1]
            cases u <;> rfl
          rw [hy]
          rw [hv] at hw
          cases v with
          | bool c =>
            cases h2
            cases hw
            cases c <;> cases want <;> rfl
          | _ =>
            cases hw
            cases u with
            | bool c => exact absurd (tr_bool_only h2) (by intro q; cases q)
            | _ => rfl

theorem evOps_next : ∀ (l : List Oper) {rd : Option Nat} {ops : Array Oper} {e : Env} {ds : List MD} {m : Mem} {x : EX} {e' : Env} {ds' : List MD} {m' : Mem}, evOps P X call yl rd ops l e ds m = .ok x e' ds' m' → m.next ≤ m'.next
  | [], rd, ops, e, ds, m, x, e', ds', m', h => by
    simp only [evOps, Env.flushK_eq] at h
    cases h
    exact Nat.le_refl _
  | o :: os, rd, ops, e, ds, m, x, e', ds', m', h => by
    simp only [evOps] at h
    split at h
    · cases h
    · rcases putK_inv (e := e) (d := o.dst) (v := .tup []) (bad := CR.fail) (k := fun e => evOps P X call yl rd ops os e ds m) with q | ⟨e1, q, _⟩
      · rw [q] at h; cases h
      · rw [q] at h; exact evOps_next os h
    · split at h
      · rename_i v m1 _
        split at h
        · rename_i hb
          rcases putK_inv (e := e) (d := o.dst) (v := v) (bad := CR.fail) (k := fun e => evOps P X call yl rd ops os e ds m1) with q | ⟨e1, q, _⟩
          · rw [q] at h; cases h
          · rw [q] at h; exact Nat.le_trans (Nat.le_of_ble_eq_true hb) (evOps_next os h)
        · cases h
      · split at h
        · rename_i hb
          cases h
          exact Nat.le_of_ble_eq_true hb
        · cases h
      · rename_i f args m1 hd
        split at h
        · rcases putK_inv (e := e) (d := o.dst) (v := .tup []) (bad := CR.fail) (k := fun e => evOps P X call yl none ops os e (.call f args :: ds) m1) with q | ⟨e1, q, _⟩
          · rw [q] at h; cases h
          · rw [q] at h
            have := evOp_dfr_next hd
            rw [← this]
            exact evOps_next os h
        · cases h
      · cases h

theorem evOp_nodefer_val {o : Op} {v : MV} (hv : evOp P X call yl e o m = .val v m') : ∀ c, o ≠ .defer c := by
  rintro c rfl
  simp only [evOp, opDefer] at hv
  repeat' split at hv
  all_goals cases hv
theorem evOp_nodefer_pan {o : Op} {v : MV} (hv : evOp P X call yl e o m = .pan v m') : ∀ c, o ≠ .defer c := by
  rintro c rfl
  simp only [evOp, opDefer] at hv
  repeat' split at hv
  all_goals cases hv

theorem wpIn_val {r : Option Nat} {n : Nat} {o : Oper} {v : MV} {next : Act → World → Prop} {Q : Exit → Act → World → Prop} (hU : Upon P μ m w v m' (execOp a.eval o)) (hd : ∀ c, o.op ≠ .defer c)
    (hk : ∀ u μ' w', tr μ' v = some u → Rel P μ' m' w' → Ext μ m w μ' m' w' → next (a.put o.dst u) w') : o.wpIn (Fc r) n P a w next Q :=
  ⟨fun f _ => Fc_fn r f, by rw [Fc_round, Oper.semAt_eq _ _ _ hd]; exact hU r n o a next Q hk⟩
theorem wpIn_pan {r : Option Nat} {n : Nat} {o : Oper} {v : MV} {next : Act → World → Prop} {Q : Exit → Act → World → Prop} (hU : UponP P μ m w v m' (execOp a.eval o)) (hd : ∀ c, o.op ≠ .defer c)
    (hk : ∀ u μ' w', tr μ' v = some u → Rel P μ' m' w' → Ext μ m w μ' m' w' → Q (.panic [{ v := u, recovered := false }]) a w') : o.wpIn (Fc r) n P a w next Q :=
  ⟨fun f _ => Fc_fn r f, by rw [Fc_round, Oper.semAt_eq _ _ _ hd]; exact hU r n o a next Q hk⟩

/-- A REGION IN THE ORDER OF THE TEXT. -/
theorem evOps_sound (hX : HookS P X) (hC : CallS P call) (hY : YieldS P yl) {rd r : Option Nat} (hrd : rd = none → r = none) {ops : Array Oper} {n : Nat} {x : EX} {Q : Exit → Act → World → Prop} :
    ∀ (l : List Oper) {e e' : Env} {ds ds' : List MD} {m m' : Mem} {a : Act} {w : World} {μ : Mp}, Rel P μ m w → ActR μ e ds a → Free μ m.next m'.next → evOps P X call yl rd ops l e ds m = .ok x e' ds' m' →
      (∀ ex a' μ' w', ExR μ' x ex → ActR μ' e' ds' a' → Rel P μ' m' w' → Ext μ m w μ' m' w' → Q ex a' w') → wpListIn (Fc r) n P ops Q l a w
  | [], e, e', ds, ds', m, m', a, w, μ, h, ha, hf, hv, hk => by
    simp only [evOps, Env.flushK_eq] at hv
    cases hv
    exact hk .normal a μ w trivial ⟨ha.env.flush, ha.ds⟩ h (Ext.refl _ _ _)
  | o :: os, e, e', ds, ds', m, m', a, w, μ, h, ha, hf, hv, hk => by
    have ho := opn_of h ha.env
    have hnext := evOps_next _ hv
    simp only [evOps] at hv
    unfold wpListIn
    cases hw : wantM ops e o with
    | none => rw [hw] at hv; cases hv
    | some b =>
      rw [wantM_sound ha.env hw]
      rw [hw] at hv
      cases b with
      | false =>
        rw [if_neg (by decide)]
        simp only [] at hv
        rcases putK_inv (e := e) (d := o.dst) (v := .tup []) (bad := CR.fail) (k := fun e => evOps P X call yl rd ops os e ds m) with q | ⟨e1, q, _, hd⟩
        · rw [q] at hv; cases hv
        · rw [q] at hv
          exact ⟨fun f _ => Fc_fn r f, evOps_sound hX hC hY hrd os h (ha.put (u := undef) rfl hd) hf hv hk⟩
      | true =>
        rw [if_pos rfl]
        simp only [] at hv
        cases hop : evOp P X call yl e o.op m with
        | val v m1 =>
          rw [hop] at hv
          simp only [] at hv
          cases hb : Nat.ble m.next m1.next with
          | false => rw [hb] at hv; cases hv
          | true =>
            rw [hb] at hv
            have hb' := Nat.le_of_ble_eq_true hb
            simp only [] at hv
            rcases putK_inv (e := e) (d := o.dst) (v := v) (bad := CR.fail) (k := fun e => evOps P X call yl rd ops os e ds m1) with q | ⟨e1, q, _, hd⟩
            · rw [q] at hv; cases hv
            · rw [q] at hv
              have hn1 := evOps_next os hv
              refine wpIn_val (evOp_val hX hC hY h (hf.left hn1) ho hop) (evOp_nodefer_val hop) fun u μ' w' h1 h2 h3 => ?_
              refine evOps_sound hX hC hY hrd os h2 ((ha.mono h3.le).put h1 hd) (hf.right h3) hv fun ex a' μ'' w'' k1 k2 k3 k4 => hk ex a' μ'' w'' k1 k2 k3 (Ext.trans h.wf h2.wf hf h3 k4)
        | pan v m1 =>
          rw [hop] at hv
          simp only [] at hv
          cases hb : Nat.ble m.next m1.next with
          | false => rw [hb] at hv; cases hv
          | true =>
            rw [hb] at hv
            cases hv
            exact wpIn_pan (evOp_pan hC hY h hf ho hop) (evOp_nodefer_pan hop) fun u μ' w' h1 h2 h3 => hk _ a μ' w' ⟨u, h1, rfl⟩ (ha.mono h3.le) h2 h3
        | dfr f args m1 =>
          rw [hop] at hv
          simp only [] at hv
          cases rd with
          | some l => cases hv
          | none =>
            obtain rfl := hrd rfl
            simp only [] at hv
            obtain ⟨rfl, d, k1, k2⟩ := evOp_dfr h ho hop
            rcases putK_inv (e := e) (d := o.dst) (v := .tup []) (bad := CR.fail) (k := fun e => evOps P X call yl none ops os e (.call f args :: ds) m1) with q | ⟨e1, q, _, hd⟩
            · rw [q] at hv; cases hv
            · rw [q] at hv
              refine ⟨fun f _ => Fc_fn none f, ?_⟩
              rw [Fc_round, Oper.semAt_none, k1, Oper.uponIn_defer]
              have ha' : ActR μ e (.call f args :: ds) { a with defers := d :: a.defers } := ⟨ha.env, k2, ha.ds⟩
              exact evOps_sound hX hC hY hrd os h (ha'.put (u := undef) rfl hd) hf hv hk
        | fail => rw [hop] at hv; cases hv
end
end
end Go.Mir

/-! THE MIRROR, LAWS 19: what an operation looks at. -/
namespace Go.Mir
noncomputable section
section
variable {P : Program} {μ : Mp} {m m' : Mem} {w : World} {e e' : Env} {X : Hook} {call : Caller} {yl : Yielder}

/-- Two environments say the same of an operand. -/
def SameAt (e e' : Env) (x : Operand) : Prop := ∀ t, x = .tmp t → e.get t = e'.get t
theorem ops_congr {x : Operand} (h : SameAt e e' x) : ops? P e x = ops? P e' x := by
  cases x with
  | tmp t => exact h t rfl
  | _ => rfl
theorem opsL_congr : ∀ {xs : List Operand}, (∀ x ∈ xs, SameAt e e' x) → opsL P e xs = opsL P e' xs
  | [], _ => rfl
  | x :: xs, h => by
    simp only [opsL]
    rw [ops_congr (h x (List.mem_cons_self ..)), opsL_congr (fun y hy => h y (List.mem_cons_of_mem _ hy))]
theorem opsP_congr : ∀ {xs : List (Nat × Operand)}, (∀ x ∈ xs.map (·.2), SameAt e e' x) → opsP P e xs = opsP P e' xs
  | [], _ => rfl
  | (i, x) :: xs, h => by
    simp only [opsP]
    rw [ops_congr (h x (List.mem_cons_self ..)), opsP_congr (fun y hy => h y (List.mem_cons_of_mem _ hy))]
theorem opO_congr {x : Option Operand} (h : ∀ y ∈ x.toArray, SameAt e e' y) : opO P e x = opO P e' x := by
  cases x with
  | none => rfl
  | some x => simp only [opO]; rw [ops_congr (h x (by simp))]

theorem opCall_congr {c : Call} (h : ∀ x ∈ c.operands, SameAt e e' x) : opCall P X call yl e c m = opCall P X call yl e' c m := by
  unfold opCall
  rw [opsL_congr (xs := c.args.toList) (fun x hx => h x (by simp [Call.operands]; exact .inr (by simpa using hx)))]
  cases hc : c.callee with
  | value f => simp only []; rw [ops_congr (h f (by simp [Call.operands, hc]))]
  | invoke r n => simp only []; rw [ops_congr (h r (by simp [Call.operands, hc]))]
  | builtin b => rfl

theorem evPlain_congr {o : Op} (h : ∀ x ∈ o.operands, SameAt e e' x) : evPlain P e o m = evPlain P e' o m := by
  have g : ∀ x, x ∈ o.operands → ops? P e x = ops? P e' x := fun x hx => ops_congr (h x hx)
  cases o with
  | move x => simp only [evPlain, opMove, g x (by simp [Op.operands])]
  | assign x => simp only [evPlain, opMove, g x (by simp [Op.operands])]
  | pick c a b => simp only [evPlain, opPick, opMove, g c (by simp [Op.operands]), g a (by simp [Op.operands]), g b (by simp [Op.operands])]
  | alloc t => rfl
  | box t x => simp only [evPlain, opBox, g x (by simp [Op.operands])]
  | build t ps => simp only [evPlain, opBuild, opsP_congr (P := P) (xs := ps.toList) (fun x hx => h x (by simpa [Op.operands] using hx))]
  | buildSlice t n ps => simp only [evPlain, opBuildSlice, opsP_congr (P := P) (xs := ps.toList) (fun x hx => h x (by simpa [Op.operands] using hx))]
  | load t a => simp only [evPlain, opLoad, g a (by simp [Op.operands])]
  | store t a x => simp only [evPlain, opStore, g a (by simp [Op.operands]), g x (by simp [Op.operands])]
  | nilCheck x => simp only [evPlain, opNil, g x (by simp [Op.operands])]
  | binOp op t x y z => simp only [evPlain, opBin, g x (by simp [Op.operands]), g y (by simp [Op.operands])]
  | unOp op t x => simp only [evPlain, op1, g x (by simp [Op.operands])]
  | convert s d x => simp only [evPlain, op1, g x (by simp [Op.operands])]
  | makeInterface t x => simp only [evPlain, opIface, g x (by simp [Op.operands])]
  | makeFunc fn fs cs =>
    simp only [evPlain, opFunc, opsL_congr (P := P) (xs := fs.toList) (fun x hx => h x (by simp [Op.operands]; exact .inl (by simpa using hx))),
      opsL_congr (P := P) (xs := cs.toList) (fun x hx => h x (by simp [Op.operands]; exact .inr (by simpa using hx)))]
  | makeSlice t l c => simp only [evPlain, op2, g l (by simp [Op.operands]), g c (by simp [Op.operands])]
  | slice t x lo hi mx =>
    simp only [evPlain, opSlice, g x (by simp [Op.operands]), opO_congr (P := P) (x := lo) (fun y hy => h y (by simp [Op.operands] at hy ⊢; simp [hy])),
      opO_congr (P := P) (x := hi) (fun y hy => h y (by simp [Op.operands] at hy ⊢; simp [hy])), opO_congr (P := P) (x := mx) (fun y hy => h y (by simp [Op.operands] at hy ⊢; simp [hy]))]
  | fieldAddr s x i => simp only [evPlain, op1, g x (by simp [Op.operands])]
  | field t x i => simp only [evPlain, op1, g x (by simp [Op.operands])]
  | indexAddr t x i => simp only [evPlain, op2, g x (by simp [Op.operands]), g i (by simp [Op.operands])]
  | index t x i => simp only [evPlain, op2, g x (by simp [Op.operands]), g i (by simp [Op.operands])]
  | typeAssert x t a ok => simp only [evPlain, op1, g x (by simp [Op.operands])]
  | extract x i => simp only [evPlain, opExtract, g x (by simp [Op.operands])]
  | range t x => simp only [evPlain, opRange, g x (by simp [Op.operands])]
  | makeMap t r => cases r <;> rfl
  | lookup t x k ok => simp only [evPlain, op2, g x (by simp [Op.operands]), g k (by simp [Op.operands])]
  | mapUpdate t x k v => simp only [evPlain, opUpd, g x (by simp [Op.operands]), g k (by simp [Op.operands]), g v (by simp [Op.operands])]
  | insert t x k v => simp only [evPlain, opUpd, g x (by simp [Op.operands]), g k (by simp [Op.operands]), g v (by simp [Op.operands])]
  | next it st => cases st with
    | true => simp only [evPlain, opNext, g it (by simp [Op.operands])]
    | false => rfl
  | _ => rfl

theorem evOp_congr {o : Op} (h : ∀ x ∈ o.operands, SameAt e e' x) : evOp P X call yl e o m = evOp P X call yl e' o m := by
  cases o with
  | call c => exact opCall_congr h
  | defer c =>
    have h : ∀ x ∈ c.operands, SameAt e e' x := h
    simp only [evOp, opDefer]
    rw [opsL_congr (xs := c.args.toList) (fun x hx => h x (by simp [Call.operands]; exact .inr (by simpa using hx)))]
    cases hc : c.callee with
    | value f => cases opsL P e' c.args.toList with
      | none => rfl
      | some args => simp only [ops_congr (P := P) (h f (by simp [Call.operands, hc]))]
    | invoke r n => cases opsL P e' c.args.toList <;> rfl
    | builtin b => cases opsL P e' c.args.toList <;> rfl
  | panic x => simp only [evOp, opPanic]; rw [ops_congr (h x (by simp [Op.operands]))]
  | _ => exact congrArg OR.plain (evPlain_congr (P := P) (m := m) h)

/-- An environment cut down to some temporaries. -/
def Env.only (e : Env) : List Tmp → Env
  | [] => ⟨.nil, .leaf, e.n, 0⟩
  | t :: ts => match e.get t with
    | some v => ⟨.cons t v (Env.only e ts).l, .leaf, e.n, 0⟩
    | none => Env.only e ts
theorem Env.only_n (e : Env) : ∀ ts, (e.only ts).n = e.n ∧ (e.only ts).k = 0 ∧ (e.only ts).t = .leaf
  | [] => ⟨rfl, rfl, rfl⟩
  | t :: ts => by
    unfold Env.only
    cases e.get t with
    | none => exact Env.only_n e ts
    | some v => exact ⟨rfl, rfl, rfl⟩
theorem keeps_zero (i : Nat) : keeps 0 i = false := by
  unfold keeps
  have : Nat.shiftRight 0 i = 0 := Nat.zero_shiftRight i
  rw [this]
  rfl
theorem Env.only_get (e : Env) (i : Nat) : ∀ ts, (e.only ts).get i = if i ∈ ts then e.get i else none
  | [] => by
    rw [Env.get_def]
    simp [Env.only, EL.find_nil, keeps_zero]
  | t :: ts => by
    have ih := Env.only_get e i ts
    unfold Env.only
    cases ht : e.get t with
    | none =>
      simp only []
      rw [ih]
      by_cases hi : i = t
      · subst hi
        rw [if_pos (List.mem_cons_self ..), ht]
        split <;> rfl
      · by_cases hm : i ∈ ts
        · rw [if_pos hm, if_pos (List.mem_cons_of_mem _ hm)]
        · rw [if_neg hm, if_neg (by simp [hi, hm])]
    | some v =>
      simp only []
      rw [Env.get_def, EL.find_cons]
      by_cases hi : i = t
      · subst hi
        rw [if_pos rfl, if_pos (List.mem_cons_self ..), ht]
      · rw [if_neg hi]
        have h2 := Env.get_def (e.only ts) i
        rw [(Env.only_n e ts).2.1, (Env.only_n e ts).2.2] at h2
        rw [← h2, ih]
        by_cases hm : i ∈ ts
        · rw [if_pos hm, if_pos (List.mem_cons_of_mem _ hm)]
        · rw [if_neg hm, if_neg (by simp [hi, hm])]

/-! ### Sameness of values -/
mutual
theorem same_eq : ∀ {a b : MV}, same a b = true → a = b
  | .bool a, b, h => by
    cases b <;> first | (cases h; done) | skip
    simp only [same, beq_iff_eq] at h; rw [h]
  | .int k a, b, h => by
    cases b <;> first | (cases h; done) | skip
    simp only [same, Bool.and_eq_true, decide_eq_true_eq] at h; rw [h.1, h.2]
  | .str a, b, h => by
    cases b <;> first | (cases h; done) | skip
    simp only [same, bytesEq_eq, beq_iff_eq] at h; rw [h]
  | .nilp, b, h => by cases b <;> first | rfl | (cases h; done)
  | .nils, b, h => by cases b <;> first | rfl | (cases h; done)
  | .nilf, b, h => by cases b <;> first | rfl | (cases h; done)
  | .nili, b, h => by cases b <;> first | rfl | (cases h; done)
  | .nilm, b, h => by cases b <;> first | rfl | (cases h; done)
  | .ptr a x, b, h => by
    cases b <;> first | (cases h; done) | skip
    simp only [same, Bool.and_eq_true] at h; rw [Nat.eq_of_beq_eq_true h.1, Nat.eq_of_beq_eq_true h.2]
  | .sl a x l c s f, b, h => by
    cases b <;> first | (cases h; done) | skip
    simp only [same, Bool.and_eq_true, beq_iff_eq] at h
    obtain ⟨⟨⟨⟨⟨h1, h2⟩, h3⟩, h4⟩, h5⟩, h6⟩ := h
    rw [Nat.eq_of_beq_eq_true h1, Nat.eq_of_beq_eq_true h2, Nat.eq_of_beq_eq_true h3, Nat.eq_of_beq_eq_true h4, Nat.eq_of_beq_eq_true h5, h6]
  | .es a x l s, b, h => by
    cases b <;> first | (cases h; done) | skip
    simp only [same, Bool.and_eq_true] at h
    obtain ⟨⟨⟨h1, h2⟩, h3⟩, h4⟩ := h
    rw [Nat.eq_of_beq_eq_true h1, Nat.eq_of_beq_eq_true h2, Nat.eq_of_beq_eq_true h3, Nat.eq_of_beq_eq_true h4]
  | .map a, b, h => by
    cases b <;> first | (cases h; done) | skip
    simp only [same] at h; rw [Nat.eq_of_beq_eq_true h]
  | .iface t v, b, h => by
    cases b <;> first | (cases h; done) | skip
    simp only [same, Bool.and_eq_true] at h
    rw [Nat.eq_of_beq_eq_true h.1, same_eq h.2]
  | .agg a, b, h => by
    cases b <;> first | (cases h; done) | skip
    simp only [same] at h; rw [sames_eq h]
  | .tup a, b, h => by
    cases b <;> first | (cases h; done) | skip
    simp only [same] at h; rw [sames_eq h]
  | .func f a c, b, h => by
    cases b <;> first | (cases f <;> cases h; done) | skip
    rename_i g a' c'
    cases f <;> cases g <;> first | (cases h; done) | skip
    · simp only [same, Bool.and_eq_true] at h
      rw [Nat.eq_of_beq_eq_true h.1.1, sames_eq h.1.2, sames_eq h.2]
    · simp only [same, Bool.and_eq_true, decide_eq_true_eq] at h
      rw [h.1.1, sames_eq h.1.2, sames_eq h.2]
    · simp only [same, Bool.and_eq_true] at h
      rw [Nat.eq_of_beq_eq_true h.1.1, sames_eq h.1.2, sames_eq h.2]
theorem sames_eq : ∀ {a b : List MV}, sames a b = true → a = b
  | [], [], _ => rfl
  | x :: xs, y :: ys, h => by
    simp only [sames, Bool.and_eq_true] at h
    rw [same_eq h.1, sames_eq h.2]
  | [], _ :: _, h => by simp [sames] at h
  | _ :: _, [], h => by simp [sames] at h
end
end
end
end Go.Mir

/-! THE MIRROR, LAWS 20: operations that do not look at memory. -/
namespace Go.Mir
noncomputable section

/-- Both fail, or both come to one value; memory stands. -/
def R2 (m M : Mem) (a b : OR) : Prop := (a = .fail ∧ b = .fail) ∨ ∃ v, a = .val v m ∧ b = .val v M

section
variable {P : Program} {m m' M : Mem} {e : Env} {X : Hook} {call : Caller} {yl : Yielder}

theorem R2.no : R2 m M .fail .fail := .inl ⟨rfl, rfl⟩
theorem R2.val (v : MV) : R2 m M (.val v m) (.val v M) := .inr ⟨v, rfl, rfl⟩
theorem R2.int (k : IntKind) (n : Int) : R2 m M (intR k n m) (intR k n M) := by rw [intR_eq, intR_eq]; exact .val _
theorem R2.bool (b : Bool) : R2 m M (boolR b m) (boolR b M) := by rw [boolR_eq, boolR_eq]; exact .val _

theorem opMove_r2 (x : Operand) : R2 m M (opMove P e x m) (opMove P e x M) := by
  unfold opMove
  cases ops? P e x with
  | none => exact .no
  | some v => exact .val v
theorem opPick_r2 (c a b : Operand) : R2 m M (opPick P e c a b m) (opPick P e c a b M) := by
  unfold opPick
  cases ops? P e c with
  | none => exact .no
  | some v => cases v with
    | bool t => cases t <;> exact opMove_r2 _
    | _ => exact .no
theorem opBuild_r2 (t : TypeId) (ps : List (Nat × Operand)) : R2 m M (opBuild P e t ps m) (opBuild P e t ps M) := by
  unfold opBuild
  cases zeroT P t with
  | none => exact .no
  | some z => cases opsP P e ps with
    | none => exact .no
    | some qs =>
      simp only []
      cases buildM P t z.cells qs with
      | none => exact .no
      | some cs => exact .val _
theorem op1_r2 (x : Operand) {k k' : MV → OR} (h : ∀ v, R2 m M (k v) (k' v)) : R2 m M (op1 P e x k) (op1 P e x k') := by
  unfold op1
  cases ops? P e x with
  | none => exact .no
  | some v => exact h v
theorem op2_r2 (x y : Operand) {k k' : MV → MV → OR} (h : ∀ v u, R2 m M (k v u) (k' v u)) : R2 m M (op2 P e x y k) (op2 P e x y k') := by
  unfold op2
  cases ops? P e x with
  | none => exact .no
  | some v => cases ops? P e y with
    | none => exact .no
    | some u => exact h v u
theorem opExtract_r2 (x : Operand) (i : Nat) : R2 m M (opExtract P e x i m) (opExtract P e x i M) := by
  unfold opExtract
  cases ops? P e x with
  | none => exact .no
  | some v => cases v with
    | tup vs =>
      simp only []
      cases vs[i]? with
      | none => exact .no
      | some v => exact .val _
    | _ => exact .no
theorem fieldV_r2 (t : TypeId) (x : MV) (i : Nat) : R2 m M (fieldV P t x i m) (fieldV P t x i M) := by
  unfold fieldV
  cases P.underlying t with
  | none => exact .no
  | some td => cases td with
    | struct fs => cases x with
      | agg cs =>
        simp only []
        cases fs[i]? with
        | none => exact .no
        | some f =>
          simp only []
          cases partM P f.type cs f.offset with
          | none => exact .no
          | some v => exact .val _
      | _ => exact .no
    | _ => exact .no
theorem fieldA_r2 (t : TypeId) (x : MV) (i : Nat) : R2 m M (fieldA P t x i m) (fieldA P t x i M) := by
  unfold fieldA
  cases P.underlying t with
  | none => exact .no
  | some td => cases td with
    | struct fs => cases x with
      | ptr b off =>
        simp only []
        cases fs[i]? with
        | none => exact .no
        | some f =>
          simp only []
          cases sizeT P f.type with
          | none => exact .no
          | some n => cases n with
            | zero => exact .no
            | succ n => simp only [forceN_eq]; exact .val _
      | _ => exact .no
    | _ => exact .no
theorem indexA_r2 (t : TypeId) (x i : MV) : R2 m M (indexA P t x i m) (indexA P t x i M) := by
  unfold indexA
  cases P.underlying t with
  | none => exact .no
  | some td => cases td with
    | array n el =>
      simp only []
      cases sizeT P el with
      | none => exact .no
      | some s =>
        simp only [idxAr]
        split
        · cases Nat.blt _ n with
          | false => exact .no
          | true => simp only [forceN_eq]; exact .val _
        · exact .no
    | slice el =>
      simp only []
      cases sizeT P el with
      | none => exact .no
      | some s =>
        simp only [idxSl]
        split
        · rename_i sz _ _ i
          cases (Nat.blt i _ && Nat.beq s sz) with
          | false => exact .no
          | true => simp only [forceN_eq]; exact .val _
        · exact .no
    | _ => exact .no
theorem indexV_r2 (t : TypeId) (x i : MV) : R2 m M (indexV P t x i m) (indexV P t x i M) := by
  unfold indexV
  cases P.underlying t with
  | none => exact .no
  | some td => cases td with
    | array n el =>
      simp only []
      cases sizeT P el with
      | none => exact .no
      | some s =>
        simp only [idxAgg]
        split
        · rename_i cs _ i
          cases Nat.blt i n with
          | false => exact .no
          | true =>
            simp only []
            cases partM P el cs (Nat.mul i s) with
            | none => exact .no
            | some v => exact .val _
        · exact .no
    | string =>
      simp only [idxStr]
      split
      · rename_i s _ i
        cases nthB s i with
        | none => exact .no
        | some b => exact .int _ _
      · exact .no
    | _ => exact .no
theorem opNil_r2 (x : Operand) : R2 m M (opNil P e x m) (opNil P e x M) := by
  unfold opNil
  cases ops? P e x with
  | none => exact .no
  | some v => cases v with
    | ptr b off => exact .val _
    | iface t v => exact .val _
    | func f a c => cases f <;> first | exact .val _ | exact .no
    | _ => exact .no
theorem binBits_r2 (op : BinOp) (k : IntKind) (a b : Int) : R2 m M (binBits op k a b m) (binBits op k a b M) := by
  unfold binBits
  cases op <;> first | exact .int _ _ | exact .no
theorem divI_r2 (op : BinOp) (k : IntKind) (a b : Int) : R2 m M (divI op k a b m) (divI op k a b M) := by
  unfold divI
  cases eqI b 0 with
  | true => exact .no
  | false => cases op <;> exact .int _ _
theorem shI_r2 (op : BinOp) (k : IntKind) (a b : Int) : R2 m M (shI op k a b m) (shI op k a b M) := by
  unfold shI
  cases ltI b 0 with
  | true => exact .no
  | false => cases op <;> exact .int _ _
theorem binI_r2 (op : BinOp) (k : IntKind) (a b : Int) : R2 m M (binI op k a b m) (binI op k a b M) := by
  unfold binI
  cases op <;> first | exact .int _ _ | exact .bool _ | exact binBits_r2 _ _ _ _ | exact divI_r2 _ _ _ _ | exact shI_r2 _ _ _ _
theorem binS_r2 (op : BinOp) (a b : List UInt8) : R2 m M (binS op a b m) (binS op a b M) := by
  unfold binS
  cases op <;> first | exact .bool _ | exact .no | skip
  cases Nat.ble (a.length + b.length) 9223372036854775807 with
  | true => exact .val _
  | false => exact .no
theorem binE_r2 (op : BinOp) (t : TypeId) (x y : Operand) (a b : MV) : R2 m M (binE P op t x y a b m) (binE P op t x y a b M) := by
  unfold binE
  cases eqGuardM P t x y a b with
  | false => exact .no
  | true =>
    simp only []
    cases eqM P Op.maxDepth t a b with
    | none => exact .no
    | some r => cases op <;> first | exact .bool _ | exact .no
theorem binM_r2 (op : BinOp) (t : TypeId) (x y : Operand) (a b : MV) : R2 m M (binM P op t x y a b m) (binM P op t x y a b M) := by
  unfold binM
  split
  · rename_i k a k' b
    cases (sameK k k' || isSh op) with
    | true => exact binI_r2 _ _ _ _
    | false => exact .no
  · exact binS_r2 _ _ _
  · exact binE_r2 _ _ _ _ _ _
theorem opBin_r2 (op : BinOp) (t : TypeId) (x y : Operand) : R2 m M (opBin P e op t x y m) (opBin P e op t x y M) := by
  unfold opBin
  cases ops? P e x with
  | none => exact .no
  | some v => cases ops? P e y with
    | none => exact .no
    | some u => exact binM_r2 _ _ _ _ _ _
theorem unM_r2 (op : UnOp) (x : MV) : R2 m M (unM op x m) (unM op x M) := by
  unfold unM
  split <;> first | exact .int _ _ | exact .val _ | exact .no
theorem opIface_r2 (t : TypeId) (x : Operand) : R2 m M (opIface P e t x m) (opIface P e t x M) := by
  unfold opIface
  cases P.underlying t with
  | none => cases ops? P e x <;> exact .no
  | some td => cases ops? P e x with
    | none => cases td <;> exact .no
    | some v => cases td <;> first | exact .no | exact .val _
theorem opFunc_r2 (fn : Fn) (fs cs : List Operand) : R2 m M (opFunc P e fn fs cs m) (opFunc P e fn fs cs M) := by
  unfold opFunc
  cases fn <;> first | exact .no | skip
  all_goals
    simp only []
    cases opsL P e fs with
    | none => exact .no
    | some a => cases opsL P e cs with
      | none => exact .no
      | some b => exact .val _
theorem yesM_r2 (ok : Bool) (v : MV) : R2 m M (yesM ok v m) (yesM ok v M) := by cases ok <;> exact .val _
theorem noM_r2 (a : TypeId) (ok : Bool) : R2 m M (noM P a ok m) (noM P a ok M) := by
  unfold noM
  cases ok with
  | false => exact .no
  | true =>
    simp only []
    cases zeroT P a with
    | none => exact .no
    | some z => exact .val _
theorem assertM_r2 (x : MV) (a : TypeId) (ok : Bool) : R2 m M (assertM P x a ok m) (assertM P x a ok M) := by
  have hc : R2 m M (assertC P x a ok m) (assertC P x a ok M) := by
    unfold assertC
    cases x with
    | nili => exact noM_r2 _ _
    | iface t v =>
      simp only []
      cases Nat.beq t a with
      | true => exact yesM_r2 _ _
      | false => exact noM_r2 _ _
    | _ => exact .no
  unfold assertM
  cases P.underlying a with
  | none => exact .no
  | some td => cases td with
    | interface want =>
      simp only [assertI]
      cases x with
      | nili => exact noM_r2 _ _
      | iface t v =>
        simp only []
        cases P.info? t with
        | none => exact .no
        | some i =>
          simp only []
          cases Instr.missingMethod want i.methods with
          | none => exact yesM_r2 _ _
          | some s => exact noM_r2 _ _
      | _ => exact .no
    | _ => exact hc
theorem sliceS_r2 (s : Nat) (x : MV) (lo hi mx : Option MV) : R2 m M (sliceS s x lo hi mx m) (sliceS s x lo hi mx M) := by
  unfold sliceS
  cases x with
  | nils =>
    simp only []
    cases boundsM 0 0 lo hi mx with
    | none => exact .no
    | some q => exact .val _
  | sl b off len cap sz ex =>
    simp only []
    cases Nat.beq s sz with
    | false => exact .no
    | true =>
      simp only []
      cases boundsM len cap lo hi mx with
      | none => exact .no
      | some q =>
        obtain ⟨l, h, c⟩ := q
        simp only [forceN_eq]
        cases (ex || mx.isSome) <;> cases Nat.beq c l <;> exact .val _
  | es b base adv sz =>
    simp only []
    cases boundsM 0 0 lo hi none with
    | none => cases mx <;> exact .no
    | some q => cases mx with
      | none => exact .val _
      | some _ => exact .no
  | _ => exact .no
theorem sliceA_r2 (n s : Nat) (x : MV) (lo hi mx : Option MV) : R2 m M (sliceA n s x lo hi mx m) (sliceA n s x lo hi mx M) := by
  unfold sliceA
  cases x with
  | ptr b off =>
    simp only []
    cases boundsM n n lo hi mx with
    | none => exact .no
    | some q =>
      obtain ⟨l, h, c⟩ := q
      simp only [forceN_eq]
      cases Nat.beq c l <;> exact .val _
  | _ => exact .no
theorem sliceT_r2 (x : MV) (lo hi mx : Option MV) : R2 m M (sliceT x lo hi mx m) (sliceT x lo hi mx M) := by
  unfold sliceT
  cases x with
  | str s => cases mx with
    | none =>
      simp only []
      cases boundsM s.length s.length lo hi none with
      | none => exact .no
      | some q => exact .val _
    | some _ => exact .no
  | _ => cases mx <;> exact .no
theorem sliceM_r2 (t : TypeId) (x : MV) (lo hi mx : Option MV) : R2 m M (sliceM P t x lo hi mx m) (sliceM P t x lo hi mx M) := by
  unfold sliceM
  cases P.underlying t with
  | none => exact .no
  | some td => cases td with
    | string => exact sliceT_r2 _ _ _ _
    | slice el =>
      simp only []
      cases sizeT P el with
      | none => exact .no
      | some s => exact sliceS_r2 _ _ _ _ _
    | array n el =>
      simp only []
      cases sizeT P el with
      | none => exact .no
      | some s => exact sliceA_r2 _ _ _ _ _ _
    | _ => exact .no
theorem opSlice_r2 (t : TypeId) (x : Operand) (lo hi mx : Option Operand) : R2 m M (opSlice P e t x lo hi mx m) (opSlice P e t x lo hi mx M) := by
  unfold opSlice
  cases ops? P e x with
  | none => exact .no
  | some v => cases opO P e lo with
    | none => exact .no
    | some a => cases opO P e hi with
      | none => exact .no
      | some b => cases opO P e mx with
        | none => exact .no
        | some c => exact sliceM_r2 _ _ _ _ _
theorem lenM_r2 {t : TypeId} {x : MV} (h : ∀ k v, P.underlying t ≠ some (.map k v)) : R2 m M (lenM P t x m) (lenM P t x M) := by
  unfold lenM
  cases ht : P.underlying t with
  | none => exact .no
  | some td => cases td with
    | string => cases x with
      | str s => exact .int _ _
      | _ => exact .no
    | array n el => exact .val _
    | slice el => cases x <;> first | exact .val _ | exact .no
    | map k v => exact absurd ht (h k v)
    | _ => exact .no

theorem R2.plain {a b : OR} (h : R2 m M a b) : R2 m M a.plain b.plain := by
  rcases h with ⟨rfl, rfl⟩ | ⟨v, rfl, rfl⟩
  · exact .no
  · exact .val v

theorem convM_r2 {s d : TypeId} {x : Operand} (hk : kd P (.convert s d x) = .pure) (y : MV) : R2 m M (convM P s d y m) (convM P s d y M) := by
  unfold convM
  simp only [kd] at hk
  cases hs : P.underlying s with
  | none => exact .no
  | some ts =>
    simp only []
    cases hd : P.underlying d with
    | none => exact .no
    | some td =>
      rw [hs, hd] at hk
      cases td with
      | int k => cases y with
        | int k' n => exact .int _ _
        | _ => exact .no
      | string =>
        simp only [convToStr]
        cases ts with
        | slice el => cases hk
        | _ => cases y <;> first | exact .val _ | exact .no
      | slice el =>
        cases ts with
        | string => cases hk
        | _ => exact .no
      | unsafePointer =>
        simp only [convToUns]
        cases ts with
        | pointer t => cases hk
        | _ => exact .no
      | pointer u =>
        simp only [convToPtr]
        cases ts with
        | unsafePointer => cases hk
        | _ => exact .no
      | _ => exact .no

theorem builtin_r2 {b : Builtin} {ts : List TypeId} {args : List MV} (hb : b = .min ∨ b = .max ∨ b = .unsafeSliceData ∨ (b = .len ∧ ∀ t k v, ts[0]? = some t → P.underlying t ≠ some (.map k v))) :
    R2 m M (opBuiltin P b ts args m) (opBuiltin P b ts args M) := by
  unfold opBuiltin
  split
  · rcases hb with h | h | h | ⟨h, _⟩ <;> cases h
  · rename_i x t rest
    rcases hb with h | h | h | ⟨_, h⟩
    · cases h
    · cases h
    · cases h
    · exact lenM_r2 fun k v => h t k v rfl
  · rename_i rest x
    cases x with
    | nils => exact .val _
    | sl b off len cap sz ex => cases cap with
      | zero => exact .no
      | succ k => exact .val _
    | _ => exact .no
  · rcases hb with h | h | h | ⟨h, _⟩ <;> cases h
  · rename_i x r
    cases minM false x r with
    | none => exact .no
    | some v => exact .val _
  · rename_i x r
    cases minM true x r with
    | none => exact .no
    | some v => exact .val _
  · rcases hb with h | h | h | ⟨h, _⟩ <;> cases h
  · exact .no

theorem opCall_r2 {c : Call} (hk : kd P (.call c) = .pure) : R2 m M (opCall P X call yl e c m) (opCall P X call yl e c M) := by
  obtain ⟨callee, args, argTypes⟩ := c
  have key : ∃ b, callee = .builtin b ∧ (b = .min ∨ b = .max ∨ b = .unsafeSliceData ∨ (b = .len ∧ ∀ t k v, argTypes.toList[0]? = some t → P.underlying t ≠ some (.map k v))) := by
    cases callee with
    | value f => cases hk
    | invoke r n => cases hk
    | builtin b =>
      refine ⟨b, rfl, ?_⟩
      cases b <;> first | (cases hk; done) | (exact .inl rfl) | (exact .inr (.inl rfl)) | (exact .inr (.inr (.inl rfl))) | skip
      refine .inr (.inr (.inr ⟨rfl, fun t k v ht hu => ?_⟩))
      simp only [kd] at hk
      have : argTypes[0]? = some t := by rw [← Array.getElem?_toList]; exact ht
      rw [this] at hk
      simp only [hu] at hk
      cases hk
  obtain ⟨b, rfl, hb⟩ := key
  unfold opCall
  cases opsL P e args.toList with
  | none => exact .no
  | some as => exact (builtin_r2 hb).plain

/-- AN OPERATION THAT DOES NOT LOOK AT MEMORY. -/
theorem pure_r2 {o : Op} (hk : kd P o = .pure) : R2 m M (evOp P X call yl e o m) (evOp P X call yl e o M) := by
  cases o with
  | move x => exact (opMove_r2 x).plain
  | assign x => exact (opMove_r2 x).plain
  | pick c a b => exact (opPick_r2 c a b).plain
  | build t ps => exact (opBuild_r2 t ps.toList).plain
  | extract x i => exact (opExtract_r2 x i).plain
  | field t x i => exact (op1_r2 x fun v => fieldV_r2 t v i).plain
  | fieldAddr t x i => exact (op1_r2 x fun v => fieldA_r2 t v i).plain
  | indexAddr t x i => exact (op2_r2 x i fun v j => indexA_r2 t v j).plain
  | index t x i => exact (op2_r2 x i fun v j => indexV_r2 t v j).plain
  | nilCheck x => exact (opNil_r2 x).plain
  | unOp op t x => exact (op1_r2 x fun v => unM_r2 op v).plain
  | binOp op t x y z => exact (opBin_r2 op t x y).plain
  | makeInterface t x => exact (opIface_r2 t x).plain
  | makeFunc fn fs cs => exact (opFunc_r2 fn fs.toList cs.toList).plain
  | typeAssert x t a ok => exact (op1_r2 x fun v => assertM_r2 v a ok).plain
  | slice t x lo hi mx => exact (opSlice_r2 t x lo hi mx).plain
  | convert s d x => exact (op1_r2 x fun v => convM_r2 hk v).plain
  | call c => exact opCall_r2 hk
  | _ => cases hk

theorem pure_val {o : Op} {v : MV} (hk : kd P o = .pure) (h : evOp P X call yl e o m = .val v m') : m' = m ∧ ∀ M, evOp P X call yl e o M = .val v M := by
  refine ⟨?_, fun M => ?_⟩
  · rcases pure_r2 (m := m) (M := m) (e := e) (X := X) (call := call) (yl := yl) hk with ⟨q, _⟩ | ⟨u, q, _⟩
    · rw [q] at h; cases h
    · rw [q] at h; cases h; rfl
  · rcases pure_r2 (m := m) (M := M) (e := e) (X := X) (call := call) (yl := yl) hk with ⟨q, _⟩ | ⟨u, q, q'⟩
    · rw [q] at h; cases h
    · rw [q] at h; cases h; exact q'
end
end
end Go.Mir

/-! THE MIRROR, LAWS 21: what an operation lays. -/
namespace Go.Mir
noncomputable section
section
variable {P : Program} {μ : Mp} {m m' : Mem} {w : World} {e : Env} {ρ : Operand → Value} {X : Hook} {call : Caller} {yl : Yielder}

/-- It lays one new row, and hands back a value that names it. -/
def Lays (P : Program) (μ : Mp) (w : World) (cs : List MV) (el : TypeId) (f : Nat → MV) (s : Sem Value) : Prop :=
  ∃ us rest lh u w', trs μ cs = some us ∧ s.run P w = .ok u w' ∧ w'.heap = w.heap.push (.cells (us ++ rest).toArray el lh) ∧ Calm w w' ∧ (∀ i, i < us.length + rest.length → ¬ (lh.1 ≤ i ∧ i < lh.2)) ∧
    ∀ b (μ' : Mp), μ' b = some ⟨w.heap.size, 0, cs.length, rest.length⟩ → tr μ' (f b) = some u
/-- What the mirror lays. -/
def newOf (m : Mem) (cs : List MV) (el : TypeId) : Mem := m.new (.cells (rowT cs 0 .leaf) cs.length el false 0)
def LaysM (P : Program) (e : Env) (m : Mem) (v : MV) (m' : Mem) (s : (Operand → Value) → Sem Value) : Prop :=
  ∃ cs el f, v = f m.next ∧ m' = newOf m cs el ∧ ∀ μ w ρ, Opn P μ e ρ → Lays P μ w cs el f (s ρ)

theorem opAlloc_lays {t : TypeId} {v : MV} (hv : opAlloc P t m = .val v m') : LaysM P e m v m' (fun _ => Instr.alloc t true (.tuple #[])) := by
  unfold opAlloc at hv
  cases hz : zeroT P t with
  | none => rw [hz] at hv; cases hv
  | some z =>
    rw [hz] at hv
    simp only [newRowK_eq] at hv
    cases hv
    refine ⟨z.cells, t, fun b => .ptr b 0, rfl, rfl, fun μ w ρ _ => ?_⟩
    obtain ⟨u, h1, h2, _⟩ := zero_run (w := w) hz
    have h3 := tr_cells (h2 μ)
    refine ⟨_, [], (0, 0), .pointer (some ⟨w.heap.size, 0, none⟩), w.alloc (.cells u.cells t), h3, ?_, by show w.heap.push _ = w.heap.push _; simp, ⟨rfl, rfl, rfl⟩, fun i _ => by omega, fun b μ' hb => ?_⟩
    · simp [Instr.alloc, h1, newVar, newRow, run_newObj']
    · simp only [tr, hb]
theorem opBox_lays {t : TypeId} {x : Operand} {v : MV} (hv : opBox P e t x m = .val v m') : LaysM P e m v m' (fun ρ => Instr.box t (ρ x)) := by
  unfold opBox at hv
  cases hx : ops? P e x with
  | none => rw [hx] at hv; cases hv
  | some z =>
    rw [hx] at hv
    simp only [newRowK_eq] at hv
    cases hv
    refine ⟨z.cells, t, fun b => .ptr b 0, rfl, rfl, fun μ w ρ ho => ?_⟩
    have h3 := tr_cells (ho x z hx)
    refine ⟨_, [], (0, 0), .pointer (some ⟨w.heap.size, 0, none⟩), w.alloc (.cells (ρ x).cells t), h3, ?_, by show w.heap.push _ = w.heap.push _; simp, ⟨rfl, rfl, rfl⟩, fun i _ => by omega, fun b μ' hb => ?_⟩
    · simp [Instr.box, newVar, newRow, run_newObj']
    · simp only [tr, hb]

theorem opBuildSlice_lays {t : TypeId} {n : Nat} {ps : Array (Nat × Operand)} {v : MV} (hv : opBuildSlice P e t n ps.toList m = .val v m') :
    LaysM P e m v m' (fun ρ => Instr.buildSlice t n (ps.map fun (i, x) => (i, ρ x))) := by
  unfold opBuildSlice at hv
  cases ht : P.underlying t with
  | none => rw [ht] at hv; cases hv
  | some td =>
    cases hp : opsP P e ps.toList with
    | none => rw [ht, hp] at hv; cases td <;> cases hv
    | some qs =>
      rw [ht, hp] at hv
      cases td with
      | slice el =>
        simp only [] at hv
        cases hs : sizeT P el with
        | none => rw [hs] at hv; cases hv
        | some s =>
          cases hz : zeroT P el with
          | none => rw [hs, hz] at hv; cases hv
          | some z =>
            simp only [hs, hz] at hv
            cases hc : (Nat.ble (n * s) 16777216 && Nat.beq z.cells.length s) with
            | false => rw [hc] at hv; cases hv
            | true =>
              simp only [hc] at hv
              obtain ⟨c1, c2⟩ := Bool.and_eq_true_iff.1 hc
              have d1 := Nat.le_of_ble_eq_true c1
              have d2 := Nat.eq_of_beq_eq_true c2
              cases hfl : fillM (fun i => some (i * s, s)) (List.replicate n z.cells).flatten qs with
              | none => rw [hfl] at hv; cases hv
              | some cs =>
                simp only [hfl, newRowK_eq] at hv
                cases hv
                refine ⟨cs, el, fun b => .sl b 0 n n s true, rfl, rfl, fun μ w ρ ho => ?_⟩
                obtain ⟨zv, z1, z2, i, z3, z4⟩ := zero_run (w := w) hz
                have hzc := tr_cells (z2 μ)
                have hzl : zv.cells.size = s := by rw [← d2, ← trs_length hzc]; simp
                have hps := opsP_sound ho hp
                obtain ⟨r, r1, r2⟩ := fill_sound (us := (List.replicate n zv.cells.toList).flatten.toArray) hps (trs_zeros hzc n) hfl
                have hrl := fill_len hfl
                rw [flatten_len d2] at hrl
                have hheap : (w.alloc (.cells r el)).heap = w.heap.push (.cells (r.toList ++ []).toArray el (0, 0)) := by simp; rfl
                refine ⟨_, [], (0, 0), .slice (some ⟨w.heap.size, 0, none⟩) n n, _, r2, ?_, hheap, ⟨rfl, rfl, rfl⟩, fun i _ => by omega, fun b μ' hb => ?_⟩
                · have hsmall : ¬ (16777216 < n * s) := by omega
                  by_cases hn0 : n * s = 0
                  · have hr0 : (List.replicate n zv.cells.toList).flatten.toArray = #[] := by
                      have : (List.replicate n zv.cells.toList).flatten.length = 0 := by
                        have := trs_length (trs_zeros hzc n)
                        rw [this, flatten_len d2, hn0]
                      rw [List.length_eq_zero_iff.1 this]
                    rw [hr0] at r1
                    have r1' : Instr.fill (fun i => some (i * s, s)) #[] (List.map (fun x => (x.fst, ρ x.snd)) ps.toList) = some r := r1
                    have hd : Array.map (fun _ => (default : Value)) (Array.range 0) = #[] := by simp
                    simp [Instr.buildSlice, run_underlying ht, size_run hs, hn0, newRow]
                    rw [hd, r1']
                    simp
                  · have hzz := zeros_list zv.cells n
                    rw [hzl] at hzz
                    rw [← hzz] at r1
                    simp [Instr.buildSlice, run_underlying ht, size_run hs, hn0, newRow, hsmall, z1, hzl, r1]
                · rw [tr_sl_mk hb (Nat.le_refl _)]
      | _ => cases hv

theorem makeSl_lays {t : TypeId} {l c : Operand} {x y v : MV} (hx : ops? P e l = some x) (hy : ops? P e c = some y) (hv : makeSl P t x y m = .val v m') :
    LaysM P e m v m' (fun ρ => Instr.makeSlice t (ρ l) (ρ c)) := by
  unfold makeSl at hv
  cases ht : P.underlying t with
  | none => rw [ht] at hv; cases hv
  | some td =>
    rw [ht] at hv
    cases td with
    | slice el =>
      simp only [] at hv
      split at hv
      · rename_i kl a kc b
        cases hs : sizeT P el with
        | none => rw [hs] at hv; cases hv
        | some s =>
          cases hb : bytesT P el with
          | none => rw [hs, hb] at hv; cases hv
          | some by_ =>
            cases hz : zeroT P el with
            | none => rw [hs, hb, hz] at hv; cases hv
            | some z =>
              simp only [hs, hb, hz] at hv
              cases hc : (Nat.ble a b && Nat.ble (by_ * b) 140737488355328 && Nat.ble (b * s) 16777216 && Nat.beq z.cells.length s && Nat.ble b 140737488355328) with
              | false => rw [hc] at hv; cases hv
              | true =>
                simp only [hc, newRowK_eq] at hv
                cases hv
                refine ⟨(List.replicate b z.cells).flatten, el, fun k => .sl k 0 a b s true, rfl, rfl, fun μ w ρ ho => ?_⟩
                show Lays P μ w _ el _ (Instr.makeSlice t (ρ l) (ρ c))
                rw [tr_int_inv (ho l _ hx), tr_int_inv (ho c _ hy)]
                simp only [Bool.and_eq_true] at hc
                obtain ⟨⟨⟨⟨c1, c2⟩, c3⟩, c4⟩, c5⟩ := hc
                have d1 := Nat.le_of_ble_eq_true c1
                have d2 := Nat.le_of_ble_eq_true c2
                have d4 := Nat.eq_of_beq_eq_true c4
                have d5 := Nat.le_of_ble_eq_true c5
                obtain ⟨zv, z1, z2, i, z3, z4⟩ := zero_run (w := w) hz
                have hzc := tr_cells (z2 μ)
                have hzl : zv.cells.size = s := by rw [← d4, ← trs_length hzc]; simp
                obtain ⟨i2, i3, i4⟩ := bytes_info hb
                rw [z3] at i3
                cases i3
                subst i4
                have hzz := zeros_list zv.cells b
                rw [hzl] at hzz
                have hheap : (w.alloc (.cells (List.replicate b zv.cells.toList).flatten.toArray el)).heap = w.heap.push (.cells ((List.replicate b zv.cells.toList).flatten ++ []).toArray el (0, 0)) := by simp; rfl
                refine ⟨_, [], (0, 0), .slice (some ⟨w.heap.size, 0, none⟩) a b, _, trs_zeros hzc b, ?_, hheap, ⟨rfl, rfl, rfl⟩, fun i _ => by omega, fun b' μ' hb => ?_⟩
                · have w1 : IntKind.i64.wrap (a : Int) = (a : Int) := wrap_small (by omega)
                  have w2 : IntKind.i64.wrap (b : Int) = (b : Int) := wrap_small (by omega)
                  have q1 : ¬ (281474976710656 < (i.bytes : Int) * (b : Int)) := by
                    have : ((i.bytes * b : Nat) : Int) ≤ 140737488355328 := by omega
                    simp only [Int.natCast_mul] at this
                    omega
                  have q2 : ¬ ((b : Int) < 0) := by omega
                  have q3 : ¬ ((a : Int) < 0) := by omega
                  have q4 : ¬ ((b : Int) < (a : Int)) := by omega
                  have q4' : ¬ (b < a) := by omega
                  by_cases hn0 : b * s = 0
                  · have hr0 : (List.replicate b zv.cells.toList).flatten.toArray = #[] := by
                      have : (List.replicate b zv.cells.toList).flatten.length = 0 := by
                        have := trs_length (trs_zeros hzc b)
                        rw [this, flatten_len d4, hn0]
                      rw [List.length_eq_zero_iff.1 this]
                    have hd : Array.map (fun _ => (default : Value)) (Array.range 0) = #[] := by simp
                    rw [hr0]
                    simp [Instr.makeSlice, run_underlying ht, size_run hs, newRow, w1, w2, q1, q2, q3, q4, q4', z3, asInt, asIntOf, typeInfo, hn0]
                    rw [hd]
                  · simp [Instr.makeSlice, run_underlying ht, size_run hs, newRow, z1, hzl, hzz, w1, w2, q1, q2, q3, q4, q4', z3, asInt, asIntOf, typeInfo, hn0]
                · rw [tr_sl_mk hb d1]
      · cases hv
    | _ => cases hv
theorem convSl_lays {s d el : TypeId} {x : Operand} {y v : MV} (hs : P.underlying s = some .string) (hd : P.underlying d = some (.slice el)) (hx : ops? P e x = some y) (hv : convToSlice P el y m = .val v m') :
    LaysM P e m v m' (fun ρ => convert s d (ρ x)) := by
  unfold convToSlice at hv
  cases y with
  | str l =>
    simp only [] at hv
    split at hv
    · rename_i he hsz
      simp only [convBytes, rowK_eq, Mem.newK_eq] at hv
      have hln : (l.map byteMV).length = l.length := by simp
      rw [← hln] at hv
      cases hv
      refine ⟨l.map byteMV, el, fun b => .sl b 0 (l.map byteMV).length (l.map byteMV).length 1 false, rfl, rfl, fun μ w ρ ho => ?_⟩
      show Lays P μ w _ el _ (convert s d (ρ x))
      rw [tr_str_inv (ho x _ hx)]
      have hrun := run_bytes_of_string w s d el ⟨⟨l⟩⟩ hs hd he
      have hsize : ByteArray.size ⟨⟨l⟩⟩ = l.length := rfl
      rw [hsize, bytesRow_list] at hrun
      have hge := grown_ge w l.length 0 el
      refine ⟨_, List.replicate (grownCap w l.length 0 el - l.length) (Value.int .u8 0), _, _, _, trs_bytes μ l, hrun, rfl, ⟨rfl, rfl, rfl⟩, fun i hi => by simp only [List.size_toArray, List.length_append]; omega, fun b μ' hb => ?_⟩
      rw [tr_sl_mk' hb (Nat.le_refl _) (by show 0 + (l.map byteMV).length * 1 = (l.map byteMV).length; omega) (by decide) (Nat.mod_one _)]
      simp only [List.length_replicate, Nat.div_one, Nat.add_zero, hln]
      congr 2
      omega
    · rename_i he hsz
      simp only [convRunes, rowK_eq, Mem.newK_eq] at hv
      cases hv
      refine ⟨runesM l l.length 0, el, fun b => .sl b 0 (runesM l l.length 0).length (runesM l l.length 0).length 1 false, rfl, rfl, fun μ w ρ ho => ?_⟩
      show Lays P μ w _ el _ (convert s d (ρ x))
      rw [tr_str_inv (ho x _ hx)]
      obtain ⟨us, r1, r2⟩ := runes_sound l l.length 0 #[] μ
      have hln := trs_length r1
      have hrun := runes_run w s d el ⟨⟨l⟩⟩ hs hd he
      have hsize : ByteArray.size ⟨⟨l⟩⟩ = l.length := rfl
      rw [hsize, r2] at hrun
      have hsz' : ((#[] : Array Value) ++ us.toArray).size = (runesM l l.length 0).length := by simp [hln]
      rw [hsz'] at hrun
      have hge := grown_ge w (runesM l l.length 0).length 0 el
      refine ⟨_, List.replicate (grownCap w (runesM l l.length 0).length 0 el - (runesM l l.length 0).length) (Value.int .i32 0), (0, 0), _, _, r1, hrun, ?_, ⟨rfl, rfl, rfl⟩, fun i hi => by omega, fun b μ' hb => ?_⟩
      · show w.heap.push _ = _
        congr 2
        apply Array.ext'
        simp
      rw [tr_sl_mk' hb (Nat.le_refl _) (by show 0 + (runesM l l.length 0).length * 1 = (runesM l l.length 0).length; omega) (by decide) (Nat.mod_one _)]
      simp only [List.length_replicate, Nat.div_one, Nat.add_zero]
      congr 2
      omega
    · cases hv
  | _ => cases hv


theorem kd_call (c : Call) : kd P (.call c) ≠ .alloc := by
  intro hk
  obtain ⟨callee, args, ts⟩ := c
  cases callee with
  | value f => cases hk
  | invoke r n => cases hk
  | builtin b =>
    cases b <;> first | (cases hk; done) | skip
    simp only [kd] at hk
    split at hk
    · split at hk <;> cases hk
    · cases hk

/-- AN OPERATION THAT LAYS A NEW ROW, AND DOES NO MORE. -/
theorem alloc_lays {o : Oper} {v : MV} (hk : kd P o.op = .alloc) (hv : evOp P X call yl e o.op m = .val v m') :
    ∃ s : (Operand → Value) → Sem Value, (∀ ρ, execOp ρ o = do pure (.value (← s ρ))) ∧ LaysM P e m v m' s := by
  cases hop : o.op with
  | alloc t => rw [hop] at hv; exact ⟨_, fun ρ => by simp only [execOp, hop], opAlloc_lays (t := t) (plain_val hv)⟩
  | box t x => rw [hop] at hv; exact ⟨_, fun ρ => by simp only [execOp, hop], opBox_lays (t := t) (x := x) (plain_val hv)⟩
  | buildSlice t n ps => rw [hop] at hv; exact ⟨_, fun ρ => by simp only [execOp, hop], opBuildSlice_lays (t := t) (n := n) (ps := ps) (plain_val hv)⟩
  | makeSlice t l c =>
    rw [hop] at hv
    obtain ⟨y, z, h1, h2, h3⟩ := op2_inv (x := l) (z := c) (plain_val hv)
    exact ⟨_, fun ρ => by simp only [execOp, hop], makeSl_lays h1 h2 h3⟩
  | convert s d x =>
    rw [hop] at hv hk
    obtain ⟨y, h1, h2⟩ := op1_inv (x := x) (plain_val hv)
    have : P.underlying s = some .string ∧ ∃ el, P.underlying d = some (.slice el) := by
      simp only [kd] at hk
      cases hs : P.underlying s with
      | none => rw [hs] at hk; cases hk
      | some ts =>
        rw [hs] at hk
        cases ts with
        | string =>
          cases hd : P.underlying d with
          | none => rw [hd] at hk; cases hk
          | some td =>
            rw [hd] at hk
            cases td with
            | slice el => exact ⟨rfl, el, rfl⟩
            | _ => cases hk
        | _ => cases hk
    obtain ⟨hs, el, hd⟩ := this
    simp only [convM, hs, hd] at h2
    exact ⟨_, fun ρ => by simp only [execOp, hop], convSl_lays hs hd h1 h2⟩
  | _ => rw [hop] at hk; first | (cases hk; done) | exact absurd hk (kd_call _)
end
end
end Go.Mir
