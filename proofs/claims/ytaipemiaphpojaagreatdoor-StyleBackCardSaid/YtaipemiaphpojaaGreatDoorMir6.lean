/- The mirror, part 6 of 8: a deterministic evaluator of the code, which the kernel runs, and the proof that what it says of a call, the machine does, in every memory and on every tape. No condition. -/
import Derived.Test.YtaipemiaphpojaaGreatDoorMir5
import Derived.RecoverIn
import Derived.Below
import Derived.OpenShut
import Derived.ChangeArms
import Derived.ChangeSame
import Derived.Handed
import Derived.FnData
import GoSem.ClaimJoined

/-! THE MIRROR, LAWS 29: code. -/
namespace Go.Mir
noncomputable section

/-- Of which round: the mirror's loop, the machine's. -/
def RdR (μ : Mp) : Option Nat → Option Nat → Prop
  | none, none => True
  | some l, some r => ∃ x, μ l = some x ∧ x.r = r
  | _, _ => False
theorem RdR.mono {μ μ' : Mp} (h : μ.le μ') : ∀ {a b : Option Nat}, RdR μ a b → RdR μ' a b
  | none, none, _ => trivial
  | some _, some _, ⟨x, h1, h2⟩ => ⟨x, h _ _ h1, h2⟩

/-- What the walk of code must come to. -/
def wpX (F : Fence) (n : Nat) (P : Program) (c : Code) (Q : Exit → Act → World → Prop) (a : Act) (w : World) : Prop :=
  match c with
  | .loop b => InLoop F n P b Q a w
  | c => c.wpIn F n P Q a w
theorem wpX.wpIn {F : Fence} {n : Nat} {P : Program} {c : Code} {Q : Exit → Act → World → Prop} {a : Act} {w : World} (h : wpX F n P c Q a w) : c.wpIn F n P Q a w := by
  cases c with
  | loop b => exact InLoop.wpIn h
  | _ => exact h

abbrev Evr := Option Nat → Code → Env → List MD → Mem → CR
/-- The continuation's duty. -/
def Then (P : Program) (μ : Mp) (m : Mem) (w : World) (x : EX) (e' : Env) (ds' : List MD) (m' : Mem) (Q : Exit → Act → World → Prop) : Prop :=
  ∀ ex a' μ' w', ExR μ' x ex → ActR μ' e' ds' a' → Rel P μ' m' w' → Ext μ m w μ' m' w' → Q ex a' w'
structure EvS (P : Program) (ev : Evr) : Prop where
  nx : ∀ rd c e ds m x e' ds' m', ev rd c e ds m = .ok x e' ds' m' → m.next ≤ m'.next
  wp : ∀ rd c e ds m x e' ds' m', ev rd c e ds m = .ok x e' ds' m' → ∀ μ w r n a Q, RdR μ rd r → Rel P μ m w → ActR μ e ds a → Free μ m.next m'.next → Then P μ m w x e' ds' m' Q → wpX (Fc r) n P c Q a w

section
variable {P : Program} {X : Hook} {call : Caller} {yl : Yielder} {ev : Evr}

theorem rd_none {μ : Mp} {rd r : Option Nat} (h : RdR μ rd r) (hn : rd = none) : r = none := by
  subst hn
  cases r with
  | none => rfl
  | some r => exact h.elim

theorem Then.next {μ μ1 : Mp} {m m1 m' : Mem} {w w1 : World} {x : EX} {e' : Env} {ds' : List MD} {Q : Exit → Act → World → Prop} (h : Then P μ m w x e' ds' m' Q) (h0 : Rel P μ m w) (h1 : Rel P μ1 m1 w1) (hE : Ext μ m w μ1 m1 w1) (hf : Free μ m.next m'.next) : Then P μ1 m1 w1 x e' ds' m' Q :=
  fun ex a' μ' w' k1 k2 k3 k4 => h ex a' μ' w' k1 k2 k3 (Ext.trans h0.wf h1.wf hf hE k4)

theorem scopeK_next (hE : EvS P ev) {rd : Option Nat} {body : Code} : ∀ (k : Nat) {c : Code} {e : Env} {ds : List MD} {m : Mem} {x : EX} {e' : Env} {ds' : List MD} {m' : Mem}, scopeK (ev rd) body k c e ds m = .ok x e' ds' m' → m.next ≤ m'.next
  | 0, c, e, ds, m, x, e', ds', m', h => by cases h
  | k + 1, c, e, ds, m, x, e', ds', m', h => by
    unfold scopeK at h
    cases hev : ev rd c e ds m with
    | fail => rw [hev] at h; cases h
    | ok y e1 ds1 m1 =>
      have h1 := hE.nx _ _ _ _ _ _ _ _ _ hev
      rw [hev] at h
      cases y with
      | goto l =>
        simp only [] at h
        cases hl : findLabel body l with
        | some rest => rw [hl] at h; exact Nat.le_trans h1 (scopeK_next hE k h)
        | none => rw [hl] at h; cases h; exact h1
      | _ => cases h; exact h1

theorem scopeK_sound (hE : EvS P ev) {rd r : Option Nat} {n : Nat} {body : Code} {Q : Exit → Act → World → Prop} : ∀ (k : Nat) {c : Code} {e : Env} {ds : List MD} {m : Mem} {x : EX} {e' : Env} {ds' : List MD} {m' : Mem} {μ : Mp} {w : World} {a : Act},
    scopeK (ev rd) body k c e ds m = .ok x e' ds' m' → RdR μ rd r → Rel P μ m w → ActR μ e ds a → Free μ m.next m'.next → Then P μ m w x e' ds' m' Q → InScope (Fc r) n P body c Q a w
  | 0, c, e, ds, m, x, e', ds', m', μ, w, a, h, _, _, _, _, _ => by cases h
  | k + 1, c, e, ds, m, x, e', ds', m', μ, w, a, h, hrd, hR, ha, hf, hk => by
    refine inScope_step ?_
    unfold scopeK at h
    cases hev : ev rd c e ds m with
    | fail => rw [hev] at h; cases h
    | ok y e1 ds1 m1 =>
      rw [hev] at h
      have plain : (∀ l, y ≠ .goto l) → x = y ∧ e' = e1 ∧ ds' = ds1 ∧ m' = m1 → Code.wpIn (Fc r) n P c (ScopeP (Fc r) n P body Q) a w := by
        rintro hng ⟨rfl, rfl, rfl, rfl⟩
        refine (hE.wp _ _ _ _ _ _ _ _ _ hev μ w r n a _ hrd hR ha hf ?_).wpIn
        intro ex a' μ' w' k1 k2 k3 k4
        have := hk ex a' μ' w' k1 k2 k3 k4
        cases ex with
        | goto l => cases x <;> first | exact k1.elim | exact absurd rfl (hng _)
        | _ => exact this
      cases y with
      | goto l =>
        simp only [] at h
        cases hl : findLabel body l with
        | some rest =>
          rw [hl] at h
          have hn1 := scopeK_next hE k h
          refine (hE.wp _ _ _ _ _ _ _ _ _ hev μ w r n a _ hrd hR ha (hf.left hn1) ?_).wpIn
          intro ex a' μ' w' k1 k2 k3 k4
          cases ex with
          | goto l' =>
            obtain rfl : l = l' := k1
            show match findLabel body l with | some rest => InScope (Fc r) n P body rest Q a' w' | none => Q (.goto l) a' w'
            rw [hl]
            exact scopeK_sound hE k h (hrd.mono k4.le) k3 k2 (hf.right k4) (hk.next hR k3 k4 hf)
          | _ => exact k1.elim
        | none =>
          rw [hl] at h
          cases h
          refine (hE.wp _ _ _ _ _ _ _ _ _ hev μ w r n a _ hrd hR ha hf ?_).wpIn
          intro ex a' μ' w' k1 k2 k3 k4
          have := hk ex a' μ' w' k1 k2 k3 k4
          cases ex with
          | goto l' =>
            obtain rfl : l = l' := k1
            show match findLabel body l with | some rest => InScope (Fc r) n P body rest Q a' w' | none => Q (.goto l) a' w'
            rw [hl]
            exact this
          | _ => exact k1.elim
      | normal => cases h; exact plain (by intro l q; cases q) ⟨rfl, rfl, rfl, rfl⟩
      | exit i => cases h; exact plain (by intro l q; cases q) ⟨rfl, rfl, rfl, rfl⟩
      | ret => cases h; exact plain (by intro l q; cases q) ⟨rfl, rfl, rfl, rfl⟩
      | pan v => cases h; exact plain (by intro l q; cases q) ⟨rfl, rfl, rfl, rfl⟩

/-- What a range over a function must come to. -/
structure RangeS (P : Program) (rg : Option Nat → Operand → List Tmp → Code → Code → Env → List MD → Mem → CR) : Prop where
  nx : ∀ rd g ps a b e ds m x e' ds' m', rg rd g ps a b e ds m = .ok x e' ds' m' → m.next ≤ m'.next
  wp : ∀ rd g ps as b e ds m x e' ds' m', rg rd g ps.toList as b e ds m = .ok x e' ds' m' → ∀ μ w r n a Q, RdR μ rd r → Rel P μ m w → ActR μ e ds a → Free μ m.next m'.next → Then P μ m w x e' ds' m' Q → (Code.rangeFunc g ps as b).wpIn (Fc r) n P Q a w

/-- ONE STEP OF CODE. -/
theorem evStep_sound (hX : HookS P X) (hC : CallS P call) (hY : YieldS P yl) (hmix : P.follows .mixedOrders = true) (hE : EvS P ev) (hG : RangeS P (fun rd g ps a b e ds m => rangeM P call (ev rd) rd g ps a b e ds m)) (k : Nat) : EvS P (evStep P X call yl k ev) where
  nx := by
    intro rd c e ds m x e' ds' m' h
    cases c with
    | skip => cases h; exact Nat.le_refl _
    | label l => cases h; exact Nat.le_refl _
    | exit i => cases h; exact Nat.le_refl _
    | goto l => cases h; exact Nat.le_refl _
    | ret => cases h; exact Nat.le_refl _
    | region id ops d =>
      cases d with
      | false => exact evOps_next _ h
      | true => exact evDraw_next h
    | seq a b =>
      simp only [evStep] at h
      cases hev : ev rd a e ds m with
      | fail => rw [hev] at h; cases h
      | ok y e1 ds1 m1 =>
        have h1 := hE.nx _ _ _ _ _ _ _ _ _ hev
        rw [hev] at h
        cases y with
        | normal => exact Nat.le_trans h1 (hE.nx _ _ _ _ _ _ _ _ _ h)
        | _ => cases h; exact h1
    | cond c a b =>
      simp only [evStep] at h
      split at h
      · exact hE.nx _ _ _ _ _ _ _ _ _ h
      · exact hE.nx _ _ _ _ _ _ _ _ _ h
      · cases h
    | block id b =>
      simp only [evStep] at h
      cases hev : ev rd b e ds m with
      | fail => rw [hev] at h; cases h
      | ok y e1 ds1 m1 =>
        have h1 := hE.nx _ _ _ _ _ _ _ _ _ hev
        rw [hev] at h
        cases y with
        | exit i =>
          simp only [] at h
          cases hb : Nat.beq i id <;> (rw [hb] at h; cases h; exact h1)
        | _ => cases h; exact h1
    | loop b =>
      simp only [evStep] at h
      cases hev : ev rd b e ds m with
      | fail => rw [hev] at h; cases h
      | ok y e1 ds1 m1 =>
        have h1 := hE.nx _ _ _ _ _ _ _ _ _ hev
        rw [hev] at h
        cases y with
        | normal => exact Nat.le_trans h1 (hE.nx _ _ _ _ _ _ _ _ _ h)
        | _ => cases h; exact h1
    | scope b => exact scopeK_next hE k h
    | rangeFunc g ps a b => exact hG.nx _ _ _ _ _ _ _ _ _ _ _ _ h
    | refuse s => cases h
  wp := by
    intro rd c e ds m x e' ds' m' h μ w r n a Q hrd hR ha hf hk
    cases c with
    | skip => cases h; exact wpIn_skip (hk .normal a μ w trivial ha hR (Ext.refl _ _ _))
    | label l => cases h; exact wpIn_label (hk .normal a μ w trivial ha hR (Ext.refl _ _ _))
    | exit i => cases h; exact wpIn_exit (hk (.exit i) a μ w rfl ha hR (Ext.refl _ _ _))
    | goto l => cases h; exact wpIn_goto (hk (.goto l) a μ w rfl ha hR (Ext.refl _ _ _))
    | ret => cases h; exact wpIn_ret (hk .ret a μ w trivial ha hR (Ext.refl _ _ _))
    | region id ops d =>
      cases d with
      | false => exact wpIn_region_list (evOps_sound hX hC hY (rd_none hrd) _ hR ha hf h hk)
      | true => exact evDraw_sound hX hC hY hmix hR ha hf h hk
    | seq x1 y1 =>
      simp only [evStep] at h
      refine wpIn_seq ?_
      cases hev : ev rd x1 e ds m with
      | fail => rw [hev] at h; cases h
      | ok y e1 ds1 m1 =>
        rw [hev] at h
        cases y with
        | normal =>
          have hn1 := hE.nx _ _ _ _ _ _ _ _ _ h
          refine (hE.wp _ _ _ _ _ _ _ _ _ hev μ w r n a _ hrd hR ha (hf.left hn1) ?_).wpIn
          intro ex a' μ' w' k1 k2 k3 k4
          cases ex with
          | normal => exact (hE.wp _ _ _ _ _ _ _ _ _ h μ' w' r n a' Q (hrd.mono k4.le) k3 k2 (hf.right k4) (hk.next hR k3 k4 hf)).wpIn
          | _ => exact k1.elim
        | _ =>
          cases h
          refine (hE.wp _ _ _ _ _ _ _ _ _ hev μ w r n a _ hrd hR ha hf ?_).wpIn
          intro ex a' μ' w' k1 k2 k3 k4
          have := hk ex a' μ' w' k1 k2 k3 k4
          cases ex with
          | normal => exact k1.elim
          | _ => exact this
    | cond c x1 y1 =>
      simp only [evStep] at h
      have ho := opn_of hR ha.env
      split at h
      · rename_i hc
        exact wpIn_cond_true (tr_bool_inv (ho c _ hc)) (hE.wp _ _ _ _ _ _ _ _ _ h μ w r n a Q hrd hR ha hf hk).wpIn
      · rename_i hc
        exact wpIn_cond_false (tr_bool_inv (ho c _ hc)) (hE.wp _ _ _ _ _ _ _ _ _ h μ w r n a Q hrd hR ha hf hk).wpIn
      · cases h
    | block id b =>
      simp only [evStep] at h
      refine wpIn_block ?_
      cases hev : ev rd b e ds m with
      | fail => rw [hev] at h; cases h
      | ok y e1 ds1 m1 =>
        rw [hev] at h
        cases y with
        | exit i =>
          simp only [] at h
          cases hb : Nat.beq i id with
          | true =>
            obtain rfl := Nat.eq_of_beq_eq_true hb
            rw [hb] at h
            cases h
            refine (hE.wp _ _ _ _ _ _ _ _ _ hev μ w r n a _ hrd hR ha hf ?_).wpIn
            intro ex a' μ' w' k1 k2 k3 k4
            cases ex with
            | exit j =>
              obtain rfl : i = j := k1
              simp only [Exit.inBlock, if_true]
              exact hk .normal a' μ' w' trivial k2 k3 k4
            | _ => exact k1.elim
          | false =>
            have hne : ¬ i = id := by rintro rfl; rw [Nat.beq_refl] at hb; cases hb
            rw [hb] at h
            cases h
            refine (hE.wp _ _ _ _ _ _ _ _ _ hev μ w r n a _ hrd hR ha hf ?_).wpIn
            intro ex a' μ' w' k1 k2 k3 k4
            cases ex with
            | exit j =>
              obtain rfl : i = j := k1
              simp only [Exit.inBlock, if_neg hne]
              exact hk (.exit i) a' μ' w' rfl k2 k3 k4
            | _ => exact k1.elim
        | _ =>
          cases h
          refine (hE.wp _ _ _ _ _ _ _ _ _ hev μ w r n a _ hrd hR ha hf ?_).wpIn
          intro ex a' μ' w' k1 k2 k3 k4
          have := hk ex a' μ' w' k1 k2 k3 k4
          cases ex with
          | exit j => exact k1.elim
          | _ => exact this
    | loop b =>
      simp only [evStep] at h
      refine inLoop_step ?_
      cases hev : ev rd b e ds m with
      | fail => rw [hev] at h; cases h
      | ok y e1 ds1 m1 =>
        rw [hev] at h
        cases y with
        | normal =>
          have hn1 := hE.nx _ _ _ _ _ _ _ _ _ h
          refine (hE.wp _ _ _ _ _ _ _ _ _ hev μ w r n a _ hrd hR ha (hf.left hn1) ?_).wpIn
          intro ex a' μ' w' k1 k2 k3 k4
          cases ex with
          | normal => exact hE.wp _ _ _ _ _ _ _ _ _ h μ' w' r n a' Q (hrd.mono k4.le) k3 k2 (hf.right k4) (hk.next hR k3 k4 hf)
          | _ => exact k1.elim
        | _ =>
          cases h
          refine (hE.wp _ _ _ _ _ _ _ _ _ hev μ w r n a _ hrd hR ha hf ?_).wpIn
          intro ex a' μ' w' k1 k2 k3 k4
          have := hk ex a' μ' w' k1 k2 k3 k4
          cases ex with
          | normal => exact k1.elim
          | _ => exact this
    | scope b => exact (scopeK_sound hE k h hrd hR ha hf hk).wpIn
    | rangeFunc g ps as b => exact hG.wp _ _ _ _ _ _ _ _ _ _ _ _ h μ w r n a Q hrd hR ha hf hk
    | refuse s => cases h
end
end
end Go.Mir

/-! THE MIRROR, LAWS 30: leaving a function. -/
namespace Go.Mir
noncomputable section
section
variable {P : Program} {μ μ' : Mp} {m m' : Mem} {w w' : World} {e : Env} {X : Hook} {call : Caller} {yl : Yielder} {K : Masks}

def resOne (tmps : Array Value) (r : ResultVar) : Sem Value := match r with
  | .tmp t => pure (tmps.getD t undef)
  | .cell a t => do loadVar t (← asAddr (tmps.getD a undef))
theorem resGo_sound (h : Rel P μ m w) {tmps : Array Value} (he : EnvR μ e tmps) : ∀ (l : List ResultVar) {vs : List MV}, results?.go P e m l = some vs →
    ∃ us, trs μ vs = some us ∧ (l.mapM (resOne tmps)).run P w = .ok us w
  | [], vs, hv => by
    simp only [results?.go, Option.some.injEq] at hv
    subst hv
    exact ⟨[], rfl, by simp⟩
  | .tmp t :: l, vs, hv => by
    simp only [results?.go] at hv
    cases ht : e.get t with
    | none => rw [ht] at hv; cases hv
    | some v =>
      rw [ht] at hv
      simp only [] at hv
      cases hl : results?.go P e m l with
      | none => rw [hl] at hv; cases hv
      | some vs' =>
        rw [hl] at hv
        cases hv
        obtain ⟨u, h1, h2⟩ := he.2 t v ht
        obtain ⟨us, h3, h4⟩ := resGo_sound h he l hl
        refine ⟨u :: us, trs_mk h2 h3, ?_⟩
        have hg : tmps.getD t undef = u := by rw [Array.getD_eq_getD_getElem?, h1]; rfl
        simp [List.mapM_cons, h4, resOne, hg]
  | .cell a t :: l, vs, hv => by
    simp only [results?.go] at hv
    cases ht : e.get a with
    | none => rw [ht] at hv; cases hv
    | some v =>
      rw [ht] at hv
      cases v with
      | ptr b off =>
        simp only [] at hv
        cases hld : loadV P m t b off with
        | none => rw [hld] at hv; cases hv
        | some y =>
          rw [hld] at hv
          simp only [] at hv
          cases hl : results?.go P e m l with
          | none => rw [hl] at hv; cases hv
          | some vs' =>
            rw [hl] at hv
            cases hv
            obtain ⟨u, h1, h2⟩ := he.2 a _ ht
            obtain ⟨x, hb, rfl⟩ := tr_ptr_inv h2
            obtain ⟨z, k1, k2⟩ := h.loadVar hb hld
            obtain ⟨us, h3, h4⟩ := resGo_sound h he l hl
            refine ⟨z :: us, trs_mk k2 h3, ?_⟩
            have hg : tmps.getD a undef = .pointer (some ⟨x.r, x.sh + off, none⟩) := by rw [Array.getD_eq_getD_getElem?, h1]; rfl
            simp [List.mapM_cons, h4, resOne, hg, asAddr, k1]
      | _ => cases hv

theorem results_sound (h : Rel P μ m w) {fn : Func} {tmps : Array Value} (he : EnvR μ e tmps) {v : MV} (hv : results? P fn e m = some v) : ∃ u, tr μ v = some u ∧ (results fn tmps).run P w = .ok u w := by
  unfold results? at hv
  have key : ∃ vs, results?.go P e m fn.results.toList = some vs := by
    cases hg : results?.go P e m fn.results.toList with
    | none => rw [hg] at hv; cases hv
    | some vs => exact ⟨vs, rfl⟩
  obtain ⟨vs, hg⟩ := key
  rw [hg] at hv
  obtain ⟨us, h1, h2⟩ := resGo_sound h he _ hg
  have hrun : (results fn tmps).run P w = .ok (if h : us.toArray.size = 1 then us.toArray[0] else .tuple us.toArray) w := by
    have e1 : results fn tmps = (do let vs ← fn.results.mapM (resOne tmps); pure (if h : vs.size = 1 then vs[0] else .tuple vs)) := rfl
    rw [e1, Array.mapM_eq_mapM_toList]
    simp [h2]
  refine ⟨_, ?_, hrun⟩
  match vs, us, h1, hv with
  | [v'], us, h1, hv =>
    obtain ⟨u, us', rfl, k1, k2⟩ := trs_cons h1
    have := trs_nil k2
    subst this
    cases hv
    simpa using k1
  | [], us, h1, hv =>
    have := trs_nil h1
    subst this
    cases hv
    simp [tr, trs]
  | v1 :: v2 :: vs, us, h1, hv =>
    obtain ⟨u1, us', rfl, k1, k2⟩ := trs_cons h1
    obtain ⟨u2, us'', rfl, k3, k4⟩ := trs_cons k2
    cases hv
    have : ¬ ((u1 :: u2 :: us'').toArray.size = 1) := by simp
    rw [dif_neg this]
    exact tr_tup h1

/-- An object turned whole. -/
def World.turn (w : World) (r : Nat) (o : Obj) : World := { w with heap := w.heap.setIfInBounds r o }
theorem run_turn {r : Nat} {o ob : Obj} (h : w.heap[r]? = some ob) (hc : ∀ c e lh, ob ≠ .cells c e lh) : (setObj r o).run P w = .ok () (World.turn w r o) := by
  unfold setObj
  simp only [Sem.run, h]
  cases ob with
  | cells c e lh => exact absurd rfl (hc c e lh)
  | _ => rfl
theorem turn_sound (h : Rel P μ m w) {b : Nat} {x : Pl} {o o' : MO} {ob : Obj} (hb : μ b = some x) (hg : m.get b = some o) (hd : o ≠ .dead) (h1 : wrO o = true) (h2 : wrO o' = true) (hrel : rel1 μ o' x ob) :
    Rel P μ (m.put b o') (World.turn w x.r ob) ∧ Ext μ m w μ (m.put b o') (World.turn w x.r ob) := by
  have hlt := h.lt b x hb
  have hs : (World.turn w x.r ob).heap.size = w.heap.size := Array.size_setIfInBounds
  have hold : ∀ k, k ≠ x.r → (World.turn w x.r ob).heap[k]? = w.heap[k]? := fun k hk => Array.getElem?_setIfInBounds_ne (fun q => hk q.symm)
  have hnew : (World.turn w x.r ob).heap[x.r]? = some ob := Array.getElem?_setIfInBounds_self_of_lt hlt
  exact ⟨h.put hb hg hd hs hold hnew hrel, Ext.put h hb hg h1 h2 ⟨rfl, rfl, rfl⟩ hs hold⟩

theorem mark_sound (h : Rel P μ m w) {b : Nat} {x : Pl} (hb : μ b = some x) (hg : m.get b = some (.dblk true)) :
    ∃ w', (Instr.takeDeferred x.r).run P w = .ok [] w' ∧ Rel P μ (m.put b (.dblk false)) w' ∧ Ext μ m w μ (m.put b (.dblk false)) w' := by
  obtain ⟨ob, h1, h2⟩ := h.blk b x _ hb hg
  obtain ⟨hsh, rfl⟩ := h2
  obtain ⟨k1, k2⟩ := turn_sound h hb hg (by intro q; cases q) rfl rfl (o' := .dblk false) (ob := .deferred none) ⟨hsh, rfl⟩
  refine ⟨_, ?_, k1, k2⟩
  have hget : (getObj x.r).run P w = .ok (.deferred (some [])) w := by
    have h1 : w.heap[x.r]? = some (.deferred (some [])) := h1
    simp [getObj, Sem.run, h1]
  simp only [Instr.takeDeferred, Sem.run_bind, hget, Result.andThen_ok, run_turn h1 (by intro c e lh q; cases q), Sem.run_pure]

/-- How a function is left. -/
def LmR (μ : Mp) : LM → FrameMode → Prop
  | .ret, .returning => True
  | .pan v, .panicking c => ∃ u, tr μ v = some u ∧ c = [{ v := u, recovered := false }]
  | .rec_ v, .panicking c => ∃ u, tr μ v = some u ∧ c = [{ v := u, recovered := true }]
  | _, _ => False
theorem LmR.mono (hle : μ.le μ') : ∀ {u : LM} {f : FrameMode}, LmR μ u f → LmR μ' u f
  | .ret, .returning, _ => trivial
  | .pan _, .panicking _, ⟨u, h1, h2⟩ => ⟨u, tr_mono hle h1, h2⟩
  | .rec_ _, .panicking _, ⟨u, h1, h2⟩ => ⟨u, tr_mono hle h1, h2⟩

/-- The operations of a deferred function keep names' count growing. -/
theorem dOps_next : ∀ (l : List Oper) {ops : Array Oper} {e : Env} {u : LM} {m : Mem} {e' : Env} {u' : LM} {m' : Mem}, dOps P X call yl ops l e u m = some (e', u', m') → m.next ≤ m'.next
  | [], ops, e, u, m, e', u', m', h => by
    simp only [dOps, Env.flushK_eq] at h
    cases h
    exact Nat.le_refl _
  | o :: os, ops, e, u, m, e', u', m', h => by
    have go : ∀ (d : Option Tmp) (v : MV) (u1 : LM) (m1 : Mem), (e.putK d v none fun e => dOps P X call yl ops os e u1 m1) = some (e', u', m') → m1.next ≤ m'.next := by
      intro d v u1 m1 hp
      rcases putK_inv (e := e) (d := d) (v := v) (bad := (none : Option (Env × LM × Mem))) (k := fun e => dOps P X call yl ops os e u1 m1) with q | ⟨e1, q, _⟩
      · rw [q] at hp; cases hp
      · rw [q] at hp; exact dOps_next os hp
    simp only [dOps] at h
    split at h
    · cases h
    · exact go _ _ _ _ h
    · split at h
      · split at h
        · exact go _ _ _ _ h
        · exact go _ _ _ _ h
      · cases h
      · cases h
      · split at h
        · rename_i v m1 _
          split at h
          · rename_i hb
            exact Nat.le_trans (Nat.le_of_ble_eq_true hb) (go _ _ _ _ h)
          · cases h
        · cases h

/-- An operation that calls no function runs to its end at once. -/
theorem evOp_runs (h : Rel P μ m w) (hf : Free μ m.next m'.next) {ρ : Operand → Value} (ho : Opn P μ e ρ) {o : Oper} {v : MV} (hb : ∀ c, o.op = .call c → ∃ b, c.callee = .builtin b) (hv : evOp P X call yl e o.op m = .val v m') : Runs P μ m w v m' (execOp ρ o) := by
  by_cases hp : plainOp o.op = true
  · rw [evOp_plain hp] at hv
    exact plain_sound h hf ho hp (plain_val hv)
  · cases hop : o.op with
    | call c =>
      rw [hop] at hv
      obtain ⟨b, hc⟩ := hb c hop
      simp only [evOp, opCall, hc] at hv
      cases ha : opsL P e c.args.toList with
      | none => rw [ha] at hv; cases hv
      | some args =>
        rw [ha] at hv
        have hv := plain_val hv
        have hus := opsL_sound ho ha
        have harr : (c.args.toList.map ρ).toArray = c.args.map ρ := by apply Array.ext'; simp
        have := builtin_sound (ty := o.type) (cs := c.args.map fun | .const _ => true | _ => false) h hf hus hv
        rw [harr] at this
        obtain ⟨u, w', μ', k1, k2⟩ := this
        refine ⟨u, w', μ', ?_, k2⟩
        have hrun : (execOp ρ o).run P w = (builtin b c.argTypes o.type (c.args.map fun | .const _ => true | _ => false) (c.args.map ρ)).run P w := by
          simp only [execOp, hop, resolve, hc, Sem.run_bind, Sem.run_pure, Result.andThen_ok, invoke]
          rfl
        rw [hrun]
        exact k1
    | defer c =>
      rw [hop] at hv
      exact absurd rfl (evOp_nodefer_val hv c)
    | panic x =>
      rw [hop] at hv
      simp only [evOp, opPanic] at hv
      split at hv <;> cases hv
    | nilCheck x => rw [hop] at hv; exact opNil_sound h ho hop (plain_val hv)
    | store t a x =>
      rw [hop] at hv
      obtain ⟨w', k1, rfl, k3, k4⟩ := opStore_sound h ho (t := t) (a := a) (x := x) (plain_val hv)
      refine ⟨undef, w', μ, .inr ⟨?_, rfl⟩, rfl, k3, k4⟩
      simp only [execOp, hop, Sem.run_bind, k1, Result.andThen_ok, Sem.run_pure]
    | _ => rw [hop] at hp; exact absurd rfl hp

theorem recover_run {ρ : Operand → Value} {o : Oper} {c : Call} (hop : o.op = .call c) (hc : c.callee = .builtin .recover) : (execOp ρ o).run P w = .ok .recover w := by
  simp only [execOp, hop, resolve, hc, Sem.run_bind, Sem.run_pure, Result.andThen_ok, invoke, builtin]

theorem dOps_sound {n : Nat} {ops : Array Oper} {c0 : Frame} {cs : List Frame} {Q : Exit → Act → List Frame → World → Prop} : ∀ (l : List Oper) (k : Nat), (∀ j : Nat, l[j]? = ops[k + j]?) → ∀ {e : Env} {u : LM} {m : Mem} {e' : Env} {u' : LM} {m' : Mem} {μ : Mp} {w : World} {a : Act} {fm : FrameMode},
    dOps P X call yl ops l e u m = some (e', u', m') → Rel P μ m w → EnvR μ e a.tmps → LmR μ u fm → Free μ m.next m'.next →
    (∀ a' μ' w' fm', a'.defers = a.defers → EnvR μ' e' a'.tmps → LmR μ' u' fm' → Rel P μ' m' w' → Ext μ m w μ' m' w' → Q .normal a' ({ c0 with mode := fm' } :: cs) w') →
    wpOpsSIn Fence.wide n P ops Q (List.range' k l.length) a ({ c0 with mode := fm } :: cs) w
  | [], k, hl, e, u, m, e', u', m', μ, w, a, fm, h, hR, he, hu, hf, hk => by
    simp only [dOps, Env.flushK_eq] at h
    cases h
    exact hk a μ w fm rfl he.flush hu hR (Ext.refl _ _ _)
  | o :: os, k, hl, e, u, m, e', u', m', μ, w, a, fm, h, hR, he, hu, hf, hk => by
    have h0 : ops[k]? = some o := by simpa using (hl 0).symm
    have hl' : ∀ j : Nat, os[j]? = ops[k + 1 + j]? := fun j => by have := hl (j + 1); simpa [Nat.add_assoc, Nat.add_comm 1 j] using this
    have ho := opn_of hR he
    have ha : ActR μ e [] { a with defers := [] } := ⟨he, trivial⟩
    -- on with the rest, a temporary laid
    have go : ∀ {v : MV} {uv : Value} {u1 : LM} {m1 : Mem} {μ1 : Mp} {w1 : World} {fm1 : FrameMode}, (e.putK o.dst v none fun e => dOps P X call yl ops os e u1 m1) = some (e', u', m') → tr μ1 v = some uv → LmR μ1 u1 fm1 → Rel P μ1 m1 w1 → Ext μ m w μ1 m1 w1 →
        wpOpsSIn Fence.wide n P ops Q (List.range' (k + 1) os.length) (a.put o.dst uv) ({ c0 with mode := fm1 } :: cs) w1 := by
      intro v uv u1 m1 μ1 w1 fm1 hp hv hu1 hR1 hE
      rcases putK_inv (e := e) (d := o.dst) (v := v) (bad := (none : Option (Env × LM × Mem))) (k := fun e => dOps P X call yl ops os e u1 m1) with q | ⟨e1, q, _, hd⟩
      · rw [q] at hp; cases hp
      · rw [q] at hp
        have he1 : EnvR μ1 e1 (a.put o.dst uv).tmps := by
          have := ((ha.mono hE.le).put hv hd).env
          cases hod : o.dst <;> (rw [hod] at this; exact this)
        exact dOps_sound os (k + 1) hl' hp hR1 he1 hu1 (hf.right hE) fun a' μ' w' fm' k1 k2 k3 k4 k5 => hk a' μ' w' fm' (k1.trans (put_defers a o.dst uv)) k2 k3 k4 (Ext.trans hR.wf hR1.wf hf hE k5)
    simp only [List.length_cons, List.range'_succ, wpOpsSIn, h0]
    refine ⟨fun _ _ => trivial, ?_⟩
    simp only [dOps] at h
    cases hw : wantM ops e o with
    | none => rw [hw] at h; cases h
    | some b =>
      rw [wantM_sound (a := a) he hw]
      rw [hw] at h
      cases b with
      | false =>
        rw [if_neg (by decide)]
        exact go h (uv := undef) rfl hu hR (Ext.refl _ _ _)
      | true =>
        rw [if_pos rfl]
        simp only [] at h
        split at h
        · rename_i args ts hop
          rw [recover_run hop rfl]
          simp only []
          split at h
          · rename_i v
            cases fm with
            | panicking c =>
              obtain ⟨uv, h1, rfl⟩ := hu
              simp only [recoverD]
              exact go h h1 (u1 := .rec_ v) (fm1 := .panicking [{ v := uv, recovered := true }]) ⟨uv, h1, rfl⟩ hR (Ext.refl _ _ _)
            | _ => exact hu.elim
          · rename_i hnp
            have hnone : recoverD ({ c0 with mode := fm } :: cs) = none := by
              cases u with
              | pan v => exact absurd rfl (hnp v)
              | ret => cases fm <;> first | rfl | exact hu.elim
              | rec_ v =>
                cases fm with
                | panicking c => obtain ⟨uv, h1, rfl⟩ := hu; rfl
                | _ => exact hu.elim
            rw [hnone]
            exact go h (uv := .nilIface) rfl hu hR (Ext.refl _ _ _)
        · cases h
        · cases h
        · rename_i hn1 hn2 hn3
          split at h
          · rename_i v m1 hev
            split at h
            · rename_i hble
              have hm1 : m1.next ≤ m'.next := by
                rcases putK_inv (e := e) (d := o.dst) (v := v) (bad := (none : Option (Env × LM × Mem))) (k := fun e => dOps P X call yl ops os e u m1) with q | ⟨e1, q, _⟩
                · rw [q] at h; cases h
                · rw [q] at h; exact dOps_next os h
              obtain ⟨uv, w1, μ1, k1, k2, k3, k4⟩ := evOp_runs hR (hf.left hm1) ho (fun c hc => by
                obtain ⟨callee, args, ts⟩ := c
                cases callee with
                | builtin b => exact ⟨b, rfl⟩
                | value f => exact absurd hc (hn2 f args ts)
                | invoke r nm => exact absurd hc (hn3 r nm args ts)) hev
              rcases k1 with k1 | ⟨k1, rfl⟩
              · rw [k1]
                exact go h k2 (hu.mono k4.le) k3 k4
              · rw [k1]
                exact go h k2 (hu.mono k4.le) k3 k4
            · cases h
          · cases h

theorem dCode_next : ∀ (k : Nat) {c : Code} {e : Env} {u : LM} {m : Mem} {x : EX} {e' : Env} {u' : LM} {m' : Mem}, dCode P X call yl k c e u m = some (x, e', u', m') → m.next ≤ m'.next
  | 0, c, e, u, m, x, e', u', m', h => by cases h
  | k + 1, c, e, u, m, x, e', u', m', h => by
    cases c with
    | skip => cases h; exact Nat.le_refl _
    | ret => cases h; exact Nat.le_refl _
    | region id ops d =>
      cases d with
      | true => cases h
      | false =>
        simp only [dCode] at h
        cases hd : dOps P X call yl ops ops.toList e u m with
        | none => rw [hd] at h; cases h
        | some q =>
          obtain ⟨e1, u1, m1⟩ := q
          rw [hd] at h
          cases h
          exact dOps_next _ hd
    | seq a b =>
      simp only [dCode] at h
      cases hd : dCode P X call yl k a e u m with
      | none => rw [hd] at h; cases h
      | some q =>
        obtain ⟨y, e1, u1, m1⟩ := q
        have h1 := dCode_next k hd
        rw [hd] at h
        cases y with
        | normal => exact Nat.le_trans h1 (dCode_next k h)
        | _ => cases h; exact h1
    | cond c a b =>
      simp only [dCode] at h
      split at h
      · exact dCode_next k h
      · exact dCode_next k h
      · cases h
    | _ => cases h

theorem dCode_sound {n : Nat} {c0 : Frame} {cs : List Frame} : ∀ (k : Nat) {c : Code} {e : Env} {u : LM} {m : Mem} {x : EX} {e' : Env} {u' : LM} {m' : Mem} {μ : Mp} {w : World} {a : Act} {fm : FrameMode} {Q : Exit → Act → List Frame → World → Prop},
    dCode P X call yl k c e u m = some (x, e', u', m') → Rel P μ m w → EnvR μ e a.tmps → LmR μ u fm → Free μ m.next m'.next →
    (∀ ex a' μ' w' fm', ExR μ' x ex → a'.defers = a.defers → EnvR μ' e' a'.tmps → LmR μ' u' fm' → Rel P μ' m' w' → Ext μ m w μ' m' w' → Q ex a' ({ c0 with mode := fm' } :: cs) w') →
    c.wpSIn Fence.wide n P Q a ({ c0 with mode := fm } :: cs) w
  | 0, c, e, u, m, x, e', u', m', μ, w, a, fm, Q, h, _, _, _, _, _ => by cases h
  | k + 1, c, e, u, m, x, e', u', m', μ, w, a, fm, Q, h, hR, he, hu, hf, hk => by
    cases c with
    | skip => cases h; exact wpSIn_of_wpIn rfl (wpIn_skip (hk .normal a μ w fm trivial rfl he hu hR (Ext.refl _ _ _)))
    | ret => cases h; exact wpSIn_of_wpIn rfl (wpIn_ret (hk .ret a μ w fm trivial rfl he hu hR (Ext.refl _ _ _)))
    | region id ops d =>
      cases d with
      | true => cases h
      | false =>
        simp only [dCode] at h
        cases hd : dOps P X call yl ops ops.toList e u m with
        | none => rw [hd] at h; cases h
        | some q =>
          obtain ⟨e1, u1, m1⟩ := q
          rw [hd] at h
          cases h
          refine wpSIn_region ?_
          rw [List.range_eq_range', ← Array.length_toList]
          exact dOps_sound ops.toList 0 (by simp) hd hR he hu hf fun a' μ' w' fm' k1 k2 k3 k4 k5 => hk .normal a' μ' w' fm' trivial k1 k2 k3 k4 k5
    | seq x1 y1 =>
      simp only [dCode] at h
      refine wpSIn_seq ?_
      cases hd : dCode P X call yl k x1 e u m with
      | none => rw [hd] at h; cases h
      | some q =>
        obtain ⟨y, e1, u1, m1⟩ := q
        rw [hd] at h
        cases y with
        | normal =>
          have hn1 := dCode_next k h
          refine dCode_sound k hd hR he hu (hf.left hn1) fun ex a' μ' w' fm' k1 k2 k3 k4 k5 k6 => ?_
          cases ex with
          | normal =>
            exact dCode_sound k h k5 k3 k4 (hf.right k6) fun ex2 a2 μ2 w2 fm2 j1 j2 j3 j4 j5 j6 => hk ex2 a2 μ2 w2 fm2 j1 (j2.trans k2) j3 j4 j5 (Ext.trans hR.wf k5.wf hf k6 j6)
          | _ => exact k1.elim
        | _ =>
          cases h
          refine dCode_sound k hd hR he hu hf fun ex a' μ' w' fm' k1 k2 k3 k4 k5 k6 => ?_
          have := hk ex a' μ' w' fm' k1 k2 k3 k4 k5 k6
          cases ex with
          | normal => exact k1.elim
          | _ => exact this
    | cond c x1 y1 =>
      simp only [dCode] at h
      have ho := opn_of (a := a) hR he
      split at h
      · rename_i hc
        exact wpSIn_cond (t := true) (tr_bool_inv (ho c _ hc)) (dCode_sound k h hR he hu hf hk)
      · rename_i hc
        exact wpSIn_cond (t := false) (tr_bool_inv (ho c _ hc)) (dCode_sound k h hR he hu hf hk)
      · cases h
    | _ => cases h
end
end
end Go.Mir

/-! THE MIRROR, LAWS 31: calls. -/
namespace Go.Mir
noncomputable section
section
variable {P : Program} {μ μ' : Mp} {m m' : Mem} {w w' : World} {e : Env} {X : Hook} {call : Caller} {yl : Yielder} {K : Masks}

theorem envL_find : ∀ (vs : List MV) (k : Nat) (l : EL) (i : Nat), EL.find i (envL vs k l) = if k ≤ i ∧ i < k + vs.length then vs[i - k]? else EL.find i l
  | [], k, l, i => by simp [envL]; intro h1 h2; omega
  | v :: vs, k, l, i => by
    rw [envL, envL_find vs (k + 1) (.cons k v l) i, EL.find_cons]
    by_cases h1 : k + 1 ≤ i ∧ i < k + 1 + vs.length
    · rw [if_pos h1, if_pos (by simp; omega), show i - k = (i - (k + 1)) + 1 by omega]
      simp
    · rw [if_neg h1]
      by_cases h2 : i = k
      · subst h2
        rw [if_pos rfl, if_pos (by simp)]
        simp
      · rw [if_neg h2, if_neg (by simp; omega)]

/-- A function's temporaries at its entry. -/
def envE (n mask : Nat) (args : List MV) : Env := Env.flush ⟨envL args 0 .nil, .leaf, n, mask⟩
theorem env0_eq {β : Type} (n mask : Nat) (args : List MV) (k : Env → β) : env0 n mask args k = k (envE n mask args) := Env.flushK_eq _ _
theorem envE_sound {args : List MV} {us : List Value} (hu : trs μ args = some us) (d mask : Nat) : EnvR μ (envE (args.length + d) mask args) (us.toArray ++ Array.replicate d undef) := by
  refine EnvR.flush ⟨?_, fun i v hv => ?_⟩
  · have := trs_length hu
    show args.length + d ≤ _
    simp [this]
  · rw [Env.get_def] at hv
    simp only [envL_find, T.get_leaf, EL.find_nil] at hv
    have hlen := trs_length hu
    by_cases hi : 0 ≤ i ∧ i < 0 + args.length
    · rw [if_pos hi] at hv
      simp only [Nat.sub_zero] at hv
      have hlt : i < args.length := by omega
      rw [List.getElem?_eq_getElem hlt] at hv
      simp only [Option.some.injEq] at hv
      obtain ⟨u, h1, h2⟩ := trs_get hu (List.getElem?_eq_getElem hlt)
      refine ⟨u, ?_, hv ▸ h2⟩
      rw [Array.getElem?_append_left (by simp; omega)]
      simpa using h1
    · rw [if_neg hi] at hv
      simp only [] at hv
      split at hv <;> cases hv

/-- What is asked of a call's outcome. -/
def OutR (P : Program) (μ : Mp) (m : Mem) (w : World) (res : CRes) (R : Ending → World → Prop) : Prop :=
  match res with
  | .ok v m' => ∀ u μ' w', tr μ' v = some u → Rel P μ' m' w' → Ext μ m w μ' m' w' → R (.returned u) w'
  | .pan v m' => ∀ u μ' w', tr μ' v = some u → Rel P μ' m' w' → Ext μ m w μ' m' w' → R (.panicked [{ v := u, recovered := false }]) w'
  | .fail => False
def CRes.free (μ : Mp) (m : Mem) : CRes → Prop
  | .ok _ m' => Free μ m.next m'.next
  | .pan _ m' => Free μ m.next m'.next
  | .fail => False
def CRes.up (m : Mem) : CRes → Prop
  | .ok _ m' => m.next ≤ m'.next
  | .pan _ m' => m.next ≤ m'.next
  | .fail => True
theorem CRes.up_le {res : CRes} (h : m.next ≤ m'.next) (k : res.up m') : res.up m := by
  cases res with
  | ok v m2 => exact Nat.le_trans h k
  | pan v m2 => exact Nat.le_trans h k
  | fail => trivial
theorem CRes.free_left {res : CRes} (h : res.free μ m) (k : res.up m') : Free μ m.next m'.next := by
  cases res with
  | ok v m2 => exact Free.left h k
  | pan v m2 => exact Free.left h k
  | fail => exact h.elim
theorem CRes.free_right {res : CRes} (h : res.free μ m) (k : Ext μ m w μ' m' w') : res.free μ' m' := by
  cases res with
  | ok v m2 => exact Free.right h k
  | pan v m2 => exact Free.right h k
  | fail => exact h.elim
theorem OutR.next {res : CRes} {R : Ending → World → Prop} (h : OutR P μ m w res R) (h0 : Rel P μ m w) (h1 : Rel P μ' m' w') (hE : Ext μ m w μ' m' w') (hf : res.free μ m) : OutR P μ' m' w' res R := by
  cases res with
  | ok v m2 => exact fun u μ2 w2 k1 k2 k3 => h u μ2 w2 k1 k2 (Ext.trans h0.wf h1.wf hf hE k3)
  | pan v m2 => exact fun u μ2 w2 k1 k2 k3 => h u μ2 w2 k1 k2 (Ext.trans h0.wf h1.wf hf hE k3)
  | fail => exact h.elim

theorem leave_up {fn : Func} : ∀ (ds : List MD) {e : Env} {u : LM} {m : Mem}, (leave P X call yl K fn e ds u m).up m
  | [], e, u, m => by
    unfold leave
    cases u with
    | pan v => exact Nat.le_refl _
    | ret =>
      simp only []
      cases results? P fn e m with
      | none => trivial
      | some v => exact Nat.le_refl _
    | rec_ v => trivial
  | .mark b :: ds, e, u, m => by
    unfold leave
    split
    · rw [Mem.putK_eq]; exact CRes.up_le (Nat.le_refl _) (leave_up (m := m.put b (.dblk false)) ds)
    · trivial
  | .call f args :: ds, e, u, m => by
    unfold leave
    split
    · split
      · rw [env0_eq]
        split
        · rename_i hd; exact CRes.up_le (dCode_next _ hd) (leave_up ds)
        · rename_i hd; exact CRes.up_le (dCode_next _ hd) (leave_up ds)
        · trivial
      · trivial
    · trivial

def settleM : LM → LM
  | .rec_ _ => .ret
  | u => u
theorem LmR.settle {u : LM} {fm : FrameMode} (h : LmR μ u fm) : LmR μ (settleM u) (settle fm) := by
  cases u with
  | ret => cases fm <;> first | exact h.elim | exact trivial
  | pan v =>
    cases fm with
    | panicking c => obtain ⟨z, h1, rfl⟩ := h; exact ⟨z, h1, rfl⟩
    | _ => exact h.elim
  | rec_ v =>
    cases fm with
    | panicking c => obtain ⟨z, h1, rfl⟩ := h; exact trivial
    | _ => exact h.elim
theorem LmR.run {u : LM} {fm : FrameMode} (h : LmR μ u fm) : fm ≠ .run := by
  rintro rfl
  cases u <;> exact h.elim

theorem leave_sound {fn : Func} {n : Nat} {R : Ending → World → Prop} {tmps : Array Value} : ∀ (ds : List MD) {defers : List Deferred} {e : Env} {u : LM} {fm : FrameMode} {m : Mem} {μ : Mp} {w : World}, Rel P μ m w → EnvR μ e tmps → DsR μ ds defers → LmR μ u fm →
    (leave P X call yl K fn e ds u m).free μ m → OutR P μ m w (leave P X call yl K fn e ds u m) R → LeavesInM Fence.wide n P fn tmps R defers fm w
  | [], defers, e, u, fm, m, μ, w, h, he, hd, hu, hf, hk => by
    cases defers with
    | cons d ds' => exact hd.elim
    | nil =>
      unfold leave at hf hk
      cases u with
      | pan v =>
        cases fm with
        | panicking c => obtain ⟨z, h1, rfl⟩ := hu; exact hk z μ w h1 h (Ext.refl _ _ _)
        | _ => exact hu.elim
      | ret =>
        simp only [] at hf hk
        cases fm with
        | returning =>
          cases hr : results? P fn e m with
          | none => rw [hr] at hf; exact hf.elim
          | some v =>
            rw [hr] at hk
            obtain ⟨z, h1, h2⟩ := results_sound h he hr
            exact ⟨z, h2, hk z μ w h1 h (Ext.refl _ _ _)⟩
        | _ => exact hu.elim
      | rec_ v => exact hf.elim
  | .mark b :: ds, defers, e, u, fm, m, μ, w, h, he, hd, hu, hf, hk => by
    cases defers with
    | nil => exact hd.elim
    | cons d ds' =>
      obtain ⟨⟨x, hb, ht⟩, hds⟩ := hd
      unfold leave at hf hk
      cases hg : m.get b with
      | none => rw [hg] at hf; exact hf.elim
      | some o =>
        rw [hg] at hf hk
        cases o with
        | dblk t =>
          cases t with
          | false => exact hf.elim
          | true =>
            simp only [Mem.putK_eq] at hf hk
            obtain ⟨w', k1, k2, k3⟩ := mark_sound h hb hg
            exact ⟨hu.run, .inl ⟨x.r, w', ht, k1, leave_sound ds k2 he hds hu (CRes.free_right hf k3) (OutR.next hk h k2 k3 hf)⟩⟩
        | _ => exact hf.elim
  | .call f args :: ds, defers, e, u, fm, m, μ, w, h, he, hd, hu, hf, hk => by
    cases defers with
    | nil => exact hd.elim
    | cons d ds' =>
      obtain ⟨⟨a, c, ht, hda, htr⟩, hds⟩ := hd
      unfold leave at hf hk
      cases hfn : P.funcs[f]? with
      | none => rw [hfn] at hf; exact hf.elim
      | some fd =>
        rw [hfn] at hf hk
        simp only [] at hf hk
        split at hf
        · rename_i code hnm hbody hres
          simp only [hnm, hbody, hres, env0_eq] at hf hk
          have hrest : ∃ x' e'' u' m1, dCode P X call yl 1000 code (envE (args.length + (fd.ntmps - args.length)) (K f) args) u m = some (x', e'', u', m1) ∧ (x' = .normal ∨ x' = .ret) ∧
              (leave P X call yl K fn e ds (settleM u') m1).free μ m ∧ OutR P μ m w (leave P X call yl K fn e ds (settleM u') m1) R := by
            cases hdc : dCode P X call yl 1000 code (envE (args.length + (fd.ntmps - args.length)) (K f) args) u m with
            | none => rw [hdc] at hf; exact hf.elim
            | some q =>
              obtain ⟨x', e'', u', m1⟩ := q
              rw [hdc] at hf hk
              cases x' with
              | normal => cases u' <;> exact ⟨_, _, _, _, rfl, .inl rfl, hf, hk⟩
              | ret => cases u' <;> exact ⟨_, _, _, _, rfl, .inr rfl, hf, hk⟩
              | _ => exact hf.elim
          obtain ⟨x', e'', u', m1, hdc, hx', hf', hk'⟩ := hrest
          have hlen := trs_length htr
          have hup := leave_up (P := P) (X := X) (call := call) (yl := yl) (K := K) (fn := fn) ds (e := e) (u := settleM u') (m := m1)
          refine ⟨hu.run, .inr ⟨(fun q => by cases q), .func f, c.toArray, f, (a ++ c).toArray, ht, ?_, fun _ _ => trivial, ?_⟩⟩
          · rw [ht, hda]
            have := callFunc_enter (w := w) (us := (a ++ c).toArray) hfn hnm hbody
            unfold invoke
            simp only [List.append_toArray]
            exact this
          · refine callsDIn_of_wpSIn hfn hbody trivial fun c₀ cs hmode => ?_
            have hsz : (a ++ c).toArray.size = args.length := by simp [← hlen]
            subst hmode
            rw [hsz]
            refine dCode_sound (c0 := c₀) (fm := c₀.mode) 1000 hdc h (envE_sound htr _ _) hu (CRes.free_left hf' hup) fun ex a' μ' w' fm' k1 k2 k3 k4 k5 k6 => ?_
            have hL := leave_sound (n := n) (R := R) ds k5 (he.mono k6.le) (hds.mono k6.le) k4.settle (CRes.free_right hf' k6) (OutR.next hk' h k5 k6 hf')
            have hrun : (results fd a'.tmps).run P w' = .ok (.tuple #[]) w' := by
              have : fd.results = #[] := Array.toList_eq_nil_iff.1 hres
              simp [results, this]
            rcases hx' with rfl | rfl
            · cases ex with
              | normal => exact ⟨k2, fm', rfl, _, hrun, hL⟩
              | _ => exact k1.elim
            · cases ex with
              | ret => exact ⟨k2, fm', rfl, _, hrun, hL⟩
              | _ => exact k1.elim
        · exact hf.elim

variable {ev : Evr}
/-- A CALL. -/
theorem callF_out (hE : EvS P ev) {f : FuncId} {args : List MV} {us : List Value} {n : Nat} {R : Ending → World → Prop} (h : Rel P μ m w) (hu : trs μ args = some us)
    (hf : (callF P X call yl K ev f args m).free μ m) (hk : OutR P μ m w (callF P X call yl K ev f args m) R) : CallsIn Fence.wide n P f us.toArray w R := by
  unfold callF at hf hk
  cases hfn : P.funcs[f]? with
  | none => rw [hfn] at hf; exact hf.elim
  | some fn =>
    rw [hfn] at hf hk
    simp only [] at hf hk
    cases hb : fn.body with
    | none => rw [hb] at hf; exact hf.elim
    | some c =>
      simp only [hb, env0_eq] at hf hk
      have hsz : us.toArray.size = args.length := by simp [trs_length hu]
      refine callsIn_of_wp_marks hfn hb trivial ?_
      rw [hsz]
      cases hev : ev none c (envE (args.length + (fn.ntmps - args.length)) (K f) args) [] m with
      | fail => rw [hev] at hf; exact hf.elim
      | ok x e ds m1 =>
        rw [hev] at hf hk
        have main : ∀ (lm : LM), (∀ ex μ', ExR μ' x ex → ∃ fm, LmR μ' lm fm ∧ ∀ a' w', LeavesInM Fence.wide n P fn a'.tmps R a'.defers fm w' → bodyPostM Fence.wide n P fn R ex a' w') →
            (leave P X call yl K fn e ds lm m1).free μ m → OutR P μ m w (leave P X call yl K fn e ds lm m1) R →
            c.wpIn Fence.wide n P (bodyPostM Fence.wide n P fn R) { tmps := us.toArray ++ Array.replicate (fn.ntmps - args.length) undef, defers := [] } w := by
          intro lm hlm hf hk
          have hup := leave_up (P := P) (X := X) (call := call) (yl := yl) (K := K) (fn := fn) ds (e := e) (u := lm) (m := m1)
          have hact : ActR μ (envE (args.length + (fn.ntmps - args.length)) (K f) args) [] { tmps := us.toArray ++ Array.replicate (fn.ntmps - args.length) undef, defers := [] } := ⟨envE_sound hu _ _, trivial⟩
          refine (hE.wp none c _ [] m x e ds m1 hev μ w none n _ _ trivial h hact (CRes.free_left hf hup) fun ex a' μ' w' k1 k2 k3 k4 => ?_).wpIn
          obtain ⟨fm, j1, j2⟩ := hlm ex μ' k1
          exact j2 a' w' (leave_sound ds k3 k2.env k2.ds j1 (CRes.free_right hf k4) (OutR.next hk h k3 k4 hf))
        cases x with
        | normal =>
          refine main .ret (fun ex μ' k => ?_) hf hk
          cases ex with
          | normal => exact ⟨.returning, trivial, fun a' w' z => z⟩
          | _ => exact k.elim
        | ret =>
          refine main .ret (fun ex μ' k => ?_) hf hk
          cases ex with
          | ret => exact ⟨.returning, trivial, fun a' w' z => z⟩
          | _ => exact k.elim
        | pan v =>
          refine main (.pan v) (fun ex μ' k => ?_) hf hk
          cases ex with
          | panic ch => exact ⟨.panicking ch, k, fun a' w' z => z⟩
          | _ => exact k.elim
        | exit i => exact hf.elim
        | goto l => exact hf.elim

theorem callF_sound (hE : EvS P ev) : CallS P (fun f a m => callF P X call yl K ev f a m) where
  ok := fun f args m v m' hv μ w us n h hf hu => by
    refine callF_out (X := X) (call := call) (yl := yl) (K := K) hE h hu (by rw [show callF P X call yl K ev f args m = .ok v m' from hv]; exact hf) ?_
    rw [show callF P X call yl K ev f args m = .ok v m' from hv]
    exact fun u μ' w' k1 k2 k3 => ⟨u, μ', rfl, k1, k2, k3⟩
  pan := fun f args m v m' hv μ w us n h hf hu => by
    refine callF_out (X := X) (call := call) (yl := yl) (K := K) hE h hu (by rw [show callF P X call yl K ev f args m = .pan v m' from hv]; exact hf) ?_
    rw [show callF P X call yl K ev f args m = .pan v m' from hv]
    exact fun u μ' w' k1 k2 k3 => ⟨u, μ', rfl, k1, k2, k3⟩
end
end
end Go.Mir

/-! THE MIRROR, LAWS 32: ranges over functions. -/
namespace Go.Mir
noncomputable section
section
variable {P : Program} {μ μ' : Mp} {m m' : Mem} {w w' : World} {e e' : Env} {X : Hook} {call : Caller} {yl : Yielder} {K : Masks} {ev : Evr}

theorem bindTmps_inv {β : Type} {bad : β} : ∀ (ps : List Tmp) (args : List MV) (e : Env) (k : Env → β), bindTmps ps args e bad k = bad ∨ ∃ e', bindTmps ps args e bad k = k e' ∧ ps.length = args.length ∧
    ∀ (μ : Mp) (us : List Value) (tmps : Array Value), trs μ args = some us → EnvR μ e tmps → EnvR μ e' ((ps.zip us).foldl (fun t (x : Tmp × Value) => t.setIfInBounds x.1 x.2) tmps)
  | [], [], e, k => .inr ⟨e, rfl, rfl, fun μ us tmps hu he => by rw [trs_nil hu]; exact he⟩
  | [], _ :: _, e, k => .inl rfl
  | _ :: _, [], e, k => .inl rfl
  | t :: ps, v :: args, e, k => by
    unfold bindTmps
    rcases putK_inv (e := e) (d := some t) (v := v) (bad := bad) (k := fun e => bindTmps ps args e bad k) with q | ⟨e1, q, _, hd⟩
    · exact .inl q
    · rw [q]
      rcases bindTmps_inv ps args e1 k with q2 | ⟨e2, q2, q3, q4⟩
      · exact .inl q2
      · refine .inr ⟨e2, q2, by simp [q3], fun μ us tmps hu he => ?_⟩
        obtain ⟨u, us', rfl, h1, h2⟩ := trs_cons hu
        have ha : ActR μ e [] { tmps := tmps, defers := [] } := ⟨he, trivial⟩
        have := (ha.put h1 hd).env
        exact q4 μ us' _ h2 this

theorem loop_blk (h : Rel P μ m w) {l : Nat} {x : Pl} (hl : μ l = some x) {st : LoopState} {pend : Option Code} {env : Env} {ps : List Tmp} {as body : Code} {df : Nat} (hg : m.get l = some (.loop st pend env ps as body df)) :
    x.sh = 0 ∧ ∃ (tmps : Array Value) (fn d : Nat) (y : Pl), w.heap[x.r]? = some (.loop { state := st, pending := pend, fn, tmps, params := ps.toArray, assign := as, body := body, defers := d }) ∧ EnvR μ env tmps ∧ μ df = some y ∧ y.r = d := by
  obtain ⟨ob, h1, h2⟩ := h.blk l x _ hl hg
  obtain ⟨hsh, tmps, fn, d, y, rfl, k2, k3, k4⟩ := h2
  exact ⟨hsh, tmps, fn, d, y, h1, k2, k3, k4⟩

theorem getLoop_run {r : Nat} {lp : Loop} (h : w.heap[r]? = some (.loop lp)) : (Instr.getLoop r).run P w = .ok lp w := by
  have : (getObj r).run P w = .ok (.loop lp) w := by simp [getObj, Sem.run, h]
  simp only [Instr.getLoop, Sem.run_bind, this, Result.andThen_ok, Sem.run_pure]

theorem begin_sound (h : Rel P μ m w) {l : Nat} {x : Pl} (hl : μ l = some x) {pend : Option Code} {env : Env} {ps : List Tmp} {as body : Code} {df : Nat} (hg : m.get l = some (.loop .ready pend env ps as body df)) :
    ∃ w', (Instr.beginRound x.r).run P w = .ok () w' ∧ Rel P μ (m.put l (.loop .busy pend env ps as body df)) w' ∧ Ext μ m w μ (m.put l (.loop .busy pend env ps as body df)) w' := by
  obtain ⟨hsh, tmps, fn, d, y, h1, h2, h3, h4⟩ := loop_blk h hl hg
  obtain ⟨k1, k2⟩ := turn_sound h hl hg (by intro q; cases q) rfl rfl (o' := .loop .busy pend env ps as body df) (ob := .loop { state := .busy, pending := pend, fn, tmps, params := ps.toArray, assign := as, body := body, defers := d })
    ⟨hsh, tmps, fn, d, y, rfl, h2, h3, h4⟩
  refine ⟨_, ?_, k1, k2⟩
  simp only [Instr.beginRound, Sem.run_bind, getLoop_run h1, Result.andThen_ok, run_turn h1 (by intro c e lh q; cases q), Sem.run_pure]

theorem end_sound (h : Rel P μ m w) {l : Nat} {x : Pl} (hl : μ l = some x) {st : LoopState} {pend : Option Code} {env : Env} {ps : List Tmp} {as body : Code} {df : Nat} (hg : m.get l = some (.loop st pend env ps as body df)) (j : Option Code) :
    ∃ w', (Instr.endRound x.r j).run P w = .ok (.bool j.isNone) w' ∧ Rel P μ (m.put l (.loop (if j.isNone then .ready else .done) j env ps as body df)) w' ∧ Ext μ m w μ (m.put l (.loop (if j.isNone then .ready else .done) j env ps as body df)) w' := by
  obtain ⟨hsh, tmps, fn, d, y, h1, h2, h3, h4⟩ := loop_blk h hl hg
  obtain ⟨k1, k2⟩ := turn_sound h hl hg (by intro q; cases q) rfl rfl (o' := .loop (if j.isNone then .ready else .done) j env ps as body df) (ob := .loop { state := if j.isNone then .ready else .done, pending := j, fn, tmps, params := ps.toArray, assign := as, body := body, defers := d })
    ⟨hsh, tmps, fn, d, y, rfl, h2, h3, h4⟩
  refine ⟨_, ?_, k1, k2⟩
  simp only [Instr.endRound, Sem.run_bind, getLoop_run h1, Result.andThen_ok, run_turn h1 (by intro c e lh q; cases q), Sem.run_pure]

/-- What a round does, step by step. -/
theorem yieldM_inv {l : Nat} {args : List MV} {res : CRes} (hres : res ≠ .fail) (h : yieldM ev l args m = res) :
    ∃ st pend env ps as body df e0 e1 m1 pend1 env1 ps1 as1 body1 df1 x e2 m3 st3 pend3 env3 ps3 as3 body3 df3,
      m.get l = some (.loop st pend env ps as body df) ∧
      (∀ (μ : Mp) (us : List Value) (tmps : Array Value), trs μ args = some us → EnvR μ env tmps → EnvR μ e0 ((ps.zip us).foldl (fun t (x : Tmp × Value) => t.setIfInBounds x.1 x.2) tmps)) ∧ ps.length = args.length ∧
      ev (some l) as e0 [] m = .ok .normal e1 [] m1 ∧ m1.get l = some (.loop .ready pend1 env1 ps1 as1 body1 df1) ∧
      ev (some l) body e1 [] (m1.put l (.loop .busy pend1 env1 ps1 as1 body1 df1)) = .ok x e2 [] m3 ∧ m3.get l = some (.loop st3 pend3 env3 ps3 as3 body3 df3) ∧
      ((x = .normal ∧ res = .ok (.bool true) (m3.put l (.loop .ready none env3 ps3 as3 body3 df3))) ∨
       ∃ c, ((x = .ret ∧ c = .ret) ∨ (∃ i, x = .exit i ∧ c = .exit i) ∨ (∃ i, x = .goto i ∧ c = .goto i)) ∧ res = .ok (.bool false) (m3.put l (.loop .done (some c) env3 ps3 as3 body3 df3))) := by
  unfold yieldM at h
  cases hg : m.get l with
  | none => rw [hg] at h; exact absurd h.symm hres
  | some o =>
    rw [hg] at h
    cases o with
    | loop st pend env ps as body df =>
      simp only [] at h
      generalize hk : (fun e => (match ev (some l) as e [] m with
        | .ok .normal e [] m => match m.get l with
          | some (.loop .ready pend' env' ps' assign' body' defers') =>
            m.putK l (.loop .busy pend' env' ps' assign' body' defers') fun m =>
            match ev (some l) body e [] m with
            | .ok x _ [] m => match m.get l with
              | some (.loop _ _ env'' ps'' assign'' body'' defers'') =>
                let fin (j : Option Code) : CRes := match j with
                  | none => m.putK l (.loop .ready none env'' ps'' assign'' body'' defers'') fun m => .ok (.bool true) m
                  | some c => m.putK l (.loop .done (some c) env'' ps'' assign'' body'' defers'') fun m => .ok (.bool false) m
                match x with
                | .normal => fin none
                | .ret => fin (some .ret)
                | .exit id => fin (some (.exit id))
                | .goto t => fin (some (.goto t))
                | .pan _ => .fail
              | _ => .fail
            | _ => .fail
          | _ => .fail
        | _ => .fail : CRes)) = kk at h
      rcases bindTmps_inv (bad := CRes.fail) ps args env kk with q | ⟨e0, q, q2, q3⟩
      · rw [q] at h; exact absurd h.symm hres
      · rw [q, ← hk] at h
        simp only [Mem.putK_eq] at h
        cases hev : ev (some l) as e0 [] m with
        | fail => rw [hev] at h; exact absurd h.symm hres
        | ok y e1 ds1 m1 =>
          rw [hev] at h
          cases y with
          | normal =>
            cases ds1 with
            | cons d ds => exact absurd h.symm hres
            | nil =>
              simp only [] at h
              cases hg1 : m1.get l with
              | none => rw [hg1] at h; exact absurd h.symm hres
              | some o1 =>
                rw [hg1] at h
                cases o1 with
                | loop st1 pend1 env1 ps1 as1 body1 df1 =>
                  cases st1 with
                  | ready =>
                    simp only [] at h
                    cases hev2 : ev (some l) body e1 [] (m1.put l (.loop .busy pend1 env1 ps1 as1 body1 df1)) with
                    | fail => rw [hev2] at h; exact absurd h.symm hres
                    | ok x e2 ds2 m3 =>
                      rw [hev2] at h
                      cases ds2 with
                      | cons d ds => exact absurd h.symm hres
                      | nil =>
                        simp only [] at h
                        cases hg3 : m3.get l with
                        | none => rw [hg3] at h; exact absurd h.symm hres
                        | some o3 =>
                          rw [hg3] at h
                          cases o3 with
                          | loop st3 pend3 env3 ps3 as3 body3 df3 =>
                            simp only [] at h
                            cases x with
                            | normal => exact ⟨_, _, _, _, _, _, _, _, _, _, _, _, _, _, _, _, _, _, _, _, _, _, _, _, _, _, rfl, q3, q2, hev, hg1, hev2, hg3, .inl ⟨rfl, h.symm⟩⟩
                            | ret => exact ⟨_, _, _, _, _, _, _, _, _, _, _, _, _, _, _, _, _, _, _, _, _, _, _, _, _, _, rfl, q3, q2, hev, hg1, hev2, hg3, .inr ⟨.ret, .inl ⟨rfl, rfl⟩, h.symm⟩⟩
                            | exit i => exact ⟨_, _, _, _, _, _, _, _, _, _, _, _, _, _, _, _, _, _, _, _, _, _, _, _, _, _, rfl, q3, q2, hev, hg1, hev2, hg3, .inr ⟨.exit i, .inr (.inl ⟨i, rfl, rfl⟩), h.symm⟩⟩
                            | goto i => exact ⟨_, _, _, _, _, _, _, _, _, _, _, _, _, _, _, _, _, _, _, _, _, _, _, _, _, _, rfl, q3, q2, hev, hg1, hev2, hg3, .inr ⟨.goto i, .inr (.inr ⟨i, rfl, rfl⟩), h.symm⟩⟩
                            | pan v => exact absurd h.symm hres
                          | _ => exact absurd h.symm hres
                  | _ => exact absurd h.symm hres
                | _ => exact absurd h.symm hres
          | _ => exact absurd h.symm hres
    | _ => exact absurd h.symm hres

theorem yield_run (h : Rel P μ m w) {l : Nat} {x : Pl} (hl : μ l = some x) {st : LoopState} {pend : Option Code} {env : Env} {ps : List Tmp} {as body : Code} {df : Nat} (hg : m.get l = some (.loop st pend env ps as body df)) {us : List Value} (hlen : ps.length = us.length) :
    ∃ fn tmps, EnvR μ env tmps ∧ (Instr.yield x.r us.toArray).run P w = .ok (.round x.r fn ((ps.zip us).foldl (fun t (x : Tmp × Value) => t.setIfInBounds x.1 x.2) tmps) as body) w := by
  obtain ⟨hsh, tmps, fn, d, y, h1, h2, h3, h4⟩ := loop_blk h hl hg
  refine ⟨fn, tmps, h2, ?_⟩
  have hz : (ps.toArray.zip us.toArray) = (ps.zip us).toArray := by simp
  simp [Instr.yield, getLoop_run h1, hlen]

theorem yieldM_sound (hE : EvS P ev) : YieldS P (yieldM ev) where
  ok := by
    intro l args m v m' hv μ w us x n h hf hu hl
    obtain ⟨st, pend, env, ps, as, body, df, e0, e1, m1, pend1, env1, ps1, as1, body1, df1, y, e2, m3, st3, pend3, env3, ps3, as3, body3, df3, g0, g1, g2, g3, g4, g5, g6, g7⟩ := yieldM_inv (res := .ok v m') (by intro q; cases q) hv
    obtain ⟨fn, tmps, k1, k2⟩ := yield_run h hl g0 (us := us) (by rw [g2, trs_length hu])
    refine ⟨fn, _, as, body, w, k2, roundIn_of_wpIn trivial ?_⟩
    have n1 := hE.nx _ _ _ _ _ _ _ _ _ g3
    have n2 := hE.nx _ _ _ _ _ _ _ _ _ g5
    have hm' : m'.next = m3.next := by
      rcases g7 with ⟨_, q⟩ | ⟨c, _, q⟩ <;> (cases q; rfl)
    have n2' : m1.next ≤ m3.next := n2
    have hact : ActR μ e0 [] { tmps := (ps.zip us).foldl (fun t (x : Tmp × Value) => t.setIfInBounds x.1 x.2) tmps, defers := [] } := ⟨g1 μ us tmps hu k1, trivial⟩
    refine (hE.wp _ _ _ _ _ _ _ _ _ g3 μ w (some x.r) n _ _ ⟨x, hl, rfl⟩ h hact (hf.left (by omega)) fun ex a1 μ1 w1 j1 j2 j3 j4 => ?_).wpIn
    cases ex with
    | normal =>
      have hl1 := j4.le l x hl
      obtain ⟨w2, b1, b2, b3⟩ := begin_sound j3 hl1 g4
      have hf1 : Free μ1 m1.next m'.next := hf.right j4
      have hE12 := Ext.trans h.wf j3.wf (hf.left (show (m1.put l (.loop .busy pend1 env1 ps1 as1 body1 df1)).next ≤ m'.next by show m1.next ≤ m'.next; omega)) j4 b3
      refine ⟨w2, b1, (hE.wp _ _ _ _ _ _ _ _ _ g5 μ1 w2 (some x.r) n a1 _ ⟨x, hl1, rfl⟩ b2 j2 (by rw [← hm']; exact hf1) fun ex2 a2 μ2 w3 i1 i2 i3 i4 => ?_).wpIn⟩
      have hl2 := i4.le l x hl1
      have hE13 := Ext.trans h.wf b2.wf (by rw [← hm']; exact hf) hE12 i4
      have fin : ∀ j : Option Code, v = .bool j.isNone → m' = m3.put l (.loop (if j.isNone then .ready else .done) j env3 ps3 as3 body3 df3) → ∃ v' w', (Instr.endRound x.r j).run P w3 = .ok v' w' ∧ RetP P μ m w v m' (.returned v') w' := by
        rintro j rfl rfl
        obtain ⟨w4, c1, c2, c3⟩ := end_sound i3 hl2 g6 j
        exact ⟨_, w4, c1, _, μ2, rfl, rfl, c2, Ext.trans h.wf i3.wf hf hE13 c3⟩
      rcases g7 with ⟨rfl, q⟩ | ⟨c, hc, q⟩
      · cases q
        cases ex2 with
        | normal => exact fin none rfl rfl
        | _ => exact i1.elim
      · cases q
        rcases hc with ⟨rfl, rfl⟩ | ⟨i, rfl, rfl⟩ | ⟨i, rfl, rfl⟩
        · cases ex2 with
          | ret => exact fin (some .ret) rfl rfl
          | _ => exact i1.elim
        · cases ex2 with
          | exit i' => obtain rfl : i = i' := i1; exact fin (some (.exit i)) rfl rfl
          | _ => exact i1.elim
        · cases ex2 with
          | goto i' => obtain rfl : i = i' := i1; exact fin (some (.goto i)) rfl rfl
          | _ => exact i1.elim
    | _ => exact j1.elim
  pan := by
    intro l args m v m' hv
    obtain ⟨st, pend, env, ps, as, body, df, e0, e1, m1, pend1, env1, ps1, as1, body1, df1, y, e2, m3, st3, pend3, env3, ps3, as3, body3, df3, g0, g1, g2, g3, g4, g5, g6, g7⟩ := yieldM_inv (res := .pan v m') (by intro q; cases q) hv
    rcases g7 with ⟨_, q⟩ | ⟨c, _, q⟩ <;> cases q
end
end
end Go.Mir

/-! THE MIRROR, LAWS 33: the statement of a range over a function. -/
namespace Go.Mir
noncomputable section
section
variable {P : Program} {μ μ' : Mp} {m m' : Mem} {w w' : World} {e e' : Env} {call : Caller} {ev : Evr}

/-- An object laid. -/
theorem lay_sound (h : Rel P μ m w) (hf : μ m.next = none) {o : MO} {ob : Obj} (hd : o ≠ .dead) (hrel : ∀ μ' : Mp, μ.le μ' → rel1 μ' o ⟨w.heap.size, 0, 0, 0⟩ ob) :
    Rel P (μ.add m.next ⟨w.heap.size, 0, 0, 0⟩) (m.new o) (w.alloc ob) ∧ Ext μ m w (μ.add m.next ⟨w.heap.size, 0, 0, 0⟩) (m.new o) (w.alloc ob) := by
  have hh : (w.alloc ob).heap = w.heap.push ob := rfl
  have hsz : (w.alloc ob).heap.size = w.heap.size + 1 := by rw [hh]; simp
  have hold : ∀ k, k < w.heap.size → k ≠ w.heap.size → (w.alloc ob).heap[k]? = w.heap[k]? := fun k hk _ => by rw [hh, Array.getElem?_push, if_neg (by omega)]
  have hdead : ∀ b y, μ b = some y → y.r = w.heap.size → m.get b = some .dead := fun b y e g => by have := h.lt b y e; omega
  refine ⟨h.add hf rfl (ob := ob) (by rw [hsz]; exact Nat.lt_succ_self _) (by omega) hdead hold (by rw [hh]; simp) (hrel _ (Mp.add_le hf)), Ext.add h hf ⟨rfl, rfl, rfl⟩ (by omega) (.inl (Nat.le_refl _)) hold⟩

/-- What follows the laying of the loop. -/
def goM (call : Caller) (ev : Code → Env → List MD → Mem → CR) (f : FuncId) (first caps : List MV) (e : Env) (l : Nat) (ds : List MD) (m : Mem) : CR :=
  match call f (first ++ [.func (.yield l) [] []] ++ caps) m with
  | .ok _ m1 => match Nat.ble m.next m1.next with
    | false => .fail
    | true => match m1.get l with
      | some (.loop st pend env' ps' a' b' df) => match st with
        | .busy => .fail
        | _ => m1.putK l (.loop .exhausted pend env' ps' a' b' df) fun m => match pend with
          | none => .ok .normal e ds m
          | some c => ev c e ds m
      | _ => .fail
  | .pan v m1 => match Nat.ble m.next m1.next with
    | false => .fail
    | true => .ok (.pan v) e ds m1
  | .fail => .fail

theorem goM_next {ev' : Code → Env → List MD → Mem → CR} (hn : ∀ c e ds m x e' ds' m', ev' c e ds m = .ok x e' ds' m' → m.next ≤ m'.next) {f : FuncId} {first caps : List MV} {l : Nat} {ds : List MD} {x : EX} {ds' : List MD}
    (h : goM call ev' f first caps e l ds m = .ok x e' ds' m') : m.next ≤ m'.next := by
  unfold goM at h
  split at h
  · rename_i v m1 _
    split at h
    · cases h
    · rename_i hb
      have hb := Nat.le_of_ble_eq_true hb
      split at h
      · split at h
        · cases h
        · simp only [Mem.putK_eq] at h
          split at h
          · cases h; exact hb
          · have := hn _ _ _ _ _ _ _ _ h
            exact Nat.le_trans hb this
      · cases h
  · split at h
    · cases h
    · rename_i hb
      cases h
      exact Nat.le_of_ble_eq_true hb
  · cases h

theorem endLoop_sound (h : Rel P μ m w) {l : Nat} {x : Pl} (hl : μ l = some x) {st : LoopState} {pend : Option Code} {env : Env} {ps : List Tmp} {as body : Code} {df : Nat} (hg : m.get l = some (.loop st pend env ps as body df)) (hst : st ≠ .busy) :
    ∃ w', (Instr.endLoop x.r).run P w = .ok pend w' ∧ Rel P μ (m.put l (.loop .exhausted pend env ps as body df)) w' ∧ Ext μ m w μ (m.put l (.loop .exhausted pend env ps as body df)) w' := by
  obtain ⟨hsh, tmps, fn, d, y, h1, h2, h3, h4⟩ := loop_blk h hl hg
  obtain ⟨k1, k2⟩ := turn_sound h hl hg (by intro q; cases q) rfl rfl (o' := .loop .exhausted pend env ps as body df) (ob := .loop { state := .exhausted, pending := pend, fn, tmps, params := ps.toArray, assign := as, body := body, defers := d })
    ⟨hsh, tmps, fn, d, y, rfl, h2, h3, h4⟩
  refine ⟨_, ?_, k1, k2⟩
  have hb : (st == .busy) = false := by cases st <;> first | rfl | exact absurd rfl hst
  simp only [Instr.endLoop, Sem.run_bind, getLoop_run h1, Result.andThen_ok, hb, Bool.false_eq_true, if_false, run_turn h1 (by intro c e lh q; cases q), Sem.run_pure]

theorem goM_sound (hE : EvS P ev) (hC : CallS P call) {rd r : Option Nat} {n n' : Nat} {f : FuncId} {first caps : List MV} {fs cs : List Value} {l : Nat} {x : Pl} {ds ds' : List MD} {a : Act} {x' : EX} {Q : Exit → Act → World → Prop}
    (h : Rel P μ m w) (ha : ActR μ e ds a) (hrd : RdR μ rd r) (hl : μ l = some x) (hfs : trs μ first = some fs) (hcs : trs μ caps = some cs) (hv : goM call (ev rd) f first caps e l ds m = .ok x' e' ds' m') (hf : Free μ m.next m'.next) (hk : Then P μ m w x' e' ds' m' Q) :
    CallsIn (Fc r) n P f (fs ++ [Value.func (.yield x.r) #[] #[]] ++ cs).toArray w (rangePost (Fc r) n' P x.r Q a) := by
  have hy : tr μ (MV.func (.yield l) [] []) = some (Value.func (.yield x.r) #[] #[]) := by simp only [tr, trFn, hl, show trs μ [] = some [] from rfl]
  have harg : trs μ (first ++ [MV.func (.yield l) [] []] ++ caps) = some (fs ++ [Value.func (.yield x.r) #[] #[]] ++ cs) := trs_append (trs_append hfs (trs_mk hy rfl)) hcs
  unfold goM at hv
  cases hcall : call f (first ++ [MV.func (.yield l) [] []] ++ caps) m with
  | fail => rw [hcall] at hv; cases hv
  | pan v m1 =>
    rw [hcall] at hv
    simp only [] at hv
    cases hb : Nat.ble m.next m1.next with
    | false => rw [hb] at hv; cases hv
    | true =>
      rw [hb] at hv
      cases hv
      refine Fc_calls ((hC.pan _ _ _ _ _ hcall μ w _ n h hf harg).mono ?_)
      rintro en w' ⟨u, μ', rfl, k1, k2, k3⟩
      exact hk (.panic _) a μ' w' ⟨u, k1, rfl⟩ (ha.mono k3.le) k2 k3
  | ok v m1 =>
    rw [hcall] at hv
    simp only [] at hv
    cases hb : Nat.ble m.next m1.next with
    | false => rw [hb] at hv; cases hv
    | true =>
      rw [hb] at hv
      simp only [] at hv
      cases hg : m1.get l with
      | none => rw [hg] at hv; cases hv
      | some o =>
        rw [hg] at hv
        cases o with
        | loop st pend env' ps' a' b' df =>
          simp only [] at hv
          have hst : st ≠ .busy := by rintro rfl; cases hv
          have hv2 : (match pend with | none => CR.ok .normal e ds (m1.put l (.loop .exhausted pend env' ps' a' b' df)) | some c => ev rd c e ds (m1.put l (.loop .exhausted pend env' ps' a' b' df))) = .ok x' e' ds' m' := by
            cases st <;> first | exact absurd rfl hst | (simp only [Mem.putK_eq] at hv; cases pend <;> exact hv)
          have hn : m1.next ≤ m'.next := by
            cases pend with
            | none => cases hv2; exact Nat.le_refl _
            | some c =>
              have := hE.nx _ _ _ _ _ _ _ _ _ hv2
              exact this
          refine Fc_calls ((hC.ok _ _ _ _ _ hcall μ w _ n h (hf.left hn) harg).mono ?_)
          rintro en w1 ⟨u, μ1, rfl, k1, k2, k3⟩
          obtain ⟨w2, c1, c2, c3⟩ := endLoop_sound k2 (k3.le l x hl) hg hst
          have hE2 := Ext.trans h.wf k2.wf (hf.left (show (m1.put l (.loop .exhausted pend env' ps' a' b' df)).next ≤ m'.next from hn)) k3 c3
          refine ⟨pend, w2, c1, ?_⟩
          cases pend with
          | none =>
            cases hv2
            exact hk .normal a μ1 w2 trivial (ha.mono k3.le) c2 hE2
          | some c =>
            exact (hE.wp _ _ _ _ _ _ _ _ _ hv2 μ1 w2 r n' a Q (hrd.mono k3.le) c2 (ha.mono k3.le) (hf.right hE2) (hk.next h c2 hE2 hf)).wpIn
        | _ => cases hv

theorem rangeM_inv {ev' : Code → Env → List MD → Mem → CR} {rd : Option Nat} {g : Operand} {ps : List Tmp} {as body : Code} {ds ds' : List MD} {x : EX} (h : rangeM P call ev' rd g ps as body e ds m = .ok x e' ds' m') :
    ∃ f first caps fd c, ops? P e g = some (.func (.func f) first caps) ∧ P.funcs[f]? = some fd ∧ (fd.name == "runtime.NumGoroutine") = false ∧ fd.body = some c ∧
      ((rd = none ∧ goM call ev' f first caps e (m.next + 1) (.mark m.next :: ds) ((m.new (.dblk true)).new (.loop .ready none e ps as body m.next)) = .ok x e' ds' m') ∨
       ∃ r st pend env ps0 as0 body0 df, rd = some r ∧ m.get r = some (.loop st pend env ps0 as0 body0 df) ∧ goM call ev' f first caps e m.next ds (m.new (.loop .ready none e ps as body df)) = .ok x e' ds' m') := by
  unfold rangeM at h
  split at h
  · rename_i f first caps hg
    split at h
    · cases h
    · rename_i fd hfd
      split at h
      · rename_i c hn hb
        refine ⟨f, first, caps, fd, c, hg, hfd, hn, hb, ?_⟩
        cases rd with
        | none =>
          simp only [Mem.newK_eq] at h
          exact .inl ⟨rfl, h⟩
        | some r =>
          simp only [Mem.newK_eq] at h
          cases hr : m.get r with
          | none => rw [hr] at h; cases h
          | some o =>
            rw [hr] at h
            cases o with
            | loop st pend env ps0 as0 body0 df => exact .inr ⟨r, st, pend, env, ps0, as0, body0, df, rfl, hr, h⟩
            | _ => cases h
      · cases h
  · cases h

theorem range_sound (hE : EvS P ev) (hC : CallS P call) : RangeS P (fun rd g ps a b e ds m => rangeM P call (ev rd) rd g ps a b e ds m) where
  nx := by
    intro rd g ps as body e ds m x e' ds' m' h
    obtain ⟨f, first, caps, fd, c, _, _, _, _, h⟩ := rangeM_inv h
    have hn := fun c e ds m x e' ds' m' h => hE.nx rd c e ds m x e' ds' m' h
    rcases h with ⟨_, h⟩ | ⟨r, st, pend, env, ps0, as0, body0, df, _, _, h⟩
    · have := goM_next hn h
      have this : m.next + 1 + 1 ≤ m'.next := this
      omega
    · have := goM_next hn h
      have this : m.next + 1 ≤ m'.next := this
      omega
  wp := by
    intro rd g ps as body e ds m x e' ds' m' h μ w r n a Q hrd hR ha hf hk
    obtain ⟨f, first, caps, fd, c, hg, hfd, hnm, hb, h⟩ := rangeM_inv h
    have hn := fun c e ds m x e' ds' m' h => hE.nx rd c e ds m x e' ds' m' h
    obtain ⟨f', fs, cs, k1, k2, k3, k4⟩ := tr_func_inv (opn_of hR ha.env g _ hg)
    cases k1
    -- the call
    have hcall : ∀ (l : Nat) (w1 : World), (resolve a.eval (rangeCall g l) 0).run P w1 = .ok { target := .fn (.func f) cs.toArray, args := fs.toArray ++ #[Value.func (.yield l) #[] #[]] } w1 ∧
        (invoke (.fn (.func f) cs.toArray) (fs.toArray ++ #[Value.func (.yield l) #[] #[]])).run P w1 = .ok (.enter f (fs ++ [Value.func (.yield l) #[] #[]] ++ cs).toArray) w1 := by
      intro l w1
      refine ⟨?_, ?_⟩
      · have hm : (#[Operand.const (.func (.yield l) #[] #[])] : Array Operand).map a.eval = #[Value.func (.yield l) #[] #[]] := by simp [Act.eval]
        simp only [resolve, rangeCall, k4, Deferred.ofValue, hm, Sem.run_pure]
      · have := callFunc_enter (w := w1) (us := (fs ++ [Value.func (.yield l) #[] #[]] ++ cs).toArray) hfd hnm hb
        have e1 : fs.toArray ++ #[Value.func (.yield l) #[] #[]] ++ cs.toArray = (fs ++ [Value.func (.yield l) #[] #[]] ++ cs).toArray := by simp
        unfold invoke
        simp only [e1]
        exact this
    refine wpIn_rangeFunc fun fn _ => ?_
    rcases h with ⟨rfl, h⟩ | ⟨r0, st, pend, env, ps0, as0, body0, df, rfl, hget, h⟩
    · obtain rfl := rd_none hrd rfl
      have hnx : m.next + 1 + 1 ≤ m'.next := goM_next hn h
      obtain ⟨a1, a2⟩ := lay_sound hR (hf _ (Nat.le_refl _) (by omega)) (o := .dblk true) (ob := .deferred (some [])) (by intro q; cases q) (fun μ' _ => ⟨rfl, rfl⟩)
      have hf1 : Free (μ.add m.next ⟨w.heap.size, 0, 0, 0⟩) (m.new (.dblk true)).next m'.next := (hf.right a2)
      have hsz1 : (w.alloc (.deferred (some []))).heap.size = w.heap.size + 1 := by show (w.heap.push _).size = _; simp
      obtain ⟨b1, b2⟩ := lay_sound a1 (hf1 _ (Nat.le_refl _) (show m.next + 1 < m'.next by omega)) (o := .loop .ready none e ps.toList as body m.next)
        (ob := .loop { state := .ready, pending := none, fn := fn, tmps := a.tmps, params := ps, assign := as, body := body, defers := w.heap.size }) (by intro q; cases q)
        (fun μ' hle => ⟨rfl, a.tmps, fn, w.heap.size, ⟨w.heap.size, 0, 0, 0⟩, by simp, ha.env.mono (Mp.le_trans a2.le hle), hle _ _ (Mp.add_same _ _ _), rfl⟩)
      have hE2 := Ext.trans hR.wf a1.wf (hf.left (show m.next + 1 + 1 ≤ m'.next by omega)) a2 b2
      refine ⟨w.heap.size + 1, [{ target := .collected w.heap.size, args := #[] }], (w.alloc (.deferred (some []))).alloc (.loop { state := .ready, pending := none, fn := fn, tmps := a.tmps, params := ps, assign := as, body := body, defers := w.heap.size }), _, _, f, _, _, ?_, (hcall _ _).1, fun _ _ => trivial, (hcall _ _).2, Fc_room _ _, ?_⟩
      · simp only [Fc_round, Instr.enterLoop, Sem.run_bind, run_newObj', Result.andThen_ok, Sem.run_pure, hsz1]
      · have ha2 : ActR ((μ.add m.next ⟨w.heap.size, 0, 0, 0⟩).add (m.new (.dblk true)).next ⟨(w.alloc (.deferred (some []))).heap.size, 0, 0, 0⟩) e (.mark m.next :: ds) { a with defers := [{ target := .collected w.heap.size, args := #[] }] ++ a.defers } :=
          ⟨ha.env.mono hE2.le, ⟨⟨_, b2.le _ _ (Mp.add_same _ _ _), rfl⟩, ha.ds.mono hE2.le⟩⟩
        have := goM_sound (n := n - 1) (n' := n) (rd := none) (r := none) hE hC b1 ha2 trivial (Mp.add_same _ _ _) (trs_mono hE2.le k2) (trs_mono hE2.le k3) h (hf.right hE2) (hk.next hR b1 hE2 hf)
        rw [hsz1] at this
        exact this
    · cases r with
      | none => exact hrd.elim
      | some r1 =>
        have hrd0 : RdR μ (some r0) (some r1) := hrd
        obtain ⟨x0, hx0, hx1⟩ := hrd
        obtain ⟨_, tmps0, fn0, d0, y0, h1, _, h3, h4⟩ := loop_blk hR hx0 hget
        have hnx : m.next + 1 ≤ m'.next := goM_next hn h
        obtain ⟨b1, b2⟩ := lay_sound hR (hf _ (Nat.le_refl _) (by omega)) (o := .loop .ready none e ps.toList as body df)
          (ob := .loop { state := .ready, pending := none, fn := fn, tmps := a.tmps, params := ps, assign := as, body := body, defers := d0 }) (by intro q; cases q)
          (fun μ' hle => ⟨rfl, a.tmps, fn, d0, y0, by simp, ha.env.mono hle, hle _ _ h3, h4⟩)
        refine ⟨w.heap.size, [], w.alloc (.loop { state := .ready, pending := none, fn := fn, tmps := a.tmps, params := ps, assign := as, body := body, defers := d0 }), _, _, f, _, _, ?_, (hcall _ _).1, fun _ _ => Fc_fn _ _, (hcall _ _).2, Fc_room _ _, ?_⟩
        · have hl := getLoop_run (P := P) h1
          rw [hx1] at hl
          simp only [Fc_round, Instr.enterLoop, Sem.run_bind, hl, run_newObj', Result.andThen_ok, Sem.run_pure]
        · have ha2 : ActR (μ.add m.next ⟨w.heap.size, 0, 0, 0⟩) e ds { a with defers := [] ++ a.defers } := ⟨ha.env.mono b2.le, ha.ds.mono b2.le⟩
          exact goM_sound (n := n - 1) (n' := n) (rd := some r0) (r := some r1) hE hC b1 ha2 (hrd0.mono b2.le) (Mp.add_same _ _ _) (trs_mono b2.le k2) (trs_mono b2.le k3) h (hf.right b2) (hk.next hR b1 b2 hf)
end
end
end Go.Mir

/-! THE MIRROR, LAWS 34: SOUNDNESS. -/
namespace Go.Mir
noncomputable section
section
variable {P : Program} {X : Hook} {K : Masks}

theorem ev_sound (hX : HookS P X) (hmix : P.follows .mixedOrders = true) : ∀ n, EvS P (ev P X K n)
  | 0 => ⟨(fun rd c e ds m x e' ds' m' h => by cases h), (fun rd c e ds m x e' ds' m' h => by cases h)⟩
  | n + 1 => by
    have ih := ev_sound hX hmix n
    have hC : CallS P (fun f a m => callF P X (fun _ _ _ => .fail) (fun _ _ _ => .fail) K (ev P X K n) f a m) := callF_sound ih
    exact evStep_sound hX hC (yieldM_sound ih) hmix ih (range_sound ih hC) n

/-- WHAT THE MIRROR SAYS OF A CALL, THE MACHINE DOES. -/
theorem evCall_sound (hX : HookS P X) (hmix : P.follows .mixedOrders = true) (n : Nat) : CallS P (evCall P X K n) :=
  callF_sound (ev_sound hX hmix n)
end
end
end Go.Mir

/-! THE MIRROR, LAWS 35: the memory in which a statement begins; a call that turns nothing. -/
namespace Go.Mir
open Go.RowKit
noncomputable section

/-- Rows that stand there when the call begins: block, element's type, cells. -/
abbrev Gs := List (Nat × TypeId × List MV)
def memG (N : Nat) : Gs → Mem
  | [] => ⟨.leaf, N⟩
  | (g, e, vs) :: gs => (memG N gs).put g (.cells (rowT vs 0 .leaf) vs.length e true 0)
/-- The same, for the kernel. -/
def memGK {β : Type} (N : Nat) : Gs → (Mem → β) → β
  | [], k => k ⟨.leaf, N⟩
  | (g, e, vs) :: gs, k => memGK N gs fun m => rowK vs 0 .leaf fun t => m.putK g (.cells t vs.length e true 0) k
theorem memGK_eq {β : Type} (N : Nat) : ∀ (gs : Gs) (k : Mem → β), memGK N gs k = k (memG N gs)
  | [], _ => rfl
  | (g, e, vs) :: gs, k => by
    rw [memGK, memGK_eq N gs, rowK_eq, Mem.putK_eq]
    rfl
def szG : Gs → Nat → Nat
  | [], _ => 0
  | (g, _, vs) :: gs, b => if b = g then vs.length else szG gs b
def muG (G : Nat) (gs : Gs) : Mp := fun b => if b ≤ G then some ⟨b, 0, szG gs b, 0⟩ else none

theorem memG_next (N : Nat) : ∀ gs : Gs, (memG N gs).next = N
  | [] => rfl
  | (_, _, _) :: gs => memG_next N gs
theorem memG_get (N : Nat) : ∀ (gs : Gs) (b : Nat) (o : MO), (memG N gs).get b = some o →
    ∃ e vs, (b, e, vs) ∈ gs ∧ szG gs b = vs.length ∧ o = .cells (rowT vs 0 .leaf) vs.length e true 0
  | [], b, o, h => by
    have : T.get (pth b) (.leaf : T MO) = some o := h
    rw [T.get_leaf] at this
    cases this
  | (g, e, vs) :: gs, b, o, h => by
    have h' : ((memG N gs).put g (.cells (rowT vs 0 .leaf) vs.length e true 0)).get b = some o := h
    rw [Mem.get_put] at h'
    by_cases hb : b = g
    · rw [if_pos hb] at h'
      cases h'
      subst hb
      exact ⟨e, vs, List.mem_cons_self .., by simp [szG], rfl⟩
    · rw [if_neg hb] at h'
      obtain ⟨e', vs', h1, h2, h3⟩ := memG_get N gs b o h'
      exact ⟨e', vs', List.mem_cons_of_mem _ h1, by simp [szG, hb, h2], h3⟩

section
variable {P : Program} {X : Hook} {K : Masks}

/-- WHAT IS LAID STANDS TO THE MACHINE'S MEMORY. -/
theorem rel_memG {gs : Gs} {w : World} (hw : ∀ g, g ≤ P.globals.size → g < w.heap.size)
    (hgs : ∀ x ∈ gs, x.1 ≤ P.globals.size ∧ ∃ us lh, w.heap[x.1]? = some (.cells (List.toArray us) x.2.1 lh) ∧ trs (muG P.globals.size gs) x.2.2 = some us) :
    Rel P (muG P.globals.size gs) (memG (P.globals.size + 1) gs) w where
  lt := fun b x h => by
    unfold muG at h
    split at h
    · cases h; exact hw b ‹_›
    · cases h
  sh0 := fun b x h => by
    unfold muG at h
    split at h
    · cases h; rfl
    · cases h
  blk := fun b x o h ho => by
    obtain ⟨e, vs, h1, h2, h3⟩ := memG_get _ gs b o ho
    obtain ⟨h4, us, lh, h5, h6'⟩ := hgs _ h1
    have h6 : trs (muG P.globals.size gs) vs = some us := h6'
    have h4' : b ≤ P.globals.size := h4
    unfold muG at h
    rw [if_pos h4'] at h
    cases h
    subst h3
    refine ⟨_, h5, h2.symm, _, lh, rfl, ?_, ?_, fun h => by cases h⟩
    · have := trs_length h6
      simp only [List.size_toArray]
      omega
    · intro i v hi hv
      have hi' : i < vs.length := hi
      rw [rowT_get, if_pos (by omega)] at hv
      obtain ⟨u, a1, a2⟩ := trs_get h6 hv
      refine ⟨u, ?_, a2⟩
      simp only [Nat.sub_zero] at a1
      simpa using a1
  inj := fun b b' x x' h h' e _ _ => by
    unfold muG at h h'
    split at h
    · split at h'
      · cases h; cases h'; exact e
      · cases h'
    · cases h
  glob := fun g hg => ⟨⟨g, 0, szG gs g, 0⟩, by unfold muG; rw [if_pos hg], rfl, rfl⟩
  wf := fun b hb => by
    cases ho : (memG (P.globals.size + 1) gs).get b with
    | none => rfl
    | some o =>
      obtain ⟨e, vs, h1, _, _⟩ := memG_get _ gs b o ho
      have := (hgs _ h1).1
      rw [memG_next] at hb
      have h4' : b ≤ P.globals.size := this
      omega
  low := by rw [memG_next]; omega

theorem memG_ro {N : Nat} {gs : Gs} (b : Nat) (o : MO) (h : (memG N gs).get b = some o) : wrO o = false := by
  obtain ⟨e, vs, _, _, rfl⟩ := memG_get _ gs b o h
  rfl
theorem muG_free {G : Nat} {gs : Gs} (n : Nat) : Free (muG G gs) (G + 1) n := fun k h _ => by
  unfold muG
  rw [if_neg (by omega)]

/-- Nothing that stood there may be written: all of it stays. -/
theorem Ext.below {μ μ' : Mp} {m m' : Mem} {w w' : World} (h : Ext μ m w μ' m' w') (hro : ∀ b o, m.get b = some o → wrO o = false) : Below w.heap.size w w' where
  os := h.os
  tape := h.tape
  output := h.output
  size := h.sz
  block := fun k hk => h.fr k hk fun b _ o _ _ ho => hro b o ho

/-- A CALL THAT BEGINS WITH WHAT IS LAID ALONE: what the mirror says of it, the machine does, and all that stood there stays. -/
theorem evCall_closed (hX : HookS P X) (hmix : P.follows .mixedOrders = true) {n : Nat} {f : FuncId} {args : List MV} {us : List Value} {m m' : Mem} {v : MV} {μ : Mp} {w : World}
    (he : evCall P X K n f args m = .ok v m') (hro : ∀ b o, m.get b = some o → wrO o = false) (h : Rel P μ m w) (hf : Free μ m.next m'.next) (hu : trs μ args = some us) :
    Calls P f us.toArray w fun e w' => ∃ u μ', e = .returned u ∧ tr μ' v = some u ∧ Below w.heap.size w w' := by
  refine callsIn_wide.1 (CallsIn.mono (n := 0) ((evCall_sound hX hmix n).ok f args m v m' he μ w us 0 h hf hu) ?_)
  rintro e w' ⟨u, μ', rfl, h2, _, h4⟩
  exact ⟨u, μ', rfl, h2, h4.below hro⟩

def saysTrue : CRes → Bool
  | .ok (.bool true) _ => true
  | _ => false
theorem saysTrue_ok {r : CRes} (h : saysTrue r = true) : ∃ m', r = .ok (.bool true) m' := by
  cases r with
  | ok v m =>
    cases v with
    | bool b => cases b with
      | true => exact ⟨m, rfl⟩
      | false => cases h
    | _ => cases h
  | _ => cases h

/-- THE SAME OF A CALL THAT SAYS 'TRUE', over rows that are laid. -/
theorem calls_true (hX : HookS P X) (hmix : P.follows .mixedOrders = true) {G : Nat} (hG : P.globals.size = G) {n : Nat} {f : FuncId} {args : List MV} {us : List Value} {gs : Gs} {w : World}
    (he : (memGK (G + 1) gs fun m => saysTrue (evCall P X K n f args m)) = true) (hw : ∀ g, g ≤ G → g < w.heap.size)
    (hgs : ∀ x ∈ gs, x.1 ≤ G ∧ ∃ us lh, w.heap[x.1]? = some (.cells (List.toArray us) x.2.1 lh) ∧ trs (muG G gs) x.2.2 = some us) (hu : trs (muG G gs) args = some us) :
    Calls P f us.toArray w fun e w' => e = .returned (.bool true) ∧ Below w.heap.size w w' := by
  subst hG
  rw [memGK_eq] at he
  obtain ⟨m', hm⟩ := saysTrue_ok he
  refine (evCall_closed hX hmix hm memG_ro (rel_memG hw hgs) ?_ hu).mono ?_
  · rw [memG_next]; exact muG_free _
  · rintro e w' ⟨u, μ', rfl, h2, h3⟩
    cases h2
    exact ⟨rfl, h3⟩
end
end
end Go.Mir

/-! THE MIRROR, LAWS 36: what is laid, as cells; the frame of a statement. -/
namespace Go.Mir
open Go.RowKit Go.WideShapes Go.ChangeShapes
noncomputable section

/-! ### Plain data as cells -/
def flatAll (f : DataW Unit → Option (List Value)) (c : Nat) : List (DataW Unit) → Option (List Value)
  | [] => some []
  | d :: ds => match f d with
    | none => none
    | some a => match flatAll f c ds with
      | none => none
      | some b => match Nat.beq a.length c with | true => some (a ++ b) | false => none
def flatFs (P : Program) (f : TypeId → DataW Unit → Option (List Value)) : List Field → Nat → List (DataW Unit) → Option (List Value)
  | [], _, [] => some []
  | fd :: fs, o, d :: ds => match f fd.type d with
    | none => none
    | some a => match flatFs P f fs (o + a.length) ds with
      | none => none
      | some b => match Nat.beq fd.offset o && Nat.beq a.length (P.cellsOf fd.type) with | true => some (a ++ b) | false => none
  | _, _, _ => none
def flatD (P : Program) : Nat → TypeId → DataW Unit → Option (List Value)
  | 0, _, _ => none
  | n + 1, t, d => match P.underlying t with
    | some .bool => match d with | .lit (.bool b) => some [.bool b] | _ => none
    | some (.int k) => match d with | .lit (.int _ m) => some [.int k m] | _ => none
    | some .string => match d with | .lit (.string s) => some [.string ⟨⟨s⟩⟩] | _ => none
    | some (.array k e) => match d with
      | .agg ds => match flatAll (flatD P n e) (P.cellsOf e) ds with
        | some cs => match Nat.beq cs.length (P.cellsOf t) && Nat.beq ds.length k with | true => some cs | false => none
        | none => none
      | _ => none
    | some (.struct fs) => match d with
      | .agg ds => match flatFs P (flatD P n) fs.toList 0 ds with
        | some cs => match Nat.beq cs.length (P.cellsOf t) with | true => some cs | false => none
        | none => none
      | _ => none
    | _ => none

theorem flatAll_sound {f : DataW Unit → Option (List Value)} {c : Nat} {Q : List Value → DataW Unit → Prop} (hQ : ∀ cs d us, Q cs d → f d = some us → cs = us) :
    ∀ (ds : List (DataW Unit)) (cs us : List Value), flatAll f c ds = some us → cs.length = us.length → (∀ (i : Nat) (d : DataW Unit), ds[i]? = some d → Q ((cs.drop (i * c)).take c) d) → cs = us
  | [], cs, us, h, hl, _ => by
    cases h
    exact List.length_eq_zero_iff.1 hl
  | d :: ds, cs, us, h, hl, hq => by
    unfold flatAll at h
    cases h1 : f d with
    | none => rw [h1] at h; cases h
    | some a =>
      cases h2 : flatAll f c ds with
      | none => rw [h1, h2] at h; cases h
      | some b =>
        rw [h1, h2] at h
        simp only [] at h
        cases h3 : Nat.beq a.length c with
        | false => rw [h3] at h; cases h
        | true =>
          rw [h3] at h
          cases h
          have h3' : a.length = c := Nat.eq_of_beq_eq_true h3
          have e0 := hQ _ _ _ (hq 0 d rfl) h1
          simp only [Nat.zero_mul, List.drop_zero] at e0
          have e1 := flatAll_sound hQ ds (cs.drop c) b h2 (by rw [List.length_drop, hl, List.length_append]; omega) (fun i d' hd => by
            have := hq (i + 1) d' (by simpa using hd)
            rw [Nat.succ_mul] at this
            rw [List.drop_drop, Nat.add_comm c]
            exact this)
          rw [← List.take_append_drop c cs, e0, e1]

theorem flatFs_sound {P : Program} {f : TypeId → DataW Unit → Option (List Value)} {Q : TypeId → List Value → DataW Unit → Prop} (hQ : ∀ t cs d us, Q t cs d → f t d = some us → cs = us) :
    ∀ (fs : List Field) (o : Nat) (ds : List (DataW Unit)) (cs us : List Value), flatFs P f fs o ds = some us → cs.length = o + us.length →
      (∀ (i : Nat) (fd : Field) (d : DataW Unit), fs[i]? = some fd → ds[i]? = some d → Q fd.type ((cs.drop fd.offset).take (P.cellsOf fd.type)) d) → cs.drop o = us
  | [], o, [], cs, us, h, hl, _ => by
    cases h
    exact List.drop_eq_nil_of_le (by simp at hl; omega)
  | [], o, _ :: _, cs, us, h, hl, _ => by cases h
  | _ :: _, o, [], cs, us, h, hl, _ => by cases h
  | fd :: fs, o, d :: ds, cs, us, h, hl, hq => by
    unfold flatFs at h
    cases h1 : f fd.type d with
    | none => rw [h1] at h; cases h
    | some a =>
      rw [h1] at h
      simp only [] at h
      cases h2 : flatFs P f fs (o + a.length) ds with
      | none => rw [h2] at h; cases h
      | some b =>
        rw [h2] at h
        simp only [] at h
        cases h3 : (Nat.beq fd.offset o && Nat.beq a.length (P.cellsOf fd.type)) with
        | false => rw [h3] at h; cases h
        | true =>
          rw [h3] at h
          cases h
          rw [Bool.and_eq_true] at h3
          have h4 : fd.offset = o := Nat.eq_of_beq_eq_true h3.1
          have h5 : a.length = P.cellsOf fd.type := Nat.eq_of_beq_eq_true h3.2
          have e0 := hQ _ _ _ _ (hq 0 fd d rfl rfl) h1
          have e1 := flatFs_sound hQ fs (o + a.length) ds cs b h2 (by rw [hl, List.length_append]; omega) (fun i fd' d' h6 h7 => hq (i + 1) fd' d' (by simpa using h6) (by simpa using h7))
          rw [h4, ← h5] at e0
          rw [← List.take_append_drop a.length (cs.drop o), e0, List.drop_drop, e1]

theorem flatD_sound {P : Program} {enc : TypeId × Value → Unit} {w : World} {base : Nat} {spare : Nat → Bool} {held : Bool} : ∀ (n : Nat) (t : TypeId) (d : DataW Unit) (us cs : List Value) (fuel : Nat) (ps : List MemPlace),
    flatD P n t d = some us → DataW.trod enc P w base spare held fuel t cs = some (d, ps) → cs = us
  | 0, _, _, _, _, _, _, h, _ => by cases h
  | n + 1, t, d, us, cs, fuel, ps, h, ht => by
    unfold flatD at h
    cases hu : P.underlying t with
    | none => rw [hu] at h; cases h
    | some td =>
      rw [hu] at h
      cases td with
      | bool =>
        obtain ⟨bb, rfl, hx⟩ := DataW.trod_bool hu ht
        cases hx
        simp only [Option.some.injEq] at h
        exact h
      | int k =>
        obtain ⟨m, rfl, hx, _⟩ := DataW.trod_int hu ht
        cases hx
        simp only [Option.some.injEq] at h
        exact h
      | string =>
        obtain ⟨s, rfl, hx, _⟩ := DataW.trod_string hu ht
        cases hx
        simp only [Option.some.injEq] at h
        exact h
      | array k e =>
        obtain ⟨xs, m, _, hx, hlen, hn, hel⟩ := DataW.trod_array hu ht
        cases hx
        simp only [] at h
        cases h2 : flatAll (flatD P n e) (P.cellsOf e) (xs.map (·.1)) with
        | none => rw [h2] at h; cases h
        | some b =>
          rw [h2] at h
          simp only [] at h
          cases h3 : (Nat.beq b.length (P.cellsOf t) && Nat.beq (xs.map (·.1)).length k) with
          | false => rw [h3] at h; cases h
          | true =>
            rw [h3] at h
            cases h
            rw [Bool.and_eq_true] at h3
            refine flatAll_sound (Q := fun cs d => ∃ ps, DataW.trod enc P w base spare held m e cs = some (d, ps)) (fun cs d us ⟨ps, hq⟩ hf => flatD_sound n e d us cs m ps hf hq) _ cs us h2 (by rw [hlen, Nat.eq_of_beq_eq_true h3.1]) ?_
            intro i d hd
            rw [List.getElem?_map] at hd
            cases hxi : xs[i]? with
            | none => rw [hxi] at hd; cases hd
            | some y =>
              rw [hxi] at hd
              cases hd
              have hi : i < k := by
                rw [← hn]
                rcases Nat.lt_or_ge i xs.length with g | g
                · exact g
                · rw [List.getElem?_eq_none g] at hxi; cases hxi
              exact ⟨y.2, by rw [hel i hi, hxi]⟩
      | struct fs =>
        obtain ⟨xs, m, _, hx, hlen, hn, hel⟩ := DataW.trod_struct hu ht
        cases hx
        simp only [] at h
        cases h2 : flatFs P (flatD P n) fs.toList 0 (xs.map (·.1)) with
        | none => rw [h2] at h; cases h
        | some b =>
          rw [h2] at h
          simp only [] at h
          cases h3 : Nat.beq b.length (P.cellsOf t) with
          | false => rw [h3] at h; cases h
          | true =>
            rw [h3] at h
            cases h
            have := flatFs_sound (P := P) (Q := fun t cs d => ∃ ps, DataW.trod enc P w base spare held m t cs = some (d, ps)) (fun t cs d us ⟨ps, hq⟩ hf => flatD_sound n t d us cs m ps hf hq) fs.toList 0 _ cs us h2 (by rw [hlen, Nat.eq_of_beq_eq_true h3]; omega) ?_
            · rwa [List.drop_zero] at this
            · intro i fd d hfd hd
              rw [List.getElem?_map] at hd
              cases hxi : xs[i]? with
              | none => rw [hxi] at hd; cases hd
              | some y =>
                rw [hxi] at hd
                cases hd
                exact ⟨y.2, by rw [hel i fd (by simpa using hfd), hxi]⟩
      | _ => cases h

theorem laidVars_mem {P : Program} {w : World} {x : String × DataW Unit} : ∀ {l : List (String × DataW Unit)} {ps : List MemPlace}, DataW.LaidVars P w l ps → x ∈ l →
    ∃ g t cs fuel p, P.globalNamed x.1 = some g ∧ (P.globals[g]?).map (·.type) = some t ∧ w.var? P x.1 = some cs ∧ DataW.trod (fun _ => ()) P w 0 (fun _ => true) false fuel t cs.toList = some (x.2, p)
  | [], _, _, h => by cases h
  | (n, d) :: r, ps, hl, h => by
    obtain ⟨g, t, cs, fuel, p, q, h1, h2, h3, h4, h5, _⟩ := hl
    rcases List.mem_cons.1 h with rfl | h
    · exact ⟨g, t, cs, fuel, p, h1, h2, h3, h4⟩
    · exact laidVars_mem h5 h

/-! ### A world in which a call begins -/
/-- Every package-level variable has its block, of so many cells, of its type; behind them stands the block of types. -/
theorem shaped_row {P : Program} {w : World} (h : w.ShapedOpen P) {g : Nat} {zero : Array Value} {t : TypeId} (hg : g < P.globals.size) (h0 : (((begin P (fun _ _ => 0) default).world.heap[g]?).bind Obj.row?) = some (zero, t)) :
    ∃ cs, w.heap[g]? = some (.cells cs t) := by
  obtain ⟨cs, h1, _, _⟩ := h.1 g zero t hg h0
  exact ⟨cs, h1⟩
def rowsB (P : Program) (w0 : World) : Nat → Bool
  | 0 => true
  | n + 1 => match (w0.heap[n]?).bind Obj.row? with | some _ => rowsB P w0 n | none => false
theorem rowsB_get {P : Program} {w0 : World} : ∀ (n : Nat), rowsB P w0 n = true → ∀ g, g < n → ∃ x, (w0.heap[g]?).bind Obj.row? = some x
  | 0, _, g, h => absurd h (Nat.not_lt_zero _)
  | n + 1, h, g, hg => by
    unfold rowsB at h
    cases hn : (w0.heap[n]?).bind Obj.row? with
    | none => rw [hn] at h; cases h
    | some x =>
      rw [hn] at h
      by_cases e : g = n
      · subst e; exact ⟨x, hn⟩
      · exact rowsB_get n h g (by omega)
theorem lt_of_get {α : Type} {a : Array α} {i : Nat} {x : α} (h : a[i]? = some x) : i < a.size := by
  rcases Nat.lt_or_ge i a.size with g | g
  · exact g
  · rw [Array.getElem?_eq_none g] at h; cases h
theorem shaped_lt {P : Program} {w : World} (h : w.ShapedOpen P) {G : Nat} (hG : P.globals.size = G) (h0 : rowsB P (begin P (fun _ _ => 0) default).world G = true) (h1 : Nat.blt G (begin P (fun _ _ => 0) default).world.heap.size = true) :
    ∀ g, g ≤ G → g < w.heap.size := by
  intro g hg
  by_cases e : g = G
  · subst e
    obtain ⟨o, o0, h2, _, _⟩ := h.2 g (by omega) (blt_lt h1)
    exact lt_of_get h2
  · obtain ⟨⟨z, t⟩, hx⟩ := rowsB_get G h0 g (by omega)
    obtain ⟨cs, h2⟩ := shaped_row h (by omega) hx
    exact lt_of_get h2

/-- A VARIABLE THAT IS LAID: its row. -/
theorem row_of_laid {P : Program} {w : World} (hs : w.ShapedOpen P) {l : List (String × DataW Unit)} {ps : List MemPlace} (hl : DataW.LaidVars P w l ps) {name : String} {d : DataW Unit} (hm : (name, d) ∈ l) {g : Nat} {t e : TypeId} {us : List Value}
    (hg : P.globalNamed name = some g) (hlt : g < P.globals.size) (ht : (P.globals[g]?).map (·.type) = some t) (hf : flatD P 8 t d = some us) {zero : Array Value} (h0 : (((begin P (fun _ _ => 0) default).world.heap[g]?).bind Obj.row?) = some (zero, e)) :
    ∃ lh, w.heap[g]? = some (.cells us.toArray e lh) := by
  obtain ⟨g', t', cs, fuel, p, h1, h2, h3, h4⟩ := laidVars_mem hl hm
  obtain rfl := Option.some.inj (hg.symm.trans h1)
  obtain rfl := Option.some.inj (ht.symm.trans h2)
  obtain ⟨cs', h5⟩ := shaped_row hs hlt h0
  have h6 := flatD_sound 8 t d us cs.toList fuel p hf h4
  simp only [World.var?, hg, Option.bind_some, h5, Option.some.injEq] at h3
  subst h3
  subst h6
  exact ⟨_, by rw [h5]⟩
/-- A variable that holds a handle of a type. -/
theorem row_of_var {P : Program} {w : World} (hs : w.ShapedOpen P) {name : String} {cs : Array Value} (hv : w.var? P name = some cs) {g : Nat} {e : TypeId}
    (hg : P.globalNamed name = some g) (hlt : g < P.globals.size) {zero : Array Value} (h0 : (((begin P (fun _ _ => 0) default).world.heap[g]?).bind Obj.row?) = some (zero, e)) :
    ∃ lh, w.heap[g]? = some (.cells cs e lh) := by
  obtain ⟨cs', h5⟩ := shaped_row hs hlt h0
  simp only [World.var?, hg, Option.bind_some, h5, Option.some.injEq] at hv
  subst hv
  exact ⟨_, h5⟩

/-! ### The frame of a statement -/
section
variable {H : Type} {enc : TypeId × Value → H}
/-- 'returnsInHanded_of_change_and', and the contract is told that the world has its shape. -/
theorem returns_shaped {a : Assume} {C : Checked} {os : Os} {f : FuncId} {fn : Func} {s : ChangeSpec} {conds : List PathCond} {apart fresh handsOn again : Bool} {X : World → Array Value → Prop}
    (hX : ∀ (w w' : World) (args : Array Value), w.heap = w'.heap → X w args → X w' args)
    (own : ownKnob C.prog.godebug = none) (started : os.Started) (noInit : C.prog.inits.idxOf? f = none) (hfn : C.prog.funcs[f]? = some fn)
    (witness : ∃ (w : World) (tape : Tape) (i : Input), w.os = os ∧ (w.forCall tape i).Shaped C.prog ∧ i.vars = [] ∧ Input.okWide C.prog (w.forCall tape i) .any w.heap.size f i ∧
      ((s.pre enc C.prog fn conds apart (w.forCall tape i).memory i.args ∧ X (w.forCall tape i).memory i.args) ∧ sizedMet enc C.prog fn (OpenSpec.ofChange s) apart (w.forCall tape i).memory i.args) ∧ a.holds C.prog (lone (Frame.enter C.prog f i.args .normal) [] (w.forCall tape i)))
    (contract : ∀ (W : World) (base : Nat) (args : Array Value) (ds gs : List (DataW H)) (before : List MemPlace), W.ShapedOpen C.prog →
      (∀ (j : Nat) t v, fn.params[j]? = some t → args[j]? = some v → Value.okWide C.prog W .any base t v) →
      DataW.Whole enc C.prog fn.params.toList s.vars apart W args.toList ds gs before →
      (DataW.weightsEach C.prog (fn.params.toList ++ s.plain.varTypes C.prog) (ds ++ gs)).all (· ≤ reachBytes) = true → X W args →
      Calls C.prog f args W fun e W' => ∃ v, e = .returned v ∧ s.post enc C.prog fn apart fresh handsOn again W args v W') :
    ReturnsInHanded a C os f .any (fun w args => (s.pre enc C.prog fn conds apart w args ∧ X w args) ∧ sizedMet enc C.prog fn (OpenSpec.ofChange s) apart w args) (s.post enc C.prog fn apart fresh handsOn again) := by
  refine returnsInHanded_of_calls own started noInit witness ?_
  intro w tape i _ hshape _ hok hpre _
  obtain ⟨_, _, _, fn', hfn', _, _, _, _, hval⟩ := hok
  obtain rfl : fn' = fn := Option.some.inj (hfn'.symm.trans hfn)
  obtain ⟨⟨⟨ds, gs, before, hw, _⟩, hx⟩, hz⟩ := hpre
  refine (contract (w.forCall tape i) w.heap.size i.args ds gs before hshape hval (DataW.Whole.of_heap (w := (w.forCall tape i).memory) (w' := w.forCall tape i) (by rfl) hw) (hz.weights hw) (hX (w.forCall tape i).memory _ _ (by rfl) hx)).mono fun e W' ⟨v, he, hp⟩ => ?_
  subst he
  exact ChangeSpec.post_blind hp

/-- 'post' where nothing that stood there has turned: a law's: 'true', and the arguments read as they did. -/
theorem post_true {P : Program} {f : Func} {s : ChangeSpec} {apart fresh handsOn again : Bool} {W W' : World} {args : Array Value} {ds : List (DataW H)} {before : List MemPlace} {tb : TypeId}
    (hW : DataW.Whole enc P f.params.toList s.vars apart W args.toList ds [] before) (hv : s.vars = []) (hb : Below W.heap.size W W') (ht : P.underlying tb = some .bool) (hr : f.resultTypes = #[tb])
    (h1 : (s.fn H (ds ++ [])).results = [.lit (.bool true)]) (h2 : (s.fn H (ds ++ [])).args = ds) (h3 : (s.fn H (ds ++ [])).vars = [])
    (hargs : ∀ sp : Nat → Bool, (∀ p ∈ before, sp p.block = true) → DataW.TrodAll enc P W' 0 sp true f.params.toList args.toList ds before) :
    s.post enc P f apart fresh handsOn again W args (.bool true) W' := by
  have hlt : ∀ p ∈ before, p.block < W.heap.size := fun p hp => hW.lt p hp
  have hold : ∀ p ∈ before, (fun b => decide (b < W.heap.size)) p.block = true := fun p hp => by simpa using hlt p hp
  have hres : ∀ (b : Nat) (sp : Nat → Bool) (hd : Bool), DataW.TrodAll enc P W' b sp hd f.resultTypes.toList ((Value.bool true).resultList f.resultTypes.size) (s.fn H (ds ++ [])).results [] := fun b sp hd => by
    rw [h1, hr]; exact trodAll_mk1 (shut_bool ht true)
  have hvars : ∀ sp : Nat → Bool, DataW.TrodVars enc P W' sp s.vars (s.fn H (ds ++ [])).vars [] := fun sp => by rw [hv, h3]; rfl
  have ha : ∀ sp : Nat → Bool, (∀ p ∈ before, sp p.block = true) → DataW.TrodAll enc P W' 0 sp true f.params.toList args.toList (s.fn H (ds ++ [])).args before := fun sp hp => by rw [h2]; exact hargs sp hp
  refine ⟨ds, [], before, [], before, [], hW, hres _ _ _, ha _ hold, hvars _, World.keptBut_mono (fun p hp => ⟨hp, ?_⟩) (hb.frame (· ∈ before)), fun _ => ?_⟩
  · exact Or.inr (by simpa using hp)
  · obtain ⟨_, _, _, _, _, hz, hn⟩ := hW
    refine ⟨ok_one hr rfl (okWide_bool_mk ht _), _, _, before, ⟨before, [], by simpa using trodAll_append (ha (fun _ => true) (fun _ _ => rfl)) (hres 0 (fun _ => true) true), hvars _, by simp, ?_, ?_⟩, ?_⟩
    · intro b off hp
      rw [hb.frozen (hlt _ hp)]
      exact hz b off hp
    · intro ha'
      exact hn ha'
    · intro p hp _
      exact hp
end
end
end Go.Mir

/-! THE MIRROR, LAWS 37: hooks out of contracts: a call that turns nothing; a call that writes one cell; errors.As. -/
namespace Go.Mir
open Go.RowKit
noncomputable section
section
variable {P : Program} {X : Hook} {K : Masks} {μ : Mp} {m m' : Mem} {w w' : World}

theorem Rel.onward (h : Rel P μ m w) (hb : Below w.heap.size w w') : Rel P μ m w' where
  lt := fun b x e => Nat.lt_of_lt_of_le (h.lt b x e) hb.size
  sh0 := h.sh0
  blk := fun b x o e k => by rw [hb.block _ (h.lt b x e)]; exact h.blk b x o e k
  inj := h.inj
  glob := h.glob
  wf := h.wf
  low := h.low
theorem Ext.onward (hb : Below w.heap.size w w') : Ext μ m w μ m w' where
  le := Mp.le_refl μ
  new := fun b x h k => by rw [h] at k; cases k
  nx := Nat.le_refl _
  mfr := fun _ _ _ => rfl
  non := fun _ _ h => h
  ro := fun _ _ h _ => h
  wro := fun _ o h k => ⟨o, h, k⟩
  fr := fun r hr _ => hb.block r hr
  sz := hb.size
  os := hb.os
  tape := hb.tape
  output := hb.output

/-- A function with a body, by its contract: it turns nothing. -/
theorem upon_below {g : FuncId} {fn : Func} {c : Code} {us : List Value} {v : MV} {u : Value} (hf : P.funcs[g]? = some fn) (hn : (fn.name == "runtime.NumGoroutine") = false) (hc : fn.body = some c)
    (h : Rel P μ m w) (ht : tr μ v = some u) (hcall : Calls P g us.toArray w fun e w' => e = .returned u ∧ Below w.heap.size w w') : Upon P μ m w v m (callFunc g us.toArray) := by
  refine upon_call (callFunc_enter hf hn hc) fun n => (callsIn_wide.2 hcall).mono ?_
  rintro e w' ⟨rfl, hb⟩
  exact ⟨u, μ, rfl, ht, h.onward hb, Ext.onward hb⟩

theorem setCell_of_storeCells {r o : Nat} {u : Value} {w'' : World} {e : TypeId} {lh : Nat × Nat} {c : Array Value} (h1 : u.oneCell = true) (hh : w.heap[r]? = some (.cells c e lh)) (hlt : o < c.size)
    (hn : ¬ (lh.1 ≤ o ∧ o < lh.2)) (hs : (storeCells ⟨r, o, none⟩ [u]).run P w = .ok () w'') : w'' = w.setCell ⟨r, o, none⟩ u := by
  have hcell : w.cell? ⟨r, o, none⟩ = some c[o] := by simp [World.cell?, hh, hlt]
  have hfro : w.frozen? ⟨r, o, none⟩ = false := by simp only [World.frozen?, hh]; simpa using hn
  have hst := run_store_one (P := P) h1 hcell hfro
  have e0 : (⟨r, o, none⟩ : Addr).add 0 = ⟨r, o, none⟩ := by rw [addr_add]; rfl
  simp only [storeCells, Sem.run_bind, e0, hst, Result.andThen_ok, Sem.run_pure, Result.ok.injEq, true_and] at hs
  exact hs.symm

/-- A cell that a hook writes: what stands there, and that it may be written. -/
theorem Rel.target (h : Rel P μ m w) {b off : Nat} {x : Pl} {v0 : MV} {m' : Mem} (hb : μ b = some x) (hw : m.write b off [v0] = some m') :
    ∃ c e lh, w.heap[x.r]? = some (.cells c e lh) ∧ x.sh + off < c.size ∧ ¬ (lh.1 ≤ x.sh + off ∧ x.sh + off < lh.2) ∧ v0.one = true := by
  rcases Mem.write_spec hw with ⟨q, _⟩ | ⟨t, n, e, fz, hg, hfz, h1, hn, rfl⟩
  · cases q
  · obtain ⟨ob, k1, k2, c, lh, k3, k4, k5, k6⟩ := h.blk b x _ hb hg
    subst k3
    have hn' : off + 1 ≤ n := hn
    refine ⟨c, e, lh, k1, by omega, k6 rfl _ (by omega) (by omega), h1 _ (List.mem_cons_self ..)⟩

/-- A function with a body, by its contract: it writes one cell (and may lay new blocks). -/
theorem upon_write {g : FuncId} {fn : Func} {c : Code} {us : List Value} {v v0 : MV} {u u0 : Value} {b off : Nat} {x : Pl} (hf : P.funcs[g]? = some fn) (hn : (fn.name == "runtime.NumGoroutine") = false) (hc : fn.body = some c)
    (h : Rel P μ m w) (ht : tr μ v = some u) (hb : μ b = some x) (hw : m.write b off [v0] = some m') (h0 : tr μ v0 = some u0)
    (hcall : Calls P g us.toArray w fun e w' => e = .returned u ∧ ∃ w1, Below w.heap.size w w1 ∧ w' = w1.setCell ⟨x.r, x.sh + off, none⟩ u0) : Upon P μ m w v m' (callFunc g us.toArray) := by
  refine upon_call (callFunc_enter hf hn hc) fun n => (callsIn_wide.2 hcall).mono ?_
  rintro e w' ⟨rfl, w1, hb1, rfl⟩
  have hR := h.onward hb1
  obtain ⟨c, e, lh, k1, k2, k3, k4⟩ := hR.target hb hw
  have hus : trs μ [v0] = some [u0] := by simp [trs, h0]
  obtain ⟨w'', q1, q2, q3⟩ := hR.write hb hw hus
  have h1 : u0.oneCell = true := tr_one h0 k4
  have := setCell_of_storeCells h1 k1 k2 k3 q1
  subst this
  refine ⟨u, μ, rfl, ht, q2, ?_⟩
  exact Ext.trans h.wf hR.wf (fun k a b => by
    have e1 : m'.next = m.next := by
      rcases Mem.write_spec hw with ⟨q, _⟩ | ⟨_, _, _, _, _, _, _, _, rfl⟩
      · cases q
      · rfl
    omega) (Ext.onward hb1) q3

/-! ### errors.As -/
/-- What the hook asks of a program: the number of errors.As; the types: the error's own, a pointer to it; the row of errors.errorType: its block, what it holds. -/
def hookAs (f te tp : Nat) (g : Nat) (hv : MV) : Hook := fun fn args m =>
  match Nat.beq fn f with
  | false => none
  | true => match args with
    | [.nili, _] => some (.bool false, m)
    | [.iface t v, .iface t' (.ptr b off)] => match Nat.beq t te && Nat.beq t' tp with
      | false => none
      | true => match v with
        | .ptr _ _ => match m.read g 0 1 with
          | some [x] => match same x hv with
            | true => m.writeK b off [v] fun
              | some m => some (.bool true, m)
              | none => none
            | false => none
          | _ => none
        | _ => none
    | _ => none

/-- What a program must show of its errors.As: 'nt': the type's place in the block of types. -/
structure AsF (P : Program) (f te tp g rt nt : Nat) : Prop where
  body : ∃ fn c, P.funcs[f]? = some fn ∧ (fn.name == "runtime.NumGoroutine") = false ∧ fn.body = some c
  low : g < P.globals.size
  nil : ∀ t w, Calls P f #[.nilIface, t] w fun e w' => e = .returned (.bool false) ∧ w' = w
  hit : ∀ (e t : Addr) (old : Value) (w : World), w.cell? ⟨g, 0, none⟩ = some (.iface rt (.agg #[.pointer (some ⟨P.globals.size, nt, none⟩)])) → w.cell? t = some old → w.frozen? t = false →
    Calls P f #[.iface te (.pointer (some e)), .iface tp (.pointer (some t))] w fun ev w' => ev = .returned (.bool true) ∧ ∃ w1, Below w.heap.size w w1 ∧ w' = w1.setCell t (.pointer (some e))

theorem cellW {b off : Nat} {c : Array Value} {e : TypeId} {lh : Nat × Nat} (hh : w.heap[b]? = some (.cells c e lh)) (hlt : off < c.size) (hn : ¬ (lh.1 ≤ off ∧ off < lh.2)) :
    w.cell? ⟨b, off, none⟩ = some c[off] ∧ w.frozen? ⟨b, off, none⟩ = false := by
  refine ⟨by simp [World.cell?, hh, hlt], ?_⟩
  simp only [World.frozen?, hh]
  simpa using hn

theorem hookAs_sound {f te tp g rt nt G : Nat} (hG : P.globals.size = G) (F : AsF P f te tp g rt nt) : HookS P (hookAs f te tp g (.iface rt (.agg [.ptr G nt]))) := by
  subst hG
  intro fn args m v m' hx μ w us h hf hu
  unfold hookAs at hx
  obtain ⟨fu, c, b1, b2, b3⟩ := F.body
  cases hfn : Nat.beq fn f with
  | false => rw [hfn] at hx; cases hx
  | true =>
    obtain rfl : fn = f := Nat.eq_of_beq_eq_true hfn
    rw [hfn] at hx
    simp only [] at hx
    split at hx
    · cases hx
      obtain ⟨u1, us1, rfl, k1, k2⟩ := trs_cons hu
      obtain ⟨u2, us2, rfl, k3, k4⟩ := trs_cons k2
      have := trs_nil k4
      subst this
      cases k1
      exact upon_below b1 b2 b3 h rfl ((F.nil u2 w).mono fun e w' ⟨he, hw⟩ => ⟨he, hw ▸ Below.refl _ _⟩)
    · rename_i t y t' b off
      cases ht : (Nat.beq t te && Nat.beq t' tp) with
      | false => rw [ht] at hx; cases hx
      | true =>
        rw [ht] at hx
        simp only [] at hx
        rw [Bool.and_eq_true] at ht
        obtain rfl : t = te := Nat.eq_of_beq_eq_true ht.1
        obtain rfl : t' = tp := Nat.eq_of_beq_eq_true ht.2
        split at hx
        · rename_i eb eo
          split at hx
          · rename_i z hr
            cases hs : same z (.iface rt (.agg [.ptr P.globals.size nt])) with
            | false => rw [hs] at hx; cases hx
            | true =>
              rw [hs] at hx
              simp only [Mem.writeK_eq] at hx
              obtain rfl := same_eq hs
              cases hw : m.write b off [.ptr eb eo] with
              | none => rw [hw] at hx; cases hx
              | some m1 =>
                rw [hw] at hx
                cases hx
                obtain ⟨u1, us1, rfl, k1, k2⟩ := trs_cons hu
                obtain ⟨u2, us2, rfl, k3, k4⟩ := trs_cons k2
                have := trs_nil k4
                subst this
                obtain ⟨e', q1, rfl⟩ := tr_iface_inv k1
                obtain ⟨t', q2, rfl⟩ := tr_iface_inv k3
                obtain ⟨xe, q3, rfl⟩ := tr_ptr_inv q1
                obtain ⟨xt, q4, rfl⟩ := tr_ptr_inv q2
                obtain ⟨xg, g1, g2, g3⟩ := h.glob g (Nat.le_of_lt F.low)
                obtain ⟨xG, g4, g5, g6⟩ := h.glob P.globals.size (Nat.le_refl _)
                have hcell : w.cell? ⟨g, 0, none⟩ = some (.iface rt (.agg #[.pointer (some ⟨P.globals.size, nt, none⟩)])) := by
                  rcases Mem.read_spec hr with ⟨q, _⟩ | ⟨tt, n, el, ro, fz, a1, a2, a3, a4⟩
                  · cases q
                  · obtain ⟨u, c1, c2⟩ := h.cell g1 a1 (i := 0) (by omega) (by simpa using a4 0 _ rfl)
                    rw [g2, g3] at c1
                    simp only [tr, trs, g4, g5, g6] at c2
                    cases c2
                    simpa using c1
                obtain ⟨cc, el, lh, d1, d2, d3, _⟩ := h.target q4 hw
                obtain ⟨d4, d5⟩ := cellW d1 d2 d3
                exact upon_write b1 b2 b3 h rfl q4 hw q1 (F.hit ⟨xe.r, xe.sh + eo, none⟩ ⟨xt.r, xt.sh + off, none⟩ _ w hcell d4 d5)
          · cases hx
        · cases hx
    · cases hx
end
end
end Go.Mir
