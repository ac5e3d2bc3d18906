/- The mirror, part 8 of 8: a deterministic evaluator of the code, which the kernel runs, and the proof that what it says of a call, the machine does, in every memory and on every tape. No condition. -/
import Derived.Test.YtjhicfeelgoneaaGreatDoorMir7

/-! THE MIRROR, LAWS 49: a hook out of a table of closed calls that lay new memory: what the call has laid is laid anew, under new names. -/
namespace Go.Mir
open Go.RowKit
noncomputable section

/-! ### Values under new names: names up to G stay, the others go up by d -/
def shB (G d b : Nat) : Nat := match Nat.ble b G with
  | true => b
  | false => b + d
def shFn (G d : Nat) : Fn → Fn
  | .yield l => .yield (shB G d l)
  | f => f
mutual
def shV (G d : Nat) : MV → MV
  | .ptr b off => .ptr (shB G d b) off
  | .sl b off len cap sz ex => .sl (shB G d b) off len cap sz ex
  | .es b base adv sz => .es (shB G d b) base adv sz
  | .map b => .map (shB G d b)
  | .func fn first caps => .func (shFn G d fn) (shVs G d first) (shVs G d caps)
  | .iface t v => .iface t (shV G d v)
  | .agg cs => .agg (shVs G d cs)
  | .tup cs => .tup (shVs G d cs)
  | v => v
def shVs (G d : Nat) : List MV → List MV
  | [] => []
  | v :: vs => shV G d v :: shVs G d vs
end
/-- All names in a value stand for something. -/
def fnOk (ok : Nat → Bool) : Fn → Bool
  | .yield l => ok l
  | _ => true
mutual
def namesOk (ok : Nat → Bool) : MV → Bool
  | .ptr b _ => ok b
  | .sl b _ _ _ _ _ => ok b
  | .es b _ _ _ => ok b
  | .map b => ok b
  | .func fn first caps => fnOk ok fn && namesOks ok first && namesOks ok caps
  | .iface _ v => namesOk ok v
  | .agg cs => namesOks ok cs
  | .tup cs => namesOks ok cs
  | _ => true
def namesOks (ok : Nat → Bool) : List MV → Bool
  | [] => true
  | v :: vs => namesOk ok v && namesOks ok vs
end
section
variable {μ μ' : Mp} {G d : Nat} {ok : Nat → Bool}
theorem trFn_sh (h : ∀ b x, ok b = true → μ b = some x → μ' (shB G d b) = some x) {fn f : Fn} (hk : fnOk ok fn = true) (e : trFn μ fn = some f) : trFn μ' (shFn G d fn) = some f := by
  cases fn with
  | yield l =>
    simp only [trFn, shFn] at e ⊢
    cases hx : μ l with
    | none => rw [hx] at e; cases e
    | some x => rw [hx] at e; rw [h _ _ hk hx]; exact e
  | _ => exact e
mutual
theorem tr_sh (h : ∀ b x, ok b = true → μ b = some x → μ' (shB G d b) = some x) : ∀ (v : MV) {u : Value}, namesOk ok v = true → tr μ v = some u → tr μ' (shV G d v) = some u
  | .bool _, _, _, e => e
  | .int _ _, _, _, e => e
  | .str _, _, _, e => e
  | .nilp, _, _, e => e
  | .nils, _, _, e => e
  | .nilf, _, _, e => e
  | .nili, _, _, e => e
  | .nilm, _, _, e => e
  | .ptr b off, u, hk, e => by
    simp only [tr, shV] at e ⊢
    cases hx : μ b with
    | none => rw [hx] at e; cases e
    | some x => rw [hx] at e; rw [h _ _ hk hx]; exact e
  | .sl b off len cap sz ex, u, hk, e => by
    simp only [tr, shV] at e ⊢
    cases hx : μ b with
    | none => rw [hx] at e; cases e
    | some x => rw [hx] at e; rw [h _ _ hk hx]; exact e
  | .es b base adv sz, u, hk, e => by
    simp only [tr, shV] at e ⊢
    cases hx : μ b with
    | none => rw [hx] at e; cases e
    | some x => rw [hx] at e; rw [h _ _ hk hx]; exact e
  | .map b, u, hk, e => by
    simp only [tr, shV] at e ⊢
    cases hx : μ b with
    | none => rw [hx] at e; cases e
    | some x => rw [hx] at e; rw [h _ _ hk hx]; exact e
  | .iface t v, u, hk, e => by
    simp only [tr, shV] at e ⊢
    cases hx : tr μ v with
    | none => rw [hx] at e; cases e
    | some x => rw [hx] at e; rw [tr_sh h v hk hx]; exact e
  | .agg cs, u, hk, e => by
    simp only [tr, shV] at e ⊢
    cases hx : trs μ cs with
    | none => rw [hx] at e; cases e
    | some x => rw [hx] at e; rw [trs_sh h cs hk hx]; exact e
  | .tup cs, u, hk, e => by
    simp only [tr, shV] at e ⊢
    cases hx : trs μ cs with
    | none => rw [hx] at e; cases e
    | some x => rw [hx] at e; rw [trs_sh h cs hk hx]; exact e
  | .func fn a c, u, hk, e => by
    simp only [namesOk, Bool.and_eq_true] at hk
    simp only [tr, shV] at e ⊢
    cases hf : trFn μ fn with
    | none => rw [hf] at e; cases e
    | some f =>
      rw [hf] at e
      rw [trFn_sh h hk.1.1 hf]
      cases ha : trs μ a with
      | none => rw [ha] at e; cases e
      | some x =>
        rw [ha] at e
        rw [trs_sh h a hk.1.2 ha]
        cases hc : trs μ c with
        | none => rw [hc] at e; cases e
        | some y => rw [hc] at e; rw [trs_sh h c hk.2 hc]; exact e
theorem trs_sh (h : ∀ b x, ok b = true → μ b = some x → μ' (shB G d b) = some x) : ∀ (v : List MV) {u : List Value}, namesOks ok v = true → trs μ v = some u → trs μ' (shVs G d v) = some u
  | [], _, _, e => e
  | v :: vs, u, hk, e => by
    simp only [namesOks, Bool.and_eq_true] at hk
    simp only [trs, shVs] at e ⊢
    cases hv : tr μ v with
    | none => rw [hv] at e; cases e
    | some x =>
      rw [hv] at e
      rw [tr_sh h v hk.1 hv]
      cases hs : trs μ vs with
      | none => rw [hs] at e; cases e
      | some y => rw [hs] at e; rw [trs_sh h vs hk.2 hs]; exact e
end
theorem shVs_length : ∀ vs : List MV, (shVs G d vs).length = vs.length
  | [] => rfl
  | _ :: vs => by simp only [shVs, List.length_cons, shVs_length vs]
theorem shVs_get : ∀ (vs : List MV) (i : Nat) (v : MV), (shVs G d vs)[i]? = some v → ∃ v0, vs[i]? = some v0 ∧ v = shV G d v0
  | [], _, _, h => by simp [shVs] at h
  | v :: vs, 0, v', h => by
    simp only [shVs, List.getElem?_cons_zero, Option.some.injEq] at h
    exact ⟨v, rfl, h.symm⟩
  | v :: vs, i + 1, v', h => by
    simp only [shVs, List.getElem?_cons_succ] at h ⊢
    exact shVs_get vs i v' h
theorem namesOks_get : ∀ {vs : List MV} {i : Nat} {v : MV}, namesOks ok vs = true → vs[i]? = some v → namesOk ok v = true
  | [], _, _, _, h => by simp at h
  | v :: vs, 0, v', hk, h => by
    simp only [namesOks, Bool.and_eq_true] at hk
    simp only [List.getElem?_cons_zero, Option.some.injEq] at h
    exact h ▸ hk.1
  | v :: vs, i + 1, v', hk, h => by
    simp only [namesOks, Bool.and_eq_true] at hk
    exact namesOks_get hk.2 (by simpa using h)
end

/-! ### Blocks that are kept -/
inductive KO where
  | cells (e : TypeId) (ro : Bool) (fz : Nat) (vs : List MV)
  | map (es : List ME) (clock : Nat)
structure KB where
  b : Nat
  o : KO
def shMs (G d : Nat) : List ME → List ME
  | [] => []
  | x :: xs => ⟨shV G d x.key, shV G d x.val, x.born⟩ :: shMs G d xs
def KO.mo (G d : Nat) : KO → MO
  | .cells e ro fz vs => .cells (rowT (shVs G d vs) 0 .leaf) vs.length e ro fz
  | .map es clock => .map (shMs G d es) clock
def layB (G d : Nat) : List KB → Mem → Mem
  | [], m => m
  | x :: xs, m => (layB G d xs m).put (x.b + d) (x.o.mo G d)
def layBK {β : Type} (G d : Nat) : List KB → Mem → (Mem → β) → β
  | [], m, k => k m
  | x :: xs, m, k => layBK G d xs m fun m => match x.o with
    | .cells e ro fz vs => rowK (shVs G d vs) 0 .leaf fun t => m.putK (x.b + d) (.cells t vs.length e ro fz) k
    | .map es clock => m.putK (x.b + d) (.map (shMs G d es) clock) k
theorem layBK_eq {β : Type} (G d : Nat) : ∀ (bs : List KB) (m : Mem) (k : Mem → β), layBK G d bs m k = k (layB G d bs m)
  | [], _, _ => rfl
  | x :: xs, m, k => by
    rw [layBK, layBK_eq G d xs]
    obtain ⟨b, o⟩ := x
    cases o with
    | cells e ro fz vs => simp only [rowK_eq, Mem.putK_eq]; rfl
    | map es clock => simp only [Mem.putK_eq]; rfl
theorem layB_next (G d : Nat) : ∀ (bs : List KB) (m : Mem), (layB G d bs m).next = m.next
  | [], _ => rfl
  | _ :: xs, m => layB_next G d xs m
theorem layB_get (G d : Nat) : ∀ (bs : List KB) (m : Mem) (c : Nat) (o : MO), (layB G d bs m).get c = some o → m.get c = some o ∨ ∃ x ∈ bs, c = x.b + d ∧ o = x.o.mo G d
  | [], _, _, _, h => .inl h
  | x :: xs, m, c, o, h => by
    rw [layB, Mem.get_put] at h
    by_cases hc : c = x.b + d
    · rw [if_pos hc] at h
      exact .inr ⟨x, List.mem_cons_self .., hc, (Option.some.inj h).symm⟩
    · rw [if_neg hc] at h
      rcases layB_get G d xs m c o h with h | ⟨y, h1, h2⟩
      · exact .inl h
      · exact .inr ⟨y, List.mem_cons_of_mem _ h1, h2⟩
theorem layB_other (G d : Nat) : ∀ (bs : List KB) (m : Mem) (c : Nat), (∀ x ∈ bs, c ≠ x.b + d) → (layB G d bs m).get c = m.get c
  | [], _, _, _ => rfl
  | x :: xs, m, c, h => by
    rw [layB, Mem.get_put, if_neg (h x (List.mem_cons_self ..))]
    exact layB_other G d xs m c fun y hy => h y (List.mem_cons_of_mem _ hy)

/-! ### The table, the hook -/
structure EntC where
  f : FuncId
  args : List MV
  v : MV
  bs : List KB
  nx : Nat
def findC : List EntC → FuncId → List MV → Option EntC
  | [], _, _ => none
  | e :: es, f, args => match Nat.beq e.f f with
    | false => findC es f args
    | true => match sames args e.args with
      | true => some e
      | false => findC es f args
theorem findC_mem {f : FuncId} {args : List MV} {en : EntC} : ∀ {es : List EntC}, findC es f args = some en → en ∈ es ∧ en.f = f ∧ args = en.args
  | [], h => by cases h
  | e :: es, h => by
    unfold findC at h
    cases h1 : Nat.beq e.f f with
    | false =>
      rw [h1] at h
      obtain ⟨hx, r⟩ := findC_mem h
      exact ⟨List.mem_cons_of_mem _ hx, r⟩
    | true =>
      rw [h1] at h
      simp only [] at h
      cases h2 : sames args e.args with
      | false =>
        rw [h2] at h
        obtain ⟨hx, r⟩ := findC_mem h
        exact ⟨List.mem_cons_of_mem _ hx, r⟩
      | true =>
        rw [h2] at h
        cases h
        exact ⟨List.mem_cons_self .., Nat.eq_of_beq_eq_true h1, sames_eq h2⟩
abbrev RC := Option (MV × Mem)
def goC (G : Nat) (en : EntC) (m : Mem) : RC := forceN (m.next - (G + 1)) fun d => layBK G d en.bs m fun m1 => forceN (en.nx + d) fun nx => Mem.rec (motive := fun _ => RC) (fun t _ => some (shV G d en.v, ⟨t, nx⟩)) m1
def hookC (G : Nat) (gs : Gs) (es : List EntC) : Hook := fun f args m => match findC es f args with
  | none => none
  | some en => match rowsIn m gs with
    | true => goC G en m
    | false => none
theorem goC_eq (G : Nat) (en : EntC) (m : Mem) : goC G en m = some (shV G (m.next - (G + 1)) en.v, ⟨(layB G (m.next - (G + 1)) en.bs m).t, en.nx + (m.next - (G + 1))⟩) := by
  unfold goC
  rw [forceN_eq, layBK_eq, forceN_eq]

/-- No dead block. -/
def okN (m : Mem) (b : Nat) : Bool := match m.get b with
  | some .dead => false
  | _ => true
def samesM : List ME → List ME → Bool
  | [], [] => true
  | x :: xs, y :: ys => same x.key y.key && same x.val y.val && Nat.beq x.born y.born && samesM xs ys
  | _, _ => false
theorem samesM_eq : ∀ {xs ys : List ME}, samesM xs ys = true → xs = ys
  | [], [], _ => rfl
  | [], _ :: _, h => by cases h
  | _ :: _, [], h => by cases h
  | x :: xs, y :: ys, h => by
    simp only [samesM, Bool.and_eq_true] at h
    obtain ⟨⟨⟨h1, h2⟩, h3⟩, h4⟩ := h
    obtain ⟨a, b, c⟩ := x
    obtain ⟨a', b', c'⟩ := y
    have e1 : a = a' := same_eq h1
    have e2 : b = b' := same_eq h2
    have e3 : c = c' := Nat.eq_of_beq_eq_true h3
    subst e1; subst e2; subst e3
    rw [samesM_eq h4]
def namesOkM (ok : Nat → Bool) : List ME → Bool
  | [] => true
  | x :: xs => namesOk ok x.key && namesOk ok x.val && namesOkM ok xs
/-- Is a block that is kept what the run has left? -/
def keptB (G : Nat) (m : Mem) (x : KB) : Bool := match Nat.ble x.b G with
  | true => false
  | false => match x.o with
    | .cells e ro fz vs => match m.get x.b with
      | some (.cells t n e' ro' fz') => match Nat.beq e' e && Nat.beq n vs.length && Nat.beq fz' fz && (ro' == ro) && namesOks (okN m) vs with
        | true => match readT t n 0 n with
          | some vs' => sames vs' vs
          | none => false
        | false => false
      | _ => false
    | .map es clock => match m.get x.b with
      | some (.map es' clock') => Nat.beq clock' clock && samesM es' es && namesOkM (okN m) es
      | _ => false
def keptAll (G : Nat) (m : Mem) : List KB → Bool
  | [] => true
  | x :: xs => match keptB G m x with
    | true => keptAll G m xs
    | false => false
def saysC (G : Nat) (en : EntC) : CRes → Bool
  | .ok v m => same v en.v && Nat.beq m.next en.nx && namesOk (okN m) en.v && keptAll G m en.bs
  | _ => false
/-- What is kept, told. -/
inductive KeptB (m : Mem) : KB → Prop where
  | cells {b : Nat} {e : TypeId} {ro : Bool} {fz : Nat} {vs : List MV} {t : T MV} (h : m.get b = some (.cells t vs.length e ro fz)) (ht : ∀ i v, vs[i]? = some v → T.get (pth i) t = some v) (hk : namesOks (okN m) vs = true) : KeptB m ⟨b, .cells e ro fz vs⟩
  | map {b : Nat} {es : List ME} {clock : Nat} (h : m.get b = some (.map es clock)) (hk : namesOkM (okN m) es = true) : KeptB m ⟨b, .map es clock⟩
theorem keptB_spec {G : Nat} {m : Mem} {x : KB} (h : keptB G m x = true) : G < x.b ∧ KeptB m x := by
  unfold keptB at h
  cases h0 : Nat.ble x.b G with
  | true => rw [h0] at h; cases h
  | false =>
    rw [h0] at h
    have hG : G < x.b := by
      rcases Nat.lt_or_ge G x.b with g | g
      · exact g
      · rw [Nat.ble_eq_true_of_le g] at h0; cases h0
    refine ⟨hG, ?_⟩
    obtain ⟨b, o⟩ := x
    cases o with
    | cells e ro fz vs =>
      simp only [] at h
      split at h
      · rename_i t n e' ro' fz' hg
        cases hc : (Nat.beq e' e && Nat.beq n vs.length && Nat.beq fz' fz && (ro' == ro) && namesOks (okN m) vs) with
        | false => rw [hc] at h; cases h
        | true =>
          rw [hc] at h
          simp only [Bool.and_eq_true, beq_iff_eq] at hc
          obtain ⟨⟨⟨⟨c1, c2⟩, c3⟩, c4⟩, c5⟩ := hc
          obtain rfl := Nat.eq_of_beq_eq_true c1
          obtain rfl := Nat.eq_of_beq_eq_true c2
          obtain rfl := Nat.eq_of_beq_eq_true c3
          subst c4
          simp only [] at h
          cases hr : readT t vs.length 0 vs.length with
          | none => rw [hr] at h; cases h
          | some vs' =>
            rw [hr] at h
            obtain rfl := sames_eq h
            obtain ⟨_, _, h3⟩ := readT_spec t _ _ 0 vs' hr
            exact .cells hg (fun i v hv => by have := h3 i v hv; rwa [Nat.zero_add] at this) c5
      · cases h
    | map es clock =>
      simp only [] at h
      split at h
      · rename_i es' clock' hg
        simp only [Bool.and_eq_true] at h
        obtain ⟨⟨c1, c2⟩, c3⟩ := h
        obtain rfl := Nat.eq_of_beq_eq_true c1
        obtain rfl := samesM_eq c2
        exact .map hg c3
      · cases h
theorem keptAll_mem {G : Nat} {m : Mem} : ∀ {bs : List KB}, keptAll G m bs = true → ∀ x ∈ bs, G < x.b ∧ KeptB m x
  | [], _, x, hx => by cases hx
  | y :: ys, h, x, hx => by
    unfold keptAll at h
    cases h1 : keptB G m y with
    | false => rw [h1] at h; cases h
    | true =>
      rw [h1] at h
      rcases List.mem_cons.1 hx with rfl | hx
      · exact keptB_spec h1
      · exact keptAll_mem h x hx

section
variable {P : Program} {X : Hook} {K : Masks} {μ μ' : Mp} {m m' : Mem} {w w' : World} {G : Nat}
structure EntCF (P : Program) (G : Nat) (gs : Gs) (en : EntC) : Prop where
  body : ∃ fn c, P.funcs[en.f]? = some fn ∧ (fn.name == "runtime.NumGoroutine") = false ∧ fn.body = some c
  plain : lows G en.args = true
  runs : ∃ (X : Hook) (K : Masks) (n : Nat) (m1 : Mem), HookS P X ∧ evCall P X K n en.f en.args (memG (G + 1) gs) = .ok en.v m1 ∧ m1.next = en.nx ∧ namesOk (okN m1) en.v = true ∧ ∀ x ∈ en.bs, G < x.b ∧ KeptB m1 x

theorem mer_sh {μ μ' : Mp} {d : Nat} {ok : Nat → Bool} (h : ∀ b x, ok b = true → μ b = some x → μ' (shB G d b) = some x) : ∀ {es : List ME} {es' : List MapEntry}, namesOkM ok es = true → MER μ es es' → MER μ' (shMs G d es) es'
  | [], [], _, _ => trivial
  | [], _ :: _, _, k => by cases k
  | _ :: _, [], _, k => by cases k
  | x :: xs, y :: ys, hk, k => by
    simp only [namesOkM, Bool.and_eq_true] at hk
    obtain ⟨k1, k2, k3, k4⟩ := k
    exact ⟨tr_sh h _ hk.1.1 k1, tr_sh h _ hk.1.2 k2, k3, mer_sh h hk.2 k4⟩

theorem hookC_sound (hmix : P.follows .mixedOrders = true) (hG : P.globals.size = G) {gs : Gs} {es : List EntC} (hlow : (gs.all fun x => Nat.ble x.1 G && lows G x.2.2) = true) (hes : ∀ en ∈ es, EntCF P G gs en) : HookS P (hookC G gs es) := by
  intro f args m v m' hx μ w us h hfree hu
  unfold hookC at hx
  cases hfe : findC es f args with
  | none => rw [hfe] at hx; cases hx
  | some en =>
    rw [hfe] at hx
    simp only [] at hx
    cases hin : rowsIn m gs with
    | false => rw [hin] at hx; cases hx
    | true =>
      rw [hin] at hx
      simp only [goC_eq, Option.some.injEq, Prod.mk.injEq] at hx
      obtain ⟨hv, hm'⟩ := hx
      obtain ⟨he, rfl, rfl⟩ := findC_mem hfe
      obtain ⟨⟨fn, c, b1, b2, b3⟩, hp, X, K, n, m1, hX, hrun, hnx, hno, hkept⟩ := hes en he
      have hR := rel_within hG h hin hlow
      have hu0 : trs (cutMu G μ) en.args = some us := by rw [trs_low (fun b hb => cutMu_low hb) _ hp]; exact hu
      have hfree1 : Free (cutMu G μ) (memG (G + 1) gs).next m1.next := fun k hk _ => by
        rw [memG_next] at hk
        unfold cutMu
        rw [if_neg (by omega)]
      have hGm : G < m.next := hG ▸ h.low
      generalize hd : m.next - (G + 1) = d at hv hm'
      have hdm : m.next = G + 1 + d := by omega
      have hnext : m'.next = en.nx + d := by rw [← hm']
      refine upon_call (callFunc_enter b1 b2 b3) fun k => ((evCall_sound hX hmix n).ok _ _ _ _ _ hrun _ _ _ k hR hfree1 hu0).mono ?_
      rintro e w' ⟨u, μ1, rfl, hu1, hR1, hE⟩
      have hb := hE.below memG_ro
      have hnx1 : G + 1 ≤ m1.next := by have := hE.nx; rwa [memG_next] at this
      -- what the run has named
      have hnew : ∀ b x, G < b → μ1 b = some x → b < m1.next ∧ w.heap.size ≤ x.r := fun b x hb0 hx => by
        have h0 : cutMu G μ b = none := by unfold cutMu; rw [if_neg (by omega)]
        obtain ⟨_, a2, a3⟩ := hE.new b x hx h0
        refine ⟨a2, ?_⟩
        rcases a3 with a3 | ⟨b0, x0, o0, _, _, a6, a7⟩
        · exact a3
        · rw [memG_ro b0 o0 a6] at a7; cases a7
      have hold : ∀ b, b ≤ G → μ1 b = μ b := fun b hb0 => by
        obtain ⟨x, hx, _⟩ := h.glob b (hG ▸ hb0)
        have : cutMu G μ b = some x := by rw [cutMu_low hb0]; exact hx
        rw [hE.le b x this, hx]
      -- the names of both
      let μ2 : Mp := fun b => if b < m.next then μ b else if b < m'.next then (if okN m1 (b - d) = true then μ1 (b - d) else none) else μ b
      have hlo : ∀ b, b < m.next → μ2 b = μ b := fun b hb0 => if_pos hb0
      have hmid : ∀ b, m.next ≤ b → b < m'.next → μ2 b = (if okN m1 (b - d) = true then μ1 (b - d) else none) := fun b h1 h2 => by
        show (if b < m.next then μ b else if b < m'.next then (if okN m1 (b - d) = true then μ1 (b - d) else none) else μ b) = _
        rw [if_neg (by omega), if_pos h2]
      have hhi : ∀ b, m'.next ≤ b → μ2 b = μ b := fun b h1 => by
        show (if b < m.next then μ b else if b < m'.next then (if okN m1 (b - d) = true then μ1 (b - d) else none) else μ b) = _
        have : m.next ≤ m'.next := by omega
        rw [if_neg (by omega), if_neg (by omega)]
      have hsh : ∀ b x, okN m1 b = true → μ1 b = some x → μ2 (shB G d b) = some x := fun b x ho hx => by
        unfold shB
        by_cases hb0 : b ≤ G
        · rw [Nat.ble_eq_true_of_le hb0]
          simp only []
          rw [hlo b (by omega), ← hold b hb0, hx]
        · have h1 := (hnew b x (by omega) hx).1
          have : Nat.ble b G = false := by
            cases hq : Nat.ble b G with
            | false => rfl
            | true => exact absurd (Nat.le_of_ble_eq_true hq) hb0
          rw [this]
          simp only []
          rw [hmid (b + d) (by omega) (by omega), show b + d - d = b by omega, if_pos ho, hx]
      have hle : μ.le μ2 := fun b x hx => by
        by_cases h1 : b < m.next
        · rw [hlo b h1, hx]
        · by_cases h2 : b < m'.next
          · have := hfree b (by omega) h2
            rw [hx] at this; cases this
          · rw [hhi b (by omega), hx]
      have hnew2 : ∀ b x, μ2 b = some x → (∃ y, μ b = some y ∧ y = x ∧ (b < m.next ∨ m'.next ≤ b)) ∨ (m.next ≤ b ∧ b < m'.next ∧ okN m1 (b - d) = true ∧ μ1 (b - d) = some x ∧ w.heap.size ≤ x.r) := fun b x hx => by
        by_cases h1 : b < m.next
        · rw [hlo b h1] at hx; exact .inl ⟨x, hx, rfl, .inl h1⟩
        · by_cases h2 : b < m'.next
          · rw [hmid b (by omega) h2] at hx
            by_cases h3 : okN m1 (b - d) = true
            · rw [if_pos h3] at hx
              exact .inr ⟨by omega, h2, h3, hx, (hnew (b - d) x (by omega) hx).2⟩
            · rw [if_neg h3] at hx; cases hx
          · rw [hhi b (by omega)] at hx; exact .inl ⟨x, hx, rfl, .inr (by omega)⟩
      have hkn : ∀ x ∈ en.bs, x.b < en.nx := fun x hx => by
        obtain ⟨k1, k2⟩ := hkept x hx
        rcases Nat.lt_or_ge x.b en.nx with g | g
        · exact g
        · have := hR1.wf x.b (by omega)
          cases k2 with
          | cells hh _ _ => rw [this] at hh; cases hh
          | map hh _ => rw [this] at hh; cases hh
      have hget : ∀ b, m'.get b = (layB G d en.bs m).get b := fun b => by rw [← hm']; rfl
      have hgeto : ∀ b, b < m.next ∨ m'.next ≤ b → m'.get b = m.get b := fun b hb0 => by
        rw [hget]
        refine layB_other G d en.bs m b fun x hx => ?_
        have := (hkept x hx).1
        have := hkn x hx
        omega
      have hRel : Rel P μ2 m' w' := by
        refine ⟨?_, ?_, ?_, ?_, ?_, ?_, ?_⟩
        · intro b x hx
          rcases hnew2 b x hx with ⟨y, k1, rfl, _⟩ | ⟨_, _, _, k3, _⟩
          · exact Nat.lt_of_lt_of_le (h.lt b _ k1) hb.size
          · exact hR1.lt _ _ k3
        · intro b x hx
          rcases hnew2 b x hx with ⟨y, k1, rfl, _⟩ | ⟨_, _, _, k3, _⟩
          · exact h.sh0 b _ k1
          · exact hR1.sh0 _ _ k3
        · intro b x o hx ho
          rcases hnew2 b x hx with ⟨y, k1, rfl, k0⟩ | ⟨k1, k2, k2', k3, k4⟩
          · rw [hgeto b k0] at ho
            obtain ⟨ob, q1, q2⟩ := h.blk b _ o k1 ho
            exact ⟨ob, by rw [hb.block _ (h.lt b _ k1)]; exact q1, q2.mono hle⟩
          · rw [hget] at ho
            rcases layB_get G d en.bs m b o ho with q | ⟨z, q1, q2, q3⟩
            · rw [h.wf b k1] at q; cases q
            · subst q3
              obtain ⟨g1, g2⟩ := hkept z q1
              have e1 : b - d = z.b := by omega
              rw [e1] at k3
              cases g2 with
              | cells hh ht hk =>
                obtain ⟨ob, r1, r2⟩ := hR1.blk _ _ _ k3 hh
                obtain ⟨r3, cc, lh, r4, r5, r6, r7⟩ := r2
                refine ⟨ob, r1, ?_⟩
                refine ⟨r3, cc, lh, r4, r5, ?_, r7⟩
                intro i v' hi hv'
                rw [rowT_get, if_pos (by rw [shVs_length]; omega), Nat.sub_zero] at hv'
                obtain ⟨v0, s1, rfl⟩ := shVs_get _ i v' hv'
                obtain ⟨u0, s2, s3⟩ := r6 i v0 hi (ht i v0 s1)
                exact ⟨u0, s2, tr_sh hsh v0 (namesOks_get hk s1) s3⟩
              | map hh hk =>
                obtain ⟨ob, r1, r2⟩ := hR1.blk _ _ _ k3 hh
                obtain ⟨r3, es', r4, r5⟩ := r2
                exact ⟨ob, r1, r3, es', r4, mer_sh hsh hk r5⟩
        · intro b b' x x' hx hx' hr hd1 hd2
          rcases hnew2 b x hx with ⟨y, k1, rfl, k0⟩ | ⟨k1, k2, k2', k3, k4⟩
          · rcases hnew2 b' x' hx' with ⟨y', j1, rfl, j0⟩ | ⟨j1, j2, j2', j3, j4⟩
            · rw [hgeto b k0] at hd1
              rw [hgeto b' j0] at hd2
              exact h.inj b b' _ _ k1 j1 hr hd1 hd2
            · have := h.lt b _ k1
              omega
          · rcases hnew2 b' x' hx' with ⟨y', j1, rfl, j0⟩ | ⟨j1, j2, j2', j3, j4⟩
            · have := h.lt b' _ j1
              omega
            · have nd : ∀ c, okN m1 c = true → m1.get c ≠ some .dead := fun c hc q => by
                unfold okN at hc; rw [q] at hc; cases hc
              have := hR1.inj _ _ _ _ k3 j3 hr (nd _ k2') (nd _ j2')
              omega
        · intro g hg
          obtain ⟨x, k1, k2⟩ := h.glob g hg
          exact ⟨x, hle g x k1, k2⟩
        · intro b hb0
          rw [hgeto b (.inr hb0)]
          exact h.wf b (by omega)
        · have := h.low
          omega
      refine ⟨u, μ2, rfl, ?_, hRel, ?_⟩
      · rw [← hv]
        exact tr_sh hsh en.v hno hu1
      · refine ⟨hle, ?_, by omega, ?_, ?_, ?_, ?_, ?_, hb.size, hb.os, hb.tape, hb.output⟩
        · intro b x hx h0
          rcases hnew2 b x hx with ⟨y, k1, rfl, k0⟩ | ⟨k1, k2, k2', k3, k4⟩
          · rw [h0] at k1; cases k1
          · exact ⟨k1, k2, .inl k4⟩
        · intro b hb0 _
          exact hgeto b (.inl hb0)
        · intro b hb0 h0
          rw [hgeto b (.inl hb0)]; exact h0
        · intro b o h0 _
          rw [hgeto b (.inl ?_)]
          · exact h0
          · rcases Nat.lt_or_ge b m.next with g | g
            · exact g
            · rw [h.wf b g] at h0; cases h0
        · intro b o h0 h1
          refine ⟨o, ?_, h1⟩
          rw [hgeto b (.inl ?_)]
          · exact h0
          · rcases Nat.lt_or_ge b m.next with g | g
            · exact g
            · rw [h.wf b g] at h0; cases h0
        · intro r hr _
          exact hb.block r hr
end

/-! ### The runs of a table -/
section
variable (P : Program) (X : Hook) (K : Masks) (n G : Nat) (gs : Gs)
def runsC (es : List EntC) : Bool := match es with
  | [] => true
  | e :: es => match memGK (G + 1) gs fun m => saysC G e (evCallF P X K n e.f e.args m) with
    | true => runsC es
    | false => false
def formC (es : List EntC) : Bool := es.all fun e => lows G e.args && (match P.funcs[e.f]? with
  | some fn => !(fn.name == "runtime.NumGoroutine") && fn.body.isSome
  | none => false)
end
theorem saysC_ok {G : Nat} {en : EntC} {r : CRes} (h : saysC G en r = true) : ∃ m1, r = .ok en.v m1 ∧ m1.next = en.nx ∧ namesOk (okN m1) en.v = true ∧ ∀ x ∈ en.bs, G < x.b ∧ KeptB m1 x := by
  cases r with
  | ok v' m' =>
    simp only [saysC, Bool.and_eq_true] at h
    obtain ⟨⟨⟨h1, h2⟩, h3⟩, h4⟩ := h
    exact ⟨m', by rw [same_eq h1], Nat.eq_of_beq_eq_true h2, h3, keptAll_mem h4⟩
  | _ => cases h
theorem entC_of {P : Program} {X : Hook} {K : Masks} {n G : Nat} {gs : Gs} (hX : HookS P X) : ∀ {es : List EntC}, formC P G es = true → runsC P X K n G gs es = true → ∀ e ∈ es, EntCF P G gs e
  | [], _, _, e, he => by cases he
  | x :: es, hf, h, e, he => by
    unfold runsC at h
    cases h1 : (memGK (G + 1) gs fun m => saysC G x (evCallF P X K n x.f x.args m)) with
    | false => rw [h1] at h; cases h
    | true =>
      rw [h1] at h
      have hf' : formC P G es = true := by
        unfold formC at hf ⊢
        rw [List.all_cons, Bool.and_eq_true] at hf
        exact hf.2
      rcases List.mem_cons.1 he with rfl | he
      · rw [memGK_eq, evCallF_eq] at h1
        obtain ⟨m1, k1, k2, k3, k4⟩ := saysC_ok h1
        unfold formC at hf
        rw [List.all_cons, Bool.and_eq_true, Bool.and_eq_true] at hf
        obtain ⟨⟨a1, a3⟩, _⟩ := hf
        refine ⟨?_, a1, X, K, n, m1, hX, k1, k2, k3, k4⟩
        split at a3
        · rename_i fn hfn
          rw [Bool.and_eq_true] at a3
          obtain ⟨c1, c2⟩ := a3
          cases hb : fn.body with
          | none => rw [hb] at c2; cases c2
          | some c => exact ⟨fn, c, hfn, by simpa using c1, hb⟩
        · cases a3
      · exact entC_of hX hf' h e he
end
end Go.Mir

/-! THE MIRROR, LAWS 50: tables of closed calls, joined: a mask ahead of a table; the last run over them. -/
namespace Go.Mir
open Go.RowKit
noncomputable section
section
variable {P : Program} {X : Hook} {K : Masks} {G : Nat} {gs : Gs}
/-- A hook for the functions of a mask alone. -/
def hookB (k : Nat) (X : Hook) : Hook := fun f args m => match keeps k f with
  | true => X f args m
  | false => none
theorem hookB_sound {k : Nat} (h : HookS P X) : HookS P (hookB k X) := by
  intro f args m v m' hx
  unfold hookB at hx
  cases hk : keeps k f with
  | false => rw [hk] at hx; cases hx
  | true => rw [hk] at hx; exact h f args m v m' hx
theorem entC_append {xs ys : List EntC} (h : ∀ e ∈ xs, EntCF P G gs e) (h' : ∀ e ∈ ys, EntCF P G gs e) : ∀ e ∈ xs ++ ys, EntCF P G gs e := by
  intro e he
  rcases List.mem_append.1 he with he | he
  · exact h e he
  · exact h' e he
end
end
end Go.Mir

/-! THE MIRROR, LAWS 51: a hook for sort.Slice at no element or one, from the library's contract. -/
namespace Go.Mir
open Go.RowKit
noncomputable section
section
variable {P : Program}
def hookSrt (f t : Nat) : Hook := fun fn args m =>
  match Nat.beq fn f with
  | false => none
  | true => match args with
    | [.iface t' x, .func _ _ _] => match Nat.beq t' t with
      | false => none
      | true => match x with
        | .nils => some (.tup [], m)
        | .sl _ _ n _ _ true => match Nat.ble n 1 with
          | true => some (.tup [], m)
          | false => none
        | _ => none
    | _ => none
structure SrtF (P : Program) (f t : Nat) : Prop where
  body : ∃ fn c, P.funcs[f]? = some fn ∧ (fn.name == "runtime.NumGoroutine") = false ∧ fn.body = some c
  call : ∀ (p : Option Addr) (n c : Nat), n ≤ 1 → ∀ lf la lb w, Calls P f #[.iface t (.slice p n c), .func lf la lb] w fun e w' => e = .returned (.tuple #[]) ∧ Below w.heap.size w w'
theorem hookSrt_sound {f t : Nat} (F : SrtF P f t) : HookS P (hookSrt f t) := by
  intro fn args m v m' hx μ w us h hf hu
  unfold hookSrt at hx
  obtain ⟨fu, c, b1, b2, b3⟩ := F.body
  cases hfn : Nat.beq fn f with
  | false => rw [hfn] at hx; cases hx
  | true =>
    obtain rfl : fn = f := Nat.eq_of_beq_eq_true hfn
    rw [hfn] at hx
    simp only [] at hx
    split at hx
    · rename_i t' x g a b
      cases ht : Nat.beq t' t with
      | false => rw [ht] at hx; cases hx
      | true =>
        obtain rfl : t' = t := Nat.eq_of_beq_eq_true ht
        rw [ht] at hx
        simp only [] at hx
        obtain ⟨u, us', rfl, hu1, hu2⟩ := trs_cons hu
        obtain ⟨u2, us'', rfl, hu3, hu4⟩ := trs_cons hu2
        obtain rfl := trs_nil hu4
        obtain ⟨lf, la, lb, rfl⟩ : ∃ lf la lb, u2 = .func lf la lb := by
          simp only [tr] at hu3
          split at hu3
          · cases hu3; exact ⟨_, _, _, rfl⟩
          · cases hu3
        split at hx
        · cases hx
          simp only [tr, Option.some.injEq] at hu1
          subst hu1
          exact upon_below b1 b2 b3 h (v := .tup []) (u := .tuple #[]) rfl (F.call none 0 0 (by omega) lf la lb w)
        · rename_i b0 off n cap sz
          cases hn : Nat.ble n 1 with
          | false => rw [hn] at hx; cases hx
          | true =>
            rw [hn] at hx
            cases hx
            have hn' := Nat.le_of_ble_eq_true hn
            obtain ⟨p, rfl⟩ : ∃ p, u = .iface t' (.slice p n cap) := by
              simp only [tr] at hu1
              cases hb : μ b0 with
              | none => rw [hb] at hu1; cases hu1
              | some x =>
                rw [hb] at hu1
                simp only [] at hu1
                by_cases hl : n ≤ cap
                · rw [if_pos hl] at hu1; cases hu1; exact ⟨_, rfl⟩
                · rw [if_neg hl] at hu1; cases hu1
            exact upon_below b1 b2 b3 h (v := .tup []) (u := .tuple #[]) rfl (F.call p n cap hn' lf la lb w)
        · cases hx
    · cases hx
end
end
end Go.Mir
