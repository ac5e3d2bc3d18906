/- The mirror, part 5 of 8: a deterministic evaluator of the code, which the kernel runs, and the proof that what it says of a call, the machine does, in every memory and on every tape. No condition. -/
import Derived.Test.YtaipemiaphpojaaGreatDoorMir4
import Derived.OrdersIn

/-! THE MIRROR, LAWS 22: regions that draw their order: what stands before what; temporaries. -/
namespace Go.Mir
noncomputable section

/-! ### What stands before what -/
def befStep (acc : Array Nat) (o : Oper) : Nat := o.after.foldl (fun s e => if Region.binds .any e then s ||| 2 ^ e.on ||| acc.getD e.on 0 else s) 0

theorem befStep_bit (acc : Array Nat) (i : Nat) : ∀ (l : List Edge) (s : Nat), (l.foldl (fun s e => if Region.binds .any e then s ||| 2 ^ e.on ||| acc.getD e.on 0 else s) s).testBit i = true →
    s.testBit i = true ∨ ∃ e ∈ l, Region.binds .any e = true ∧ (i = e.on ∨ (acc.getD e.on 0).testBit i = true)
  | [], s, h => .inl h
  | e :: l, s, h => by
    simp only [List.foldl_cons] at h
    rcases befStep_bit acc i l _ h with g | ⟨e', h1, h2⟩
    · by_cases hb : Region.binds .any e = true
      · rw [if_pos hb] at g
        rw [Nat.testBit_or, Nat.testBit_or, Bool.or_eq_true, Bool.or_eq_true, Nat.testBit_two_pow] at g
        rcases g with (g | g) | g
        · exact .inl g
        · exact .inr ⟨e, List.mem_cons_self .., hb, .inl (by simpa using (of_decide_eq_true g).symm)⟩
        · exact .inr ⟨e, List.mem_cons_self .., hb, .inr g⟩
      · rw [if_neg hb] at g
        exact .inl g
    · exact .inr ⟨e', List.mem_cons_of_mem _ h1, h2⟩

def befL (acc : Array Nat) : List Oper → Array Nat
  | [] => acc
  | o :: os => befL (acc.push (befStep acc o)) os
theorem before_eq (ops : Array Oper) : Region.before ops = befL #[] ops.toList := by
  unfold Region.before
  rw [← Array.foldl_toList]
  generalize (#[] : Array Nat) = acc
  induction ops.toList generalizing acc with
  | nil => rfl
  | cons o os ih => exact ih _
theorem befL_keeps : ∀ (os : List Oper) (acc : Array Nat) (j : Nat), j < acc.size → (befL acc os).getD j 0 = acc.getD j 0
  | [], _, _, _ => rfl
  | o :: os, acc, j, h => by
    rw [befL, befL_keeps os _ j (by simp; omega)]
    simp only [Array.getD_eq_getD_getElem?]
    rw [Array.getElem?_push_lt h, Array.getElem?_eq_getElem h]
theorem befL_at : ∀ (os : List Oper) (acc : Array Nat) (k : Nat) (o : Oper), os[k]? = some o → ∃ acc', acc'.size = acc.size + k ∧ (befL acc os).getD (acc.size + k) 0 = befStep acc' o ∧ ∀ j, j < acc'.size → (befL acc os).getD j 0 = acc'.getD j 0
  | [], _, k, o, h => by simp at h
  | o' :: os, acc, 0, o, h => by
    simp only [List.getElem?_cons_zero, Option.some.injEq] at h
    subst h
    refine ⟨acc, rfl, ?_, fun j hj => ?_⟩
    · rw [befL, Nat.add_zero, befL_keeps os _ acc.size (by simp)]
      simp [Array.getD_eq_getD_getElem?]
    · rw [befL, befL_keeps os _ j (by simp; omega)]
      simp only [Array.getD_eq_getD_getElem?]
      rw [Array.getElem?_push_lt hj, Array.getElem?_eq_getElem hj]
  | o' :: os, acc, k + 1, o, h => by
    obtain ⟨acc', h1, h2, h3⟩ := befL_at os (acc.push (befStep acc o')) k o (by simpa using h)
    simp only [Array.size_push] at h1 h2
    refine ⟨acc', by omega, ?_, fun j hj => ?_⟩
    · rw [befL, show acc.size + (k + 1) = acc.size + 1 + k by omega]
      exact h2
    · rw [befL]; exact h3 j hj

/-- What stands before an operation stands at one of its edges, or before that. -/
theorem bef_spec {ops : Array Oper} (he : edgeOk ops = true) {i j : Nat} {o : Oper} (ho : ops[j]? = some o) (h : bef (Region.before ops) i j = true) :
    ∃ e ∈ o.after.toList, Region.binds .any e = true ∧ e.on < j ∧ (i = e.on ∨ bef (Region.before ops) i e.on = true) := by
  unfold bef at h
  rw [before_eq] at h ⊢
  obtain ⟨acc', h1, h2, h3⟩ := befL_at ops.toList #[] j o (by rw [Array.getElem?_toList]; exact ho)
  simp only [List.size_toArray, List.length_nil, Nat.zero_add] at h1 h2
  rw [h2] at h
  unfold befStep at h
  rw [← Array.foldl_toList] at h
  rcases befStep_bit acc' i o.after.toList 0 h with g | ⟨e, k1, k2, k3⟩
  · simp at g
  · have hlt : e.on < j := by
      unfold edgeOk at he
      rw [List.all_eq_true] at he
      have hm : (o, j) ∈ ops.toList.zipIdx := by
        rw [List.mem_zipIdx_iff_getElem?, Array.getElem?_toList]
        exact ho
      have := he _ hm
      simp only [Array.all_eq_true] at this
      obtain ⟨q, hq, rfl⟩ := List.getElem_of_mem k1
      have := this q (by simpa using hq)
      simp only [Array.getElem_toList] at k2 k3
      rw [k2] at this
      exact blt_lt (by simpa using this)
    refine ⟨e, k1, k2, hlt, ?_⟩
    rcases k3 with rfl | k3
    · exact .inl rfl
    · right
      unfold bef
      rw [h3 e.on (by omega)]
      exact k3

/-! ### Done operations -/
def inS (l : Array Bool) (i : Nat) : Prop := l[i]? = some true
def Closed (ops : Array Oper) (l : Array Bool) : Prop := ∀ j, inS l j → ∀ i, bef (Region.before ops) i j = true → inS l i
theorem inS_set {l : Array Bool} {i j : Nat} (hi : i < l.size) : inS (l.setIfInBounds i true) j ↔ (j = i ∨ inS l j) := by
  unfold inS
  by_cases h : j = i
  · subst h
    rw [Array.getElem?_setIfInBounds_self_of_lt hi]
    simp
  · rw [Array.getElem?_setIfInBounds_ne (fun q => h q.symm)]
    simp [h]
theorem ready_spec {ops : Array Oper} {l : Array Bool} {i : Nat} (hl : l.size = ops.size) (h : i ∈ Region.ready .any ops l) :
    i < ops.size ∧ ¬ inS l i ∧ ∃ o, ops[i]? = some o ∧ ∀ e ∈ o.after.toList, Region.binds .any e = true → inS l e.on := by
  unfold Region.ready at h
  rw [List.mem_filter] at h
  obtain ⟨h1, h2⟩ := h
  have hlt := List.mem_range.1 h1
  rw [Bool.and_eq_true] at h2
  obtain ⟨h2, h3⟩ := h2
  refine ⟨hlt, ?_, ops[i], Array.getElem?_eq_getElem hlt, ?_⟩
  · intro hs
    unfold inS at hs
    simp [Array.getD_eq_getD_getElem?, hs] at h2
  · rw [Array.getElem?_eq_getElem hlt] at h3
    simp only [Option.map_some, Option.getD_some] at h3
    intro e he hb
    obtain ⟨q, hq, rfl⟩ := List.getElem_of_mem he
    have := Array.all_eq_true.1 h3 q (by simpa using hq)
    simp only [Array.getElem_toList] at hb ⊢
    rw [hb] at this
    simp only [Bool.not_true, Bool.false_or] at this
    unfold inS
    rw [Array.getD_eq_getD_getElem?] at this
    cases hg : l[(ops[i].after[q]).on]? with
    | none => rw [hg] at this; simp at this
    | some b => rw [hg] at this; simp at this; rw [this]
theorem bef_ready {ops : Array Oper} {l : Array Bool} {i j : Nat} (he : edgeOk ops = true) (hl : l.size = ops.size) (hc : Closed ops l) (h : j ∈ Region.ready .any ops l) (hb : bef (Region.before ops) i j = true) : inS l i := by
  obtain ⟨_, _, o, ho, h3⟩ := ready_spec hl h
  obtain ⟨e, k1, k2, _, k4⟩ := bef_spec he ho hb
  rcases k4 with rfl | k4
  · exact h3 e k1 k2
  · exact hc e.on (h3 e k1 k2) i k4
theorem Closed.add {ops : Array Oper} {l : Array Bool} {j : Nat} (he : edgeOk ops = true) (hl : l.size = ops.size) (hc : Closed ops l) (h : j ∈ Region.ready .any ops l) : Closed ops (l.setIfInBounds j true) := by
  have hlt := (ready_spec hl h).1
  intro k hk i hb
  rw [inS_set (by omega)] at hk ⊢
  rcases hk with rfl | hk
  · exact .inr (bef_ready he hl hc h hb)
  · exact .inr (hc k hk i hb)

/-! ### Temporaries -/
def PutE (e : Env) (d : Option Tmp) (v : MV) (e' : Env) : Prop := e'.n = e.n ∧ (d = none ∧ e' = e ∨ ∃ t, d = some t ∧ t < e.n ∧ e' = ⟨.cons t v e.l, e.t, e.n, e.k⟩)
theorem PutE.get {e e' : Env} {d : Option Tmp} {v : MV} (h : PutE e d v e') (t : Nat) : e'.get t = if d = some t then some v else e.get t := by
  obtain ⟨_, ⟨rfl, rfl⟩ | ⟨s, rfl, _, rfl⟩⟩ := h
  · simp
  · rw [Env.get_cons]
    by_cases ht : t = s
    · subst ht; simp
    · rw [if_neg ht, if_neg (by simpa using fun q => ht q.symm)]

def TmpI (ops : Array Oper) (N : Nat) (E : Nat → Env) (l : Array Bool) (μ : Mp) (tmps : Array Value) : Prop :=
  ∀ j, j ≤ N → ∀ t, (∀ i o, ops[i]? = some o → o.dst = some t → (inS l i ↔ i < j)) → ∀ v, (E j).get t = some v → ∃ u, tmps[t]? = some u ∧ tr μ v = some u
def Puts (ops : Array Oper) (N : Nat) (E : Nat → Env) (V : Nat → MV) : Prop := ∀ i, i < N → ∃ o, ops[i]? = some o ∧ PutE (E i) o.dst (V i) (E (i + 1))

theorem Puts.skip {ops : Array Oper} {N : Nat} {E : Nat → Env} {V : Nat → MV} (h : Puts ops N E V) {t : Nat} {i : Nat} : ∀ (k : Nat), i + k ≤ N → (∀ q o, i ≤ q → q < i + k → ops[q]? = some o → o.dst ≠ some t) → (E (i + k)).get t = (E i).get t
  | 0, _, _ => rfl
  | k + 1, hk, hn => by
    obtain ⟨o, ho, hp⟩ := h (i + k) (by omega)
    rw [show i + (k + 1) = i + k + 1 by omega, hp.get, if_neg (hn (i + k) o (by omega) (by omega) ho)]
    exact Puts.skip h k (by omega) fun q o h1 h2 => hn q o h1 (by omega)

theorem tmpOk_spec {ops : Array Oper} {b : Array Nat} (h : tmpOk ops b = true) {i j : Nat} {oi oj : Oper} {t : Tmp} (hi : ops[i]? = some oi) (hj : ops[j]? = some oj) (hd : oi.dst = some t)
    (ht : t ∈ oj.dst.toList ++ gdst ops oj ++ namesOf oj) (hne : i ≠ j) : bef b (min i j) (max i j) = true := by
  unfold tmpOk at h
  rw [List.all_eq_true] at h
  have h1 := h (oj, j) (by rw [List.mem_zipIdx_iff_getElem?, Array.getElem?_toList]; exact hj)
  simp only [List.all_eq_true] at h1
  have h2 := h1 t ht (oi, i) (by rw [List.mem_zipIdx_iff_getElem?, Array.getElem?_toList]; exact hi)
  simp only [hd, bne_self_eq_false, Bool.false_or, Bool.or_eq_true] at h2
  rcases h2 with h2 | h2
  · exact absurd (Nat.eq_of_beq_eq_true h2) hne
  · exact h2

section
variable {ops : Array Oper} {N : Nat} {E : Nat → Env} {V : Nat → MV} {l : Array Bool} {μ μ' : Mp} {tmps : Array Value}

/-- The writers of what a ready operation names: done are just those ahead of it. -/
theorem writers_ready (he : edgeOk ops = true) (ht : tmpOk ops (Region.before ops) = true) (hl : l.size = ops.size) (hc : Closed ops l) {j : Nat} (hj : j ∈ Region.ready .any ops l) {oj : Oper} (hoj : ops[j]? = some oj) {t : Tmp}
    (hm : t ∈ oj.dst.toList ++ gdst ops oj ++ namesOf oj) : ∀ i o, ops[i]? = some o → o.dst = some t → (inS l i ↔ i < j) := by
  intro i o hi hd
  by_cases hne : i = j
  · subst hne
    exact ⟨fun h => absurd h (ready_spec hl hj).2.1, fun h => by omega⟩
  · have hb := tmpOk_spec ht hi hoj hd hm hne
    constructor
    · intro hs
      rcases Nat.lt_or_ge i j with q | q
      · exact q
      · rw [Nat.min_eq_right q, Nat.max_eq_left q] at hb
        exact absurd (hc i hs j hb) (ready_spec hl hj).2.1
    · intro q
      rw [Nat.min_eq_left (by omega), Nat.max_eq_right (by omega)] at hb
      exact bef_ready he hl hc hj hb

theorem TmpI.init (hp : Puts ops N E V) (hN : N ≤ ops.size) (h : EnvR μ (E 0) tmps) (hl : ∀ i, ¬ inS l i) : TmpI ops N E l μ tmps := by
  intro j hj t hw v hv
  have : (E (0 + j)).get t = (E 0).get t := hp.skip j (by omega) fun q o _ h2 ho hd => hl q ((hw q o ho hd).2 (by omega))
  rw [Nat.zero_add] at this
  rw [this] at hv
  exact h.2 t v hv
theorem TmpI.mono (h : TmpI ops N E l μ tmps) (hle : μ.le μ') : TmpI ops N E l μ' tmps := fun j hj t hw v hv =>
  let ⟨u, h1, h2⟩ := h j hj t hw v hv; ⟨u, h1, tr_mono hle h2⟩

theorem TmpI.step (he : edgeOk ops = true) (ht : tmpOk ops (Region.before ops) = true) (hl : l.size = ops.size) (hc : Closed ops l) (hp : Puts ops N E V) (h : TmpI ops N E l μ tmps) {i : Nat} (hi : i ∈ Region.ready .any ops l) (hiN : i < N) {o : Oper} (ho : ops[i]? = some o)
    {u : Value} (hu : tr μ (V i) = some u) (hn : (E 0).n ≤ tmps.size) (hE : ∀ j, j ≤ N → (E j).n = (E 0).n) {a : Act} (ha : a.tmps = tmps) : TmpI ops N E (l.setIfInBounds i true) μ (a.put o.dst u).tmps := by
  have hlt := (ready_spec hl hi).1
  have hni := (ready_spec hl hi).2.1
  intro j hj t hw v hv
  obtain ⟨o', ho', hput⟩ := hp i hiN
  rw [ho] at ho'
  cases ho'
  by_cases hd : o.dst = some t
  · have hij : i < j := (hw i o ho hd).1 ((inS_set (by omega)).2 (.inl rfl))
    have hnone : ∀ q o', i + 1 ≤ q → q < i + 1 + (j - (i + 1)) → ops[q]? = some o' → o'.dst ≠ some t := by
      intro q o' h1 h2 hq hdq
      have hs := (hw q o' hq hdq).2 (by omega)
      rw [inS_set (by omega)] at hs
      rcases hs with rfl | hs
      · omega
      · have hb := tmpOk_spec ht hq ho hdq (List.mem_append_left _ (List.mem_append_left _ (by rw [hd]; simp))) (by omega)
        rw [Nat.min_eq_right (by omega), Nat.max_eq_left (by omega)] at hb
        exact hni (hc q hs i hb)
    have h1 := hp.skip (t := t) (i := i + 1) (j - (i + 1)) (by omega) hnone
    rw [show i + 1 + (j - (i + 1)) = j by omega, hput.get, if_pos hd] at h1
    rw [h1] at hv
    cases hv
    refine ⟨u, ?_, hu⟩
    obtain ⟨_, ⟨q, _⟩ | ⟨s, q1, q2, _⟩⟩ := hput
    · rw [q] at hd; cases hd
    · rw [q1] at hd
      cases hd
      rw [q1]
      show (a.tmps.setIfInBounds t u)[t]? = some u
      have := hE i (by omega)
      have h3 : t < (E i).n := q2
      have h4 : t < a.tmps.size := by rw [ha]; exact Nat.lt_of_lt_of_le (this ▸ h3) hn
      rw [Array.getElem?_setIfInBounds_self_of_lt h4]
  · have hw' : ∀ q o', ops[q]? = some o' → o'.dst = some t → (inS l q ↔ q < j) := by
      intro q o' hq hdq
      have hqi : q ≠ i := by
        rintro rfl
        rw [ho] at hq
        cases hq
        exact hd hdq
      rw [← hw q o' hq hdq, inS_set (by omega)]
      simp [hqi]
    obtain ⟨u', k1, k2⟩ := h j hj t hw' v hv
    refine ⟨u', ?_, k2⟩
    cases hod : o.dst with
    | none => show a.tmps[t]? = some u'; rw [ha]; exact k1
    | some s =>
      show (a.tmps.setIfInBounds s u)[t]? = some u'
      rw [Array.getElem?_setIfInBounds_ne (by rintro rfl; exact hd hod), ha]
      exact k1
end
end
end Go.Mir

/-! THE MIRROR, LAWS 23: regions that draw their order: memory. -/
namespace Go.Mir
noncomputable section
section
variable {P : Program} {μ μ' : Mp} {m m' m1 : Mem} {w w' : World} {e : Env} {X : Hook} {call : Caller} {yl : Yielder}

/-- Memory that has grown: new names stand for nothing, or for what stands in the machine already. -/
theorem Rel.grow (h : Rel P μ m w) (hlow : ∀ b, b < m.next → m'.get b = m.get b) (hnx : m.next ≤ m'.next) (hwf : ∀ b, m'.next ≤ b → m'.get b = none)
    (hnew : ∀ b o x, m.next ≤ b → m'.get b = some o → μ b = some x → ∃ ob, w.heap[x.r]? = some ob ∧ rel1 μ o x ob) : Rel P μ m' w where
  lt := h.lt
  sh0 := h.sh0
  blk := fun b x o hb hg => by
    rcases Nat.lt_or_ge b m.next with q | q
    · rw [hlow b q] at hg; exact h.blk b x o hb hg
    · exact hnew b o x q hg hb
  inj := fun b b' x x' hb hb' hr hd hd' => by
    have key : ∀ b, m'.get b ≠ some .dead → m.get b ≠ some .dead := by
      intro b hd
      rcases Nat.lt_or_ge b m.next with q | q
      · rw [← hlow b q]; exact hd
      · rw [h.wf b q]; intro z; cases z
    exact h.inj b b' x x' hb hb' hr (key b hd) (key b' hd')
  glob := h.glob
  wf := hwf
  low := Nat.lt_of_lt_of_le h.low hnx

/-- A name for a block that is laid, ahead of its time or behind it. -/
theorem Rel.late (h : Rel P μ m w) {b : Nat} (hb : μ b = none) (hlow : P.globals.size < b) {x : Pl} (hx0 : x.sh = 0) (hx : x.r = w.heap.size) {ob : Obj} (hh : w'.heap = w.heap.push ob)
    (hrel : ∀ o, m.get b = some o → rel1 (μ.add b x) o x ob) : Rel P (μ.add b x) m w' where
  lt := fun c y e => by
    rw [hh, Array.size_push]
    by_cases hc : c = b
    · subst hc; rw [Mp.add_same] at e; cases e; omega
    · rw [Mp.add_other hc] at e; have := h.lt c y e; omega
  sh0 := fun c y e => by
    by_cases hc : c = b
    · subst hc; rw [Mp.add_same] at e; cases e; exact hx0
    · rw [Mp.add_other hc] at e; exact h.sh0 c y e
  blk := fun c y o e k => by
    by_cases hc : c = b
    · subst hc; rw [Mp.add_same] at e; cases e
      exact ⟨ob, by rw [hh, hx]; simp, hrel o k⟩
    · rw [Mp.add_other hc] at e
      obtain ⟨ob', h1, h2⟩ := h.blk c y o e k
      have := h.lt c y e
      exact ⟨ob', by rw [hh, Array.getElem?_push, if_neg (by omega)]; exact h1, h2.mono (Mp.add_le hb)⟩
  inj := fun c c' y y' e e' hr hd hd' => by
    by_cases hc : c = b
    · by_cases hc' : c' = b
      · rw [hc, hc']
      · subst hc
        rw [Mp.add_same] at e; cases e
        rw [Mp.add_other hc'] at e'
        have := h.lt c' y' e'
        omega
    · rw [Mp.add_other hc] at e
      by_cases hc' : c' = b
      · subst hc'
        rw [Mp.add_same] at e'; cases e'
        have := h.lt c y e
        omega
      · rw [Mp.add_other hc'] at e'
        exact h.inj c c' y y' e e' hr hd hd'
  glob := fun g hg => by
    obtain ⟨y, h1, h2⟩ := h.glob g hg
    exact ⟨y, by rw [Mp.add_other (by omega)]; exact h1, h2⟩
  wf := h.wf
  low := h.low

/-- On from what has been turned: names up to a bound. -/
theorem Ext.stepL {μ0 : Mp} {m0 : Mem} {w0 : World} {L : Nat} (h : Ext μ0 m0 w0 μ ⟨m.t, L⟩ w) (k : Ext μ m w μ' m' w') (hwfm : ∀ b, m.next ≤ b → m.get b = none) (h1 : m0.next ≤ m.next) (h2 : m'.next ≤ L) (hf : Free μ0 m0.next L) : Ext μ0 m0 w0 μ' ⟨m'.t, L⟩ w' where
  le := Mp.le_trans h.le k.le
  new := fun b x hb h0 => by
    cases hm : μ b with
    | some y =>
      have hy := k.le b y hm
      rw [hb] at hy
      cases hy
      exact h.new b x hm h0
    | none =>
      obtain ⟨a1, a2, a3⟩ := k.new b x hb hm
      refine ⟨Nat.le_trans h1 a1, Nat.lt_of_lt_of_le a2 h2, ?_⟩
      rcases a3 with a3 | ⟨b0, x0, o0, c1, c2, c3, c4⟩
      · exact .inl (Nat.le_trans h.sz a3)
      · cases hm0 : μ0 b0 with
        | some z =>
          have hz := h.le b0 z hm0
          rw [c1] at hz
          cases hz
          rcases Nat.lt_or_ge b0 m0.next with q | q
          · cases ho : m0.get b0 with
            | none =>
              have := h.non b0 q ho
              have e : (⟨m.t, L⟩ : Mem).get b0 = m.get b0 := rfl
              rw [e, c3] at this; cases this
            | some o1 =>
              cases hw : wrO o1 with
              | true => exact .inr ⟨b0, x0, o1, hm0, c2, ho, hw⟩
              | false =>
                have := h.ro b0 o1 ho hw
                have e : (⟨m.t, L⟩ : Mem).get b0 = m.get b0 := rfl
                rw [e, c3] at this; cases this
                rw [c4] at hw; cases hw
          · rcases Nat.lt_or_ge b0 L with q' | q'
            · rw [hf b0 q q'] at hm0; cases hm0
            · rw [hwfm b0 (Nat.le_trans (Nat.le_trans k.nx h2) q')] at c3; cases c3
        | none =>
          obtain ⟨_, _, d3⟩ := h.new b0 x0 c1 hm0
          rw [← c2]
          exact d3
  nx := h.nx
  mfr := fun b hb h0 => by
    have e : (⟨m'.t, L⟩ : Mem).get b = m'.get b := rfl
    have e' : (⟨m.t, L⟩ : Mem).get b = m.get b := rfl
    have hn : μ b = none := by
      cases hm : μ b with
      | none => rfl
      | some y => have := (h.new b y hm h0).1; omega
    rw [e, k.mfr b (by omega) hn, ← e', h.mfr b hb h0]
  non := fun b hb h0 => k.non b (by omega) (h.non b hb h0)
  ro := fun b o h0 hw => k.ro b o (h.ro b o h0 hw) hw
  wro := fun b o h0 hw => by
    obtain ⟨o1, d1, d2⟩ := h.wro b o h0 hw
    exact k.wro b o1 d1 d2
  fr := fun r hr hall => by
    rw [← h.fr r hr hall]
    refine k.fr r (Nat.lt_of_lt_of_le hr h.sz) fun b x o hb hxr hg => ?_
    cases hm0 : μ0 b with
    | some z =>
      have hz := h.le b z hm0
      rw [hb] at hz
      cases hz
      cases ho : m0.get b with
      | none =>
        rcases Nat.lt_or_ge b m0.next with q | q
        · have := h.non b q ho
          have e : (⟨m.t, L⟩ : Mem).get b = m.get b := rfl
          rw [e, hg] at this; cases this
        · rcases Nat.lt_or_ge b L with q' | q'
          · rw [hf b q q'] at hm0; cases hm0
          · rw [hwfm b (Nat.le_trans (Nat.le_trans k.nx h2) q')] at hg; cases hg
      | some o1 =>
        have hw := hall b x o1 hm0 hxr ho
        have := h.ro b o1 ho hw
        have e : (⟨m.t, L⟩ : Mem).get b = m.get b := rfl
        rw [e, hg] at this
        cases this
        exact hw
    | none =>
      obtain ⟨_, _, d3⟩ := h.new b x hb hm0
      rcases d3 with d3 | ⟨b0, x0, o0, c1, c2, c3, c4⟩
      · omega
      · have := hall b0 x0 o0 c1 (c2.trans hxr) c3
        rw [c4] at this; cases this
  sz := Nat.le_trans h.sz k.sz
  os := k.os.trans h.os
  tape := k.tape.trans h.tape
  output := k.output.trans h.output

/-! ### The run in the order of the text -/
structure TR (P : Program) (X : Hook) (call : Caller) (yl : Yielder) (ops : Array Oper) (N : Nat) (E : Nat → Env) (M : Nat → Mem) (V : Nat → MV) (K : Nat → Bool) (k : Nat → Kd) : Prop where
  op : ∀ i, i < N → ∃ o, ops[i]? = some o ∧ wantM ops (E i) o = some (K i) ∧ PutE (E i) o.dst (V i) (E (i + 1)) ∧
    (K i = true → k i = kd P o.op ∧ evOp P X call yl (E i) o.op (M i) = .val (V i) (M (i + 1))) ∧ (K i = false → k i = .pure ∧ V i = .tup [] ∧ M (i + 1) = M i)
  nx : ∀ i, i < N → (M i).next ≤ (M (i + 1)).next

theorem srcless_read {o : Op} {v : MV} (hk : kd P o = .read) (h : evOp P X call yl e o m = .val v m') : m' = m := by
  cases o with
  | load t a =>
    have h := plain_val (x := opLoad P e t a m) h
    unfold opLoad at h
    split at h
    · split at h <;> cases h; rfl
    · cases h
  | lookup t x k ok =>
    obtain ⟨y, z, _, _, h2⟩ := op2_inv (x := x) (z := k) (plain_val h)
    exact lookM_mem h2
  | convert s d x =>
    obtain ⟨y, _, h2⟩ := op1_inv (x := x) (plain_val h)
    unfold convM at h2
    simp only [kd] at hk
    cases hs : P.underlying s with
    | none => rw [hs] at h2; cases h2
    | some ts =>
      rw [hs] at h2 hk
      simp only [] at h2
      cases hd : P.underlying d with
      | none => rw [hd] at h2; cases h2
      | some td =>
        rw [hd] at h2 hk
        cases td with
        | int k =>
          cases y with
          | int k' n => exact (intR_val h2).2
          | _ => cases h2
        | string =>
          simp only [convToStr] at h2
          repeat' split at h2
          all_goals first | (cases h2; done) | (cases h2; rfl)
        | slice el => cases ts with
          | string => cases hk
          | _ => cases h2
        | unsafePointer => cases ts with
          | pointer t => cases hk
          | _ => cases h2
        | pointer u => cases ts with
          | unsafePointer => cases hk
          | _ => cases h2
        | _ => cases h2
  | call c =>
    obtain ⟨callee, args, ts⟩ := c
    cases callee with
    | value f => cases hk
    | invoke r n => cases hk
    | builtin b =>
      cases b <;> first | (cases hk; done) | skip
      simp only [evOp, opCall] at h
      cases ha : opsL P e args.toList with
      | none => rw [ha] at h; cases h
      | some as =>
        rw [ha] at h
        have h := plain_val h
        unfold opBuiltin at h
        split at h
        · rename_i q; cases q
        · rename_i x t rest _ _ _
          unfold lenM at h
          cases ht : P.underlying t with
          | none => rw [ht] at h; cases h
          | some td =>
            rw [ht] at h
            cases td with
            | string => cases x with
              | str s => exact (intR_val h).2
              | _ => cases h
            | array n el => cases h; rfl
            | slice el => simp only [lenS] at h; (split at h <;> cases h) <;> rfl
            | map kt et =>
              simp only [lenMp] at h
              split at h
              · cases h; rfl
              · split at h <;> cases h; rfl
              · cases h
            | _ => cases h
        · first | (rename_i q; cases q; done) | (rename_i q _; cases q; done) | (rename_i q _ _; cases q; done)
        · first | (rename_i q; cases q; done) | (rename_i q _; cases q; done) | (rename_i q _ _; cases q; done) | (rename_i q _ _ _; cases q; done)
        · first | (rename_i q; cases q; done) | (rename_i q _; cases q; done) | (rename_i q _ _; cases q; done)
        · first | (rename_i q; cases q; done) | (rename_i q _; cases q; done) | (rename_i q _ _; cases q; done)
        · first | (rename_i q; cases q; done) | (rename_i q _; cases q; done) | (rename_i q _ _; cases q; done) | (rename_i q _ _ _; cases q; done)
        · cases h
  | _ => cases hk

variable {ops : Array Oper} {N : Nat} {E : Nat → Env} {M : Nat → Mem} {V : Nat → MV} {K : Nat → Bool} {k : Nat → Kd}

theorem TR.next_le (h : TR P X call yl ops N E M V K k) {i : Nat} : ∀ (d : Nat), i + d ≤ N → (M i).next ≤ (M (i + d)).next
  | 0, _ => Nat.le_refl _
  | d + 1, hd => Nat.le_trans (h.next_le d (by omega)) (h.nx (i + d) (by omega))
theorem TR.next_le' (h : TR P X call yl ops N E M V K k) {i j : Nat} (hij : i ≤ j) (hj : j ≤ N) : (M i).next ≤ (M j).next := by
  have := h.next_le (i := i) (j - i) (by omega)
  rwa [show i + (j - i) = j by omega] at this

/-- An operation that is no effect: memory stands, or has one block more. -/
theorem TR.step (h : TR P X call yl ops N E M V K k) {i : Nat} (hi : i < N) (hk : k i ≠ .eff) : (k i ≠ .alloc ∧ M (i + 1) = M i) ∨ (k i = .alloc ∧ ∃ o, M (i + 1) = (M i).new o) := by
  obtain ⟨o, ho, hw, hp, h1, h2⟩ := h.op i hi
  cases hK : K i with
  | false =>
    obtain ⟨a1, _, a3⟩ := h2 hK
    exact .inl ⟨(by rw [a1]; intro q; cases q), a3⟩
  | true =>
    obtain ⟨a1, a2⟩ := h1 hK
    cases hki : k i with
    | eff => exact absurd hki hk
    | pure => exact .inl ⟨(by intro q; cases q), (pure_val (by rw [← a1, hki]) a2).1⟩
    | read => exact .inl ⟨(by intro q; cases q), srcless_read (by rw [← a1, hki]) a2⟩
    | alloc =>
      obtain ⟨s, _, cs, el, f, _, b2, _⟩ := alloc_lays (by rw [← a1, hki]) a2
      exact .inr ⟨rfl, _, b2⟩

/-- A stretch without effects. -/
theorem TR.calm (h : TR P X call yl ops N E M V K k) {i : Nat} (hwf : ∀ b, (M i).next ≤ b → (M i).get b = none) : ∀ (d : Nat), i + d ≤ N → (∀ q, i ≤ q → q < i + d → k q ≠ .eff) →
    (∀ b, b < (M i).next → (M (i + d)).get b = (M i).get b) ∧ (∀ b, (M (i + d)).next ≤ b → (M (i + d)).get b = none) ∧
    (∀ b o, (M i).next ≤ b → (M (i + d)).get b = some o → ∃ q, i ≤ q ∧ q < i + d ∧ k q = .alloc ∧ b = (M q).next ∧ (M (q + 1)).get b = some o) ∧
    (∀ q, i ≤ q → q < i + d → k q = .alloc → (M (i + d)).get (M q).next = (M (q + 1)).get (M q).next)
  | 0, _, _ => ⟨fun _ _ => rfl, hwf, fun b o hb hg => (by rw [Nat.add_zero, hwf b hb] at hg; cases hg), fun q h1 h2 => by omega⟩
  | d + 1, hd, hne => by
    obtain ⟨c1, c2, c3, c4⟩ := h.calm hwf d (by omega) (fun q h1 h2 => hne q h1 (by omega))
    have hnx := h.next_le (i := i) d (by omega)
    rw [show i + (d + 1) = i + d + 1 by omega]
    rcases h.step (i := i + d) (by omega) (hne (i + d) (by omega) (by omega)) with ⟨a1, a2⟩ | ⟨a1, o, a2⟩
    · rw [a2]
      refine ⟨c1, c2, fun b o hb hg => ?_, fun q h1 h2 hk => ?_⟩
      · obtain ⟨q, q1, q2, q3⟩ := c3 b o hb hg
        exact ⟨q, q1, by omega, q3⟩
      · rcases Nat.lt_or_ge q (i + d) with g | g
        · exact c4 q h1 g hk
        · have : q = i + d := by omega
          subst this
          exact absurd hk a1
    · rw [a2]
      refine ⟨fun b hb => ?_, fun b hb => ?_, fun b o' hb hg => ?_, fun q h1 h2 hk => ?_⟩
      · rw [Mem.get_new, if_neg (by omega)]; exact c1 b hb
      · rw [Mem.new_next] at hb
        rw [Mem.get_new, if_neg (by omega)]; exact c2 b (by omega)
      · rw [Mem.get_new] at hg
        by_cases hbn : b = (M (i + d)).next
        · rw [if_pos hbn] at hg
          cases hg
          exact ⟨i + d, by omega, by omega, a1, hbn, by rw [a2, Mem.get_new, if_pos hbn]⟩
        · rw [if_neg hbn] at hg
          obtain ⟨q, q1, q2, q3⟩ := c3 b o' hb hg
          exact ⟨q, q1, by omega, q3⟩
      · rcases Nat.lt_or_ge q (i + d) with g | g
        · have hlt : (M q).next < (M (i + d)).next := by
            have h1' : (M q).next < (M (q + 1)).next := by
              rcases h.step (i := q) (by omega) (hne q h1 (by omega)) with ⟨z, _⟩ | ⟨_, o2, z⟩
              · exact absurd hk z
              · rw [z, Mem.new_next]; exact Nat.lt_succ_self _
            exact Nat.lt_of_lt_of_le h1' (h.next_le' (by omega) (by omega))
          rw [Mem.get_new, if_neg (by omega)]
          exact c4 q h1 g hk
        · have : q = i + d := by omega
          subst this
          rw [a2]
end
end
end Go.Mir

/-! THE MIRROR, LAWS 24: regions that draw their order: the invariant. -/
namespace Go.Mir
noncomputable section
section
variable {P : Program} {μ μ' : Mp} {m m' m1 : Mem} {w w' : World} {e : Env} {X : Hook} {call : Caller} {yl : Yielder}

/-- What is laid ahead of its time stays as it is. -/
theorem early_move (h : Rel P μ m w) (k : Ext μ m w μ' m1 w') {b : Nat} {x : Pl} {ob : Obj} {o : MO} (hb : μ b = some x) (hbn : m.next ≤ b) (hob : w.heap[x.r]? = some ob) (hr : rel1 μ o x ob)
    (hun : ∀ b' y, μ b' = some y → y.r = x.r → b' = b) : μ' b = some x ∧ w'.heap[x.r]? = some ob ∧ rel1 μ' o x ob ∧ ∀ b' y, μ' b' = some y → y.r = x.r → b' = b := by
  have hnone := h.wf b hbn
  refine ⟨k.le b x hb, ?_, hr.mono k.le, fun b' y hy hyr => ?_⟩
  · rw [← hob]
    refine k.fr x.r (h.lt b x hb) fun b' y o' hb' hr' hg' => ?_
    have := hun b' y hb' hr'
    subst this
    rw [hnone] at hg'; cases hg'
  · cases hm : μ b' with
    | some z =>
      have hz := k.le b' z hm
      rw [hy] at hz
      cases hz
      exact hun b' y hm hyr
    | none =>
      obtain ⟨_, _, d⟩ := k.new b' y hy hm
      rcases d with d | ⟨b0, x0, o0, c1, c2, c3, _⟩
      · have := h.lt b x hb; omega
      · have := hun b0 x0 c1 (c2.trans hyr)
        subst this
        rw [hnone] at c3; cases c3

theorem Ext.growL {μ0 : Mp} {m0 : Mem} {w0 : World} {L : Nat} (h : Ext μ0 m0 w0 μ ⟨m.t, L⟩ w) (hwf0 : ∀ b, m0.next ≤ b → m0.get b = none) (hg : ∀ b, b < m0.next → m'.get b = m.get b) : Ext μ0 m0 w0 μ ⟨m'.t, L⟩ w where
  le := h.le
  new := h.new
  nx := h.nx
  mfr := fun b hb h0 => (hg b hb).trans (h.mfr b hb h0)
  non := fun b hb h0 => (hg b hb).trans (h.non b hb h0)
  ro := fun b o h0 hw => by
    rcases Nat.lt_or_ge b m0.next with q | q
    · exact (hg b q).trans (h.ro b o h0 hw)
    · rw [hwf0 b q] at h0; cases h0
  wro := fun b o h0 hw => by
    rcases Nat.lt_or_ge b m0.next with q | q
    · obtain ⟨o', h1, h2⟩ := h.wro b o h0 hw
      exact ⟨o', (hg b q).trans h1, h2⟩
    · rw [hwf0 b q] at h0; cases h0
  fr := h.fr
  sz := h.sz
  os := h.os
  tape := h.tape
  output := h.output

theorem Ext.lateL {μ0 : Mp} {m0 : Mem} {w0 : World} {L b : Nat} {x : Pl} {ob : Obj} (h : Ext μ0 m0 w0 μ ⟨m.t, L⟩ w) (hb : μ b = none) (h1 : m0.next ≤ b) (h2 : b < L) (hx : x.r = w.heap.size) (hh : w'.heap = w.heap.push ob) (hc : Calm w w') :
    Ext μ0 m0 w0 (μ.add b x) ⟨m.t, L⟩ w' where
  le := Mp.le_trans h.le (Mp.add_le hb)
  new := fun c y e k => by
    by_cases hcb : c = b
    · subst hcb
      rw [Mp.add_same] at e
      cases e
      exact ⟨h1, h2, .inl (by rw [hx]; exact h.sz)⟩
    · rw [Mp.add_other hcb] at e
      exact h.new c y e k
  nx := h.nx
  mfr := h.mfr
  non := h.non
  ro := h.ro
  wro := h.wro
  fr := fun r hr hall => by
    have := h.sz
    rw [hh, Array.getElem?_push, if_neg (by omega)]
    exact h.fr r hr hall
  sz := by rw [hh, Array.size_push]; exact Nat.le_succ_of_le h.sz
  os := hc.os.trans h.os
  tape := hc.tape.trans h.tape
  output := hc.output.trans h.output

theorem laid_rel {cs : List MV} {el : TypeId} {us rest : List Value} {lh : Nat × Nat} (hu : trs μ cs = some us) (hle : μ.le μ') (hlh : ∀ i, i < us.length + rest.length → ¬ (lh.1 ≤ i ∧ i < lh.2)) (r : Nat) :
    rel1 μ' (.cells (rowT cs 0 .leaf) cs.length el false 0) ⟨r, 0, cs.length, rest.length⟩ (.cells (us ++ rest).toArray el lh) := by
  have hlen := trs_length hu
  refine ⟨rfl, _, lh, rfl, by simp [hlen], fun i v hi hv => ?_, fun _ i _ hb => hlh i (by simpa using hb)⟩
  rw [rowT_get] at hv
  have hi' : i < cs.length := hi
  rw [if_pos (by omega)] at hv
  obtain ⟨u, a1, a2⟩ := trs_get hu hv
  refine ⟨u, ?_, tr_mono hle a2⟩
  have hlt : i < us.length := by omega
  simp only [Nat.sub_zero] at a1
  simp only [Nat.zero_add]
  rw [List.getElem?_toArray, List.getElem?_append_left hlt]
  exact a1

theorem last_one (p : Nat → Prop) (g : Nat) : ∀ d, (∃ f, g ≤ f ∧ f < g + d ∧ p f) → ∃ f, g ≤ f ∧ f < g + d ∧ p f ∧ ∀ q, f < q → q < g + d → ¬ p q
  | 0, ⟨f, h1, h2, _⟩ => by omega
  | d + 1, ⟨f, h1, h2, h3⟩ => by
    by_cases hp : p (g + d)
    · exact ⟨g + d, by omega, by omega, hp, fun q q1 q2 => by omega⟩
    · have : f ≠ g + d := by rintro rfl; exact hp h3
      obtain ⟨f', a1, a2, a3, a4⟩ := last_one p g d ⟨f, h1, by omega, h3⟩
      refine ⟨f', a1, by omega, a3, fun q q1 q2 => ?_⟩
      by_cases hq : q = g + d
      · subst hq; exact hp
      · exact a4 q q1 (by omega)
theorem next_one (p : Nat → Prop) : ∀ (d g : Nat), ∃ g', g ≤ g' ∧ g' ≤ g + d ∧ (g' = g + d ∨ p g') ∧ ∀ q, g ≤ q → q < g' → ¬ p q
  | 0, g => ⟨g, Nat.le_refl _, Nat.le_refl _, .inl rfl, fun q h1 h2 => by omega⟩
  | d + 1, g => by
    by_cases hp : p g
    · exact ⟨g, Nat.le_refl _, by omega, .inr hp, fun q h1 h2 => by omega⟩
    · obtain ⟨g', a1, a2, a3, a4⟩ := next_one p d (g + 1)
      refine ⟨g', by omega, by omega, by rcases a3 with a3 | a3; exact .inl (by omega); exact .inr a3, fun q q1 q2 => ?_⟩
      by_cases hq : q = g
      · subst hq; exact hp
      · exact a4 q (by omega) q2

variable {ops : Array Oper} {N : Nat} {E : Nat → Env} {M : Nat → Mem} {V : Nat → MV} {K : Nat → Bool} {k : Nat → Kd} {μ0 : Mp} {w0 : World} {ds : List MD}

/-- What has been checked. -/
structure DS (P : Program) (X : Hook) (call : Caller) (yl : Yielder) (ops : Array Oper) (N : Nat) (E : Nat → Env) (M : Nat → Mem) (V : Nat → MV) (K : Nat → Bool) (k : Nat → Kd) (μ0 : Mp) : Prop where
  tr : TR P X call yl ops N E M V K k
  nN : N ≤ ops.size
  edge : edgeOk ops = true
  tmpOk : tmpOk ops (Region.before ops) = true
  chain : ∀ i f, i < N → k i = .eff → f < i → k f = .eff → (∀ q, f < q → q < i → k q ≠ .eff) → bef (Region.before ops) f i = true
  reads : ∀ i g o, i < N → k i = .read → ops[i]? = some o → g ≤ N → (g = N ∨ k g = .eff) → (∀ y, g ≤ y → y < N → k y = .eff → bef (Region.before ops) y i = false) →
    (∀ y, y < g → k y = .eff → bef (Region.before ops) i y = false) → ∃ m', evOp P X call yl (E i) o.op (M g) = .val (V i) m'
  free : Free μ0 (M 0).next (M N).next
  low : P.globals.size < (M 0).next

theorem DS.puts (h : DS P X call yl ops N E M V K k μ0) : Puts ops N E V := fun i hi => let ⟨o, ho, _, hp, _⟩ := h.tr.op i hi; ⟨o, ho, hp⟩
theorem DS.en (h : DS P X call yl ops N E M V K k μ0) : ∀ j, j ≤ N → (E j).n = (E 0).n
  | 0, _ => rfl
  | j + 1, hj => by
    obtain ⟨o, _, hp⟩ := h.puts j (by omega)
    rw [hp.1]
    exact DS.en h j (by omega)

structure DI (P : Program) (ops : Array Oper) (N : Nat) (E : Nat → Env) (M : Nat → Mem) (k : Nat → Kd) (μ0 : Mp) (w0 : World) (ds : List MD) (l : Array Bool) (a : Act) (w : World) (μ : Mp) (g : Nat) : Prop where
  size : l.size = ops.size
  closed : Closed ops l
  inN : ∀ i, inS l i → i < N
  gN : g ≤ N
  gap : g = N ∨ k g = .eff
  lt : ∀ i, i < g → k i = .eff → inS l i
  ge : ∀ i, g ≤ i → i < N → k i = .eff → ¬ inS l i
  tmp : TmpI ops N E l μ a.tmps
  tn : (E 0).n ≤ a.tmps.size
  dsr : DsR μ ds a.defers
  rel : Rel P μ (M g) w
  free : ∀ i, i < N → ¬ inS l i → ∀ q, (M i).next ≤ q → q < (M (i + 1)).next → μ q = none
  und : ∀ i, i < g → k i = .alloc → ¬ inS l i → (M g).get (M i).next = (M (i + 1)).get (M i).next
  early : ∀ i, g ≤ i → i < N → k i = .alloc → inS l i → ∃ x ob o, μ (M i).next = some x ∧ (M (i + 1)).get (M i).next = some o ∧ w.heap[x.r]? = some ob ∧ rel1 μ o x ob ∧ ∀ b' y, μ b' = some y → y.r = x.r → b' = (M i).next
  ext : Ext μ0 (M 0) w0 μ ⟨(M g).t, (M N).next⟩ w

variable {l : Array Bool} {a : Act} {g i : Nat} {o : Oper}

theorem put_size (a : Act) (d : Option Tmp) (u : Value) : (a.put d u).tmps.size = a.tmps.size := by
  cases d with
  | none => rfl
  | some t => exact Array.size_setIfInBounds
theorem put_defers (a : Act) (d : Option Tmp) (u : Value) : (a.put d u).defers = a.defers := by cases d <;> rfl

theorem DI.wf0 (D : DI P ops N E M k μ0 w0 ds l a w μ g) (S : DS P X call yl ops N E M V K k μ0) (h0 : Rel P μ0 (M 0) w0) : ∀ b, (M 0).next ≤ b → (M 0).get b = none := h0.wf

/-- A step that leaves the gap where it is. -/
theorem DI.quiet (D : DI P ops N E M k μ0 w0 ds l a w μ g) (S : DS P X call yl ops N E M V K k μ0) (hi : i ∈ Region.ready .any ops l) (hiN : i < N) (ho : ops[i]? = some o) (hk : k i ≠ .eff) (hk' : k i ≠ .alloc)
    {u : Value} (hu : tr μ' (V i) = some u) (hR : Rel P μ' (M g) w') (hE : Ext μ (M g) w μ' (M g) w') : DI P ops N E M k μ0 w0 ds (l.setIfInBounds i true) (a.put o.dst u) w' μ' g := by
  have hlt : i < l.size := by rw [D.size]; exact (ready_spec D.size hi).1
  have hS : ∀ j, inS (l.setIfInBounds i true) j ↔ (j = i ∨ inS l j) := fun j => inS_set hlt
  refine ⟨by rw [Array.size_setIfInBounds]; exact D.size, D.closed.add S.edge D.size hi, ?_, D.gN, D.gap, ?_, ?_, ?_, ?_, ?_, hR, ?_, ?_, ?_, ?_⟩
  · intro j hj
    rcases (hS j).1 hj with rfl | hj
    · exact hiN
    · exact D.inN j hj
  · intro j h1 h2
    exact (hS j).2 (.inr (D.lt j h1 h2))
  · intro j h1 h2 h3 hj
    rcases (hS j).1 hj with rfl | hj
    · exact hk h3
    · exact D.ge j h1 h2 h3 hj
  · exact TmpI.step S.edge S.tmpOk D.size D.closed S.puts (D.tmp.mono hE.le) hi hiN ho hu D.tn S.en rfl
  · rw [put_size]; exact D.tn
  · rw [put_defers]; exact D.dsr.mono hE.le
  · intro j hj hjn q h1 h2
    have hn := D.free j hj (fun z => hjn ((hS j).2 (.inr z))) q h1 h2
    cases hq : μ' q with
    | none => rfl
    | some z => have := hE.new q z hq hn; omega
  · intro j h1 h2 h3
    exact D.und j h1 h2 fun z => h3 ((hS j).2 (.inr z))
  · intro j h1 h2 h3 h4
    rcases (hS j).1 h4 with rfl | h4
    · exact absurd h3 hk'
    · obtain ⟨x, ob, o', e1, e2, e3, e4, e5⟩ := D.early j h1 h2 h3 h4
      obtain ⟨f1, f2, f3, f4⟩ := early_move D.rel hE e1 (S.tr.next_le' h1 (by omega)) e3 e4 e5
      exact ⟨x, ob, o', f1, e2, f2, f3, f4⟩
  · exact D.ext.stepL hE D.rel.wf (S.tr.next_le' (Nat.zero_le _) D.gN) (S.tr.next_le' D.gN (Nat.le_refl _)) S.free

/-- A ready effect stands at the gap. -/
theorem DI.at_gap (D : DI P ops N E M k μ0 w0 ds l a w μ g) (S : DS P X call yl ops N E M V K k μ0) (hi : i ∈ Region.ready .any ops l) (hiN : i < N) (hk : k i = .eff) : i = g := by
  have hn := (ready_spec D.size hi).2.1
  rcases Nat.lt_trichotomy i g with q | q | q
  · exact absurd (D.lt i q hk) hn
  · exact q
  · have hg : k g = .eff := by
      rcases D.gap with z | z
      · omega
      · exact z
    obtain ⟨f, f1, f2, f3, f4⟩ := last_one (fun q => k q = .eff) g (i - g) ⟨g, Nat.le_refl _, by omega, hg⟩
    have hb := S.chain i f hiN hk (by omega) f3 fun q q1 q2 => f4 q q1 (by omega)
    exact absurd (bef_ready S.edge D.size D.closed hi hb) (D.ge f f1 (by omega) f3)

/-- A new row. -/
theorem DI.alloc (D : DI P ops N E M k μ0 w0 ds l a w μ g) (S : DS P X call yl ops N E M V K k μ0) (hi : i ∈ Region.ready .any ops l) (hiN : i < N) (ho : ops[i]? = some o) (hk : k i = .alloc)
    {cs : List MV} {el : TypeId} {us rest : List Value} {lh : Nat × Nat} {u : Value} (hM : M (i + 1) = newOf (M i) cs el) (hus : trs μ cs = some us) (hh : w'.heap = w.heap.push (.cells (us ++ rest).toArray el lh)) (hc : Calm w w')
    (hlh : ∀ i, i < us.length + rest.length → ¬ (lh.1 ≤ i ∧ i < lh.2)) (hu : tr (μ.add (M i).next ⟨w.heap.size, 0, cs.length, rest.length⟩) (V i) = some u) :
    DI P ops N E M k μ0 w0 ds (l.setIfInBounds i true) (a.put o.dst u) w' (μ.add (M i).next ⟨w.heap.size, 0, cs.length, rest.length⟩) g := by
  have hlt : i < l.size := by rw [D.size]; exact (ready_spec D.size hi).1
  have hni := (ready_spec D.size hi).2.1
  have hS : ∀ j, inS (l.setIfInBounds i true) j ↔ (j = i ∨ inS l j) := fun j => inS_set hlt
  have hnx1 : (M (i + 1)).next = (M i).next + 1 := by rw [hM]; rfl
  have hfree : μ (M i).next = none := D.free i hiN hni _ (Nat.le_refl _) (by omega)
  have hget : (M (i + 1)).get (M i).next = some (.cells (rowT cs 0 .leaf) cs.length el false 0) := by rw [hM]; unfold newOf; rw [Mem.get_new, if_pos rfl]
  have hlow : P.globals.size < (M i).next := Nat.lt_of_lt_of_le S.low (S.tr.next_le' (Nat.zero_le _) (by omega))
  have hrel := laid_rel (μ' := μ.add (M i).next ⟨w.heap.size, 0, cs.length, rest.length⟩) (el := el) hus (Mp.add_le hfree) hlh w.heap.size
  refine ⟨by rw [Array.size_setIfInBounds]; exact D.size, D.closed.add S.edge D.size hi, ?_, D.gN, D.gap, ?_, ?_, ?_, ?_, ?_, ?_, ?_, ?_, ?_, ?_⟩
  · intro j hj
    rcases (hS j).1 hj with rfl | hj
    · exact hiN
    · exact D.inN j hj
  · intro j h1 h2
    exact (hS j).2 (.inr (D.lt j h1 h2))
  · intro j h1 h2 h3 hj
    rcases (hS j).1 hj with rfl | hj
    · rw [hk] at h3; cases h3
    · exact D.ge j h1 h2 h3 hj
  · exact TmpI.step S.edge S.tmpOk D.size D.closed S.puts (D.tmp.mono (Mp.add_le hfree)) hi hiN ho hu D.tn S.en rfl
  · rw [put_size]; exact D.tn
  · rw [put_defers]; exact D.dsr.mono (Mp.add_le hfree)
  · refine D.rel.late hfree hlow rfl rfl hh fun o' ho' => ?_
    rcases Nat.lt_or_ge i g with q | q
    · rw [D.und i q hk hni, hget] at ho'
      cases ho'
      exact hrel
    · rw [D.rel.wf _ (S.tr.next_le' q (by omega))] at ho'; cases ho'
  · intro j hj hjn q h1 h2
    have hji : j ≠ i := fun z => hjn ((hS j).2 (.inl z))
    have hqn : q ≠ (M i).next := by
      rintro rfl
      rcases Nat.lt_or_ge j i with z | z
      · have := S.tr.next_le' (i := j + 1) (j := i) (by omega) (by omega); omega
      · have := S.tr.next_le' (i := i + 1) (j := j) (by omega) (by omega); omega
    rw [Mp.add_other hqn]
    exact D.free j hj (fun z => hjn ((hS j).2 (.inr z))) q h1 h2
  · intro j h1 h2 h3
    exact D.und j h1 h2 fun z => h3 ((hS j).2 (.inr z))
  · intro j h1 h2 h3 h4
    by_cases hji : j = i
    · subst hji
      refine ⟨_, .cells (us ++ rest).toArray el lh, _, Mp.add_same _ _ _, hget, by rw [hh]; simp, hrel, fun b' y hy hyr => ?_⟩
      by_cases hb : b' = (M j).next
      · exact hb
      · rw [Mp.add_other hb] at hy
        have := D.rel.lt b' y hy
        have hyr : y.r = w.heap.size := hyr
        omega
    · rcases (hS j).1 h4 with z | h4
      · exact absurd z hji
      · obtain ⟨x, ob, o', e1, e2, e3, e4, e5⟩ := D.early j h1 h2 h3 h4
        have hne : (M j).next ≠ (M i).next := by intro q; rw [q, hfree] at e1; cases e1
        have hxl := D.rel.lt _ x e1
        refine ⟨x, ob, o', by rw [Mp.add_other hne]; exact e1, e2, by rw [hh, Array.getElem?_push, if_neg (by omega)]; exact e3, e4.mono (Mp.add_le hfree), fun b' y hy hyr => ?_⟩
        by_cases hb : b' = (M i).next
        · subst hb
          rw [Mp.add_same] at hy
          cases hy
          have hyr : w.heap.size = x.r := hyr
          omega
        · rw [Mp.add_other hb] at hy
          exact e5 b' y hy hyr
  · have hL := S.tr.next_le' (i := i + 1) (j := N) (by omega) (Nat.le_refl _)
    exact D.ext.lateL hfree (S.tr.next_le' (Nat.zero_le _) (by omega)) (by omega) rfl hh hc

/-- An effect: the gap goes on to the next. -/
theorem DI.eff (D : DI P ops N E M k μ0 w0 ds l a w μ g) (S : DS P X call yl ops N E M V K k μ0) (h0 : Rel P μ0 (M 0) w0) (hi : g ∈ Region.ready .any ops l) (hiN : g < N) (ho : ops[g]? = some o) (hk : k g = .eff)
    {u : Value} (hu : tr μ' (V g) = some u) (hR : Rel P μ' (M (g + 1)) w') (hE : Ext μ (M g) w μ' (M (g + 1)) w') : ∃ g', DI P ops N E M k μ0 w0 ds (l.setIfInBounds g true) (a.put o.dst u) w' μ' g' := by
  have hlt : g < l.size := by rw [D.size]; exact (ready_spec D.size hi).1
  have hni := (ready_spec D.size hi).2.1
  have hS : ∀ j, inS (l.setIfInBounds g true) j ↔ (j = g ∨ inS l j) := fun j => inS_set hlt
  obtain ⟨g', n1, n2, n3, n4⟩ := next_one (fun q => k q = .eff) (N - (g + 1)) (g + 1)
  have hgN : g' ≤ N := by omega
  have hg' : g' = N ∨ k g' = .eff := by
    rcases n3 with z | z
    · exact .inl (by omega)
    · exact .inr z
  obtain ⟨c1, c2, c3, c4⟩ := S.tr.calm (i := g + 1) hR.wf (g' - (g + 1)) (by omega) (fun q q1 q2 => n4 q q1 (by omega))
  rw [show g + 1 + (g' - (g + 1)) = g' by omega] at c1 c2 c3 c4
  have hnx := S.tr.next_le' (i := g + 1) (j := g') n1 hgN
  have hfree : ∀ j, j < N → ¬ inS (l.setIfInBounds g true) j → ∀ q, (M j).next ≤ q → q < (M (j + 1)).next → μ' q = none := by
    intro j hj hjn q h1 h2
    have hjg : j ≠ g := fun z => hjn ((hS j).2 (.inl z))
    have hn := D.free j hj (fun z => hjn ((hS j).2 (.inr z))) q h1 h2
    cases hq : μ' q with
    | none => rfl
    | some z =>
      obtain ⟨d1, d2, _⟩ := hE.new q z hq hn
      rcases Nat.lt_or_ge j g with y | y
      · have := S.tr.next_le' (i := j + 1) (j := g) (by omega) (by omega); omega
      · have := S.tr.next_le' (i := g + 1) (j := j) (by omega) (by omega); omega
  have hearly : ∀ j, g < j → j < N → k j = .alloc → inS (l.setIfInBounds g true) j → ∃ x ob o, μ' (M j).next = some x ∧ (M (j + 1)).get (M j).next = some o ∧ w'.heap[x.r]? = some ob ∧ rel1 μ' o x ob ∧ ∀ b' y, μ' b' = some y → y.r = x.r → b' = (M j).next := by
    intro j h1 h2 h3 h4
    rcases (hS j).1 h4 with z | h4
    · omega
    · obtain ⟨x, ob, o', e1, e2, e3, e4, e5⟩ := D.early j (by omega) h2 h3 h4
      obtain ⟨f1, f2, f3, f4⟩ := early_move D.rel hE e1 (S.tr.next_le' (by omega) (by omega)) e3 e4 e5
      exact ⟨x, ob, o', f1, e2, f2, f3, f4⟩
  refine ⟨g', by rw [Array.size_setIfInBounds]; exact D.size, D.closed.add S.edge D.size hi, ?_, hgN, hg', ?_, ?_, ?_, ?_, ?_, ?_, hfree, ?_, ?_, ?_⟩
  · intro j hj
    rcases (hS j).1 hj with rfl | hj
    · exact hiN
    · exact D.inN j hj
  · intro j h1 h2
    rcases Nat.lt_trichotomy j g with q | q | q
    · exact (hS j).2 (.inr (D.lt j q h2))
    · exact (hS j).2 (.inl q)
    · exact absurd h2 (n4 j (by omega) h1)
  · intro j h1 h2 h3 hj
    rcases (hS j).1 hj with rfl | hj
    · omega
    · exact D.ge j (by omega) h2 h3 hj
  · exact TmpI.step S.edge S.tmpOk D.size D.closed S.puts (D.tmp.mono hE.le) hi hiN ho hu D.tn S.en rfl
  · rw [put_size]; exact D.tn
  · rw [put_defers]; exact D.dsr.mono hE.le
  · refine hR.grow c1 hnx c2 fun b o' x hb hg hx => ?_
    obtain ⟨q, q1, q2, q3, rfl, q5⟩ := c3 b o' hb hg
    have hq1 : (M q).next < (M (q + 1)).next := by
      rcases S.tr.step (i := q) (by omega) (n4 q q1 q2) with ⟨z, _⟩ | ⟨_, o2, z⟩
      · exact absurd q3 z
      · rw [z, Mem.new_next]; exact Nat.lt_succ_self _
    by_cases hqs : inS (l.setIfInBounds g true) q
    · obtain ⟨x', ob, o2, f1, f2, f3, f4, _⟩ := hearly q (by omega) (by omega) q3 hqs
      rw [hx] at f1; cases f1
      rw [q5] at f2; cases f2
      exact ⟨ob, f3, f4⟩
    · rw [hfree q (by omega) hqs _ (Nat.le_refl _) hq1] at hx; cases hx
  · intro j h1 h2 h3
    have hj1 : (M j).next < (M (j + 1)).next := by
      rcases S.tr.step (i := j) (by omega) (by rw [h2]; intro z; cases z) with ⟨z, _⟩ | ⟨_, o2, z⟩
      · exact absurd h2 z
      · rw [z, Mem.new_next]; exact Nat.lt_succ_self _
    have hjs : ¬ inS l j := fun z => h3 ((hS j).2 (.inr z))
    rcases Nat.lt_trichotomy j g with q | q | q
    · have hbl := S.tr.next_le' (i := j + 1) (j := g) (by omega) (by omega)
      have hbl2 := S.tr.next_le' (i := g) (j := g + 1) (by omega) (by omega)
      rw [c1 _ (by omega), hE.mfr _ (by omega) (D.free j (by omega) hjs _ (Nat.le_refl _) hj1)]
      exact D.und j q h2 hjs
    · subst q; rw [hk] at h2; cases h2
    · exact c4 j (by omega) h1 h2
  · intro j h1 h2 h3 h4
    exact hearly j (by omega) h2 h3 h4
  · have h1 := D.ext.stepL hE D.rel.wf (S.tr.next_le' (Nat.zero_le _) D.gN) (S.tr.next_le' (by omega) (Nat.le_refl _)) S.free
    refine h1.growL h0.wf fun b hb => c1 b ?_
    have := S.tr.next_le' (i := 0) (j := g + 1) (Nat.zero_le _) (by omega)
    omega

/-- The beginning. -/
theorem DI.init (S : DS P X call yl ops N E M V K k μ0) (h0 : Rel P μ0 (M 0) w0) (ha : EnvR μ0 (E 0) a.tmps) (hds : DsR μ0 ds a.defers) (hl : l.size = ops.size) (hn : ∀ i, ¬ inS l i) : ∃ g, DI P ops N E M k μ0 w0 ds l a w0 μ0 g := by
  obtain ⟨g', n1, n2, n3, n4⟩ := next_one (fun q => k q = .eff) N 0
  rw [Nat.zero_add] at n2 n3
  obtain ⟨c1, c2, c3, c4⟩ := S.tr.calm (i := 0) h0.wf g' (by omega) (fun q q1 q2 => n4 q q1 (by omega))
  rw [Nat.zero_add] at c1 c2 c3 c4
  have hall : ∀ j, j < N → ∀ q, (M j).next ≤ q → q < (M (j + 1)).next → μ0 q = none := by
    intro j hj q h1 h2
    have a1 := S.tr.next_le' (i := 0) (j := j) (Nat.zero_le _) (by omega)
    have a2 := S.tr.next_le' (i := j + 1) (j := N) (by omega) (Nat.le_refl _)
    exact S.free q (by omega) (by omega)
  have hnx := S.tr.next_le' (i := 0) (j := g') (Nat.zero_le _) n2
  refine ⟨g', hl, fun j hj => absurd hj (hn j), fun j hj => absurd hj (hn j), n2, n3, fun j h1 h2 => absurd h2 (n4 j (Nat.zero_le _) h1), fun j _ _ _ hj => hn j hj, TmpI.init S.puts S.nN ha hn, ha.1, hds, ?_, fun j hj _ => hall j hj, ?_, fun j _ _ _ h4 => absurd h4 (hn j), ?_⟩
  · refine h0.grow c1 hnx c2 fun b o' x hb hg hx => ?_
    obtain ⟨q, q1, q2, q3, rfl, q5⟩ := c3 b o' hb hg
    have hq1 : (M q).next < (M (q + 1)).next := by
      rcases S.tr.step (i := q) (by omega) (n4 q q1 q2) with ⟨z, _⟩ | ⟨_, o2, z⟩
      · exact absurd q3 z
      · rw [z, Mem.new_next]; exact Nat.lt_succ_self _
    rw [hall q (by omega) _ (Nat.le_refl _) hq1] at hx; cases hx
  · intro j h1 h2 _
    exact c4 j (Nat.zero_le _) h1 h2
  · have hb := S.tr.next_le' (i := 0) (j := N) (Nat.zero_le _) (Nat.le_refl _)
    have h1 : Ext μ0 (M 0) w0 μ0 ⟨(M 0).t, (M N).next⟩ w0 := { Ext.refl μ0 (M 0) w0 with
      new := fun b x h1 h2 => by rw [h1] at h2; cases h2
      nx := hb }
    exact h1.growL h0.wf fun b hb => c1 b hb
end
end
end Go.Mir

/-! THE MIRROR, LAWS 25: regions that draw their order: every order. -/
namespace Go.Mir
noncomputable section
section
variable {P : Program} {μ μ' : Mp} {m m' m1 : Mem} {w w' : World} {e : Env} {X : Hook} {call : Caller} {yl : Yielder}
variable {ops : Array Oper} {N : Nat} {E : Nat → Env} {M : Nat → Mem} {V : Nat → MV} {K : Nat → Bool} {k : Nat → Kd} {μ0 : Mp} {w0 : World} {ds : List MD}
variable {l : Array Bool} {a : Act} {g i : Nat} {o : Oper}

theorem mem_names {o : Oper} {t : Tmp} (h : Operand.tmp t ∈ o.op.operands) : t ∈ namesOf o :=
  List.mem_filterMap.2 ⟨.tmp t, by simpa using h, rfl⟩

/-- What a ready operation looks at is as the text's order has it. -/
theorem DI.look (D : DI P ops N E M k μ0 w0 ds l a w μ g) (S : DS P X call yl ops N E M V K k μ0) (hi : i ∈ Region.ready .any ops l) (hiN : i ≤ N) (ho : ops[i]? = some o) {ts : List Tmp} (hts : ∀ t ∈ ts, t ∈ o.dst.toList ++ gdst ops o ++ namesOf o) :
    EnvR μ ((E i).only ts) a.tmps := by
  refine ⟨?_, fun t v hv => ?_⟩
  · rw [(Env.only_n _ _).1, S.en i hiN]; exact D.tn
  · rw [Env.only_get] at hv
    by_cases ht : t ∈ ts
    · rw [if_pos ht] at hv
      exact D.tmp i hiN t (writers_ready S.edge S.tmpOk D.size D.closed hi ho (hts t ht)) v hv
    · rw [if_neg ht] at hv; cases hv

theorem wantM_congr {e e' : Env} (h : ∀ t ∈ gdst ops o, e.get t = e'.get t) : wantM ops e o = wantM ops e' o := by
  unfold wantM
  cases hg : o.guard with
  | none => rfl
  | some q =>
    obtain ⟨j, b⟩ := q
    simp only []
    cases hj : ops[j]? with
    | none => rfl
    | some oj =>
      simp only []
      cases hd : oj.dst with
      | none => rfl
      | some d =>
        simp only []
        rw [h d (by unfold gdst; simp [hg, hj, hd])]

theorem DI.wanted (D : DI P ops N E M k μ0 w0 ds l a w μ g) (S : DS P X call yl ops N E M V K k μ0) (hi : i ∈ Region.ready .any ops l) (hiN : i ≤ N) (ho : ops[i]? = some o) {b : Bool} (hw : wantM ops (E i) o = some b) : Region.wanted o (yielded ops a.tmps) = b := by
  refine wantM_sound (D.look S hi hiN ho (ts := gdst ops o) fun t ht => List.mem_append_left _ (List.mem_append_right _ ht)) ?_
  rw [← hw]
  exact wantM_congr fun t ht => by rw [Env.only_get, if_pos ht]

theorem only_same {m : Mem} : evOp P X call yl ((E i).only (namesOf o)) o.op m = evOp P X call yl (E i) o.op m :=
  evOp_congr fun x hx t hxt => by subst hxt; rw [Env.only_get, if_pos (mem_names hx)]

theorem DI.opn (D : DI P ops N E M k μ0 w0 ds l a w μ g) (S : DS P X call yl ops N E M V K k μ0) (hi : i ∈ Region.ready .any ops l) (hiN : i ≤ N) (ho : ops[i]? = some o) : Opn P μ ((E i).only (namesOf o)) a.eval :=
  opn_of D.rel (D.look S hi hiN ho (ts := namesOf o) fun t ht => List.mem_append_right _ ht)

/-- ONE OPERATION THAT IS READY, WHICHEVER IT IS. -/
theorem DI.step (hX : HookS P X) (hC : CallS P call) (hY : YieldS P yl) (S : DS P X call yl ops N E M V K k μ0) (h0 : Rel P μ0 (M 0) w0) (D : DI P ops N E M k μ0 w0 ds l a w μ g) (hi : i ∈ Region.ready .any ops l) (hiN : i < N)
    {r : Option Nat} {n : Nat} {Q : Exit → Act → World → Prop} {next : Act → World → Prop} (hk : ∀ a' w' μ' g', DI P ops N E M k μ0 w0 ds (l.setIfInBounds i true) a' w' μ' g' → next a' w') : wpOpIn (Fc r) n P ops Q i next a w := by
  obtain ⟨o, ho, hw, hp, h1, h2⟩ := S.tr.op i hiN
  have hwant := D.wanted S hi (by omega) ho hw
  have hopn := D.opn S hi (by omega) ho
  have hni := (ready_spec D.size hi).2.1
  unfold wpOpIn
  simp only [ho]
  cases hK : K i with
  | false =>
    rw [hwant, hK]
    simp only [Bool.false_eq_true, if_false]
    obtain ⟨b1, b2, _⟩ := h2 hK
    refine ⟨fun f _ => Fc_fn r f, hk _ _ _ _ (D.quiet S hi hiN ho (by rw [b1]; intro q; cases q) (by rw [b1]; intro q; cases q) (u := undef) (by rw [b2]; rfl) D.rel (Ext.refl _ _ _))⟩
  | true =>
    rw [hwant, hK]
    simp only [if_true]
    obtain ⟨b1, b2⟩ := h1 hK
    have hnd := evOp_nodefer_val b2
    have quiet : k i ≠ .eff → k i ≠ .alloc → evOp P X call yl (E i) o.op (M g) = .val (V i) (M g) → o.wpIn (Fc r) n P a w next Q := by
      intro q1 q2 q3
      rw [← only_same] at q3
      exact wpIn_val (evOp_val hX hC hY D.rel (fun z z1 z2 => by omega) hopn q3) hnd fun u μ' w' k1 k2 k3 => hk _ _ _ _ (D.quiet S hi hiN ho q1 q2 k1 k2 k3)
    cases hki : k i with
    | pure => exact quiet (by rw [hki]; intro q; cases q) (by rw [hki]; intro q; cases q) ((pure_val (by rw [← b1, hki]) b2).2 _)
    | read =>
      obtain ⟨m', q⟩ := S.reads i g o hiN hki ho D.gN D.gap
        (fun y y1 y2 y3 => by
          cases hb : bef (Region.before ops) y i with
          | false => rfl
          | true => exact absurd (bef_ready S.edge D.size D.closed hi hb) (D.ge y y1 y2 y3))
        (fun y y1 y3 => by
          cases hb : bef (Region.before ops) i y with
          | false => rfl
          | true => exact absurd (D.closed y (D.lt y y1 y3) i hb) hni)
      have := srcless_read (by rw [← b1, hki]) q
      subst this
      exact quiet (by rw [hki]; intro q; cases q) (by rw [hki]; intro q; cases q) q
    | alloc =>
      rw [← only_same] at b2
      obtain ⟨s, s1, cs, el, f, f1, f2, f3⟩ := alloc_lays (by rw [← b1, hki]) b2
      obtain ⟨us, rest, lh, u, w', c1, c2, c3, c4, c5, c6⟩ := f3 μ w a.eval hopn
      refine ⟨fun f _ => Fc_fn r f, ?_⟩
      rw [Fc_round, Oper.semAt_eq _ _ _ hnd, s1]
      have hrun : (do pure (Next.value (← s a.eval)) : Sem Next).run P w = .ok (.value u) w' := by simp [c2]
      rw [hrun, Oper.uponIn_value]
      exact hk _ _ _ _ (D.alloc S hi hiN ho hki f2 c1 c3 c4 c5 (by rw [f1]; exact c6 _ _ (Mp.add_same _ _ _)))
    | eff =>
      obtain rfl := D.at_gap S hi hiN hki
      rw [← only_same] at b2
      refine wpIn_val (evOp_val hX hC hY D.rel (fun z z1 z2 => D.free i hiN hni z z1 z2) hopn b2) hnd fun u μ' w' k1 k2 k3 => ?_
      obtain ⟨g', D'⟩ := D.eff S h0 hi hiN ho hki k1 k2 k3
      exact hk _ _ _ _ D'

/-! ### How many are not done -/
def cnt : List Bool → Nat
  | [] => 0
  | true :: l => cnt l
  | false :: l => cnt l + 1
theorem cnt_set : ∀ (l : List Bool) (i : Nat), l[i]? = some false → cnt (l.set i true) + 1 = cnt l
  | [], i, h => by simp at h
  | b :: l, 0, h => by simp at h; subst h; rfl
  | b :: l, i + 1, h => by
    have := cnt_set l i (by simpa using h)
    cases b
    · show cnt (l.set i true) + 1 + 1 = cnt l + 1; omega
    · exact this
theorem cnt_zero : ∀ (l : List Bool), cnt l = 0 → ∀ i, i < l.length → l[i]? = some true
  | [], _, i, h => by simp at h
  | true :: l, h, 0, _ => rfl
  | true :: l, h, i + 1, hi => by simpa using cnt_zero l h i (by simpa using hi)
  | false :: l, h, i, _ => by simp [cnt] at h
theorem ready_cnt (hl : l.size = ops.size) (hi : i ∈ Region.ready .any ops l) : cnt (l.setIfInBounds i true).toList + 1 = cnt l.toList := by
  obtain ⟨h1, h2, _⟩ := ready_spec hl hi
  rw [Array.toList_setIfInBounds]
  refine cnt_set _ _ ?_
  rw [Array.getElem?_toList]
  unfold inS at h2
  rw [Array.getElem?_eq_getElem (by omega)] at h2 ⊢
  cases hb : l[i] with
  | false => rfl
  | true => rw [hb] at h2; exact absurd rfl h2
theorem ready_nil (he : edgeOk ops = true) (hl : l.size = ops.size) (h : Region.ready .any ops l = []) : ∀ i, i < ops.size → inS l i := by
  intro i
  induction i using Nat.strongRecOn with
  | ind i ih =>
    intro hi
    cases hb : l[i]? with
    | none => rw [Array.getElem?_eq_none_iff] at hb; omega
    | some b =>
      cases b with
      | true => exact hb
      | false =>
        have : i ∈ Region.ready .any ops l := by
          rw [mem_ready]
          refine ⟨by simp [Array.getD_eq_getD_getElem?, hb], ops[i], Array.getElem?_eq_getElem hi, fun e hee hbd => ?_⟩
          have hlt : e.on < i := by
            unfold edgeOk at he
            rw [List.all_eq_true] at he
            have hm : (ops[i], i) ∈ ops.toList.zipIdx := by
              rw [List.mem_zipIdx_iff_getElem?, Array.getElem?_toList]
              exact Array.getElem?_eq_getElem hi
            have := he _ hm
            simp only [Array.all_eq_true_iff_forall_mem] at this
            have := this e hee
            rw [hbd] at this
            exact blt_lt (by simpa using this)
          have := ih e.on hlt (by omega)
          unfold inS at this
          simp [Array.getD_eq_getD_getElem?, this]
        rw [h] at this
        cases this

/-- THE REGION ENDS. -/
theorem drawn_ok (hX : HookS P X) (hC : CallS P call) (hY : YieldS P yl) (S : DS P X call yl ops N E M V K k μ0) (h0 : Rel P μ0 (M 0) w0) (hN : N = ops.size) {r : Option Nat} {n : Nat} {Q : Exit → Act → World → Prop}
    (hQ : ∀ a' w' μ', ActR μ' (E N) ds a' → Rel P μ' (M N) w' → Ext μ0 (M 0) w0 μ' (M N) w' → Q .normal a' w') :
    ∀ (fuel : Nat) {l : Array Bool} {a : Act} {w : World} {μ : Mp} {g : Nat}, DI P ops N E M k μ0 w0 ds l a w μ g → cnt l.toList ≤ fuel → wpAnyIn (Fc r) n P .any ops Q fuel l a w := by
  have fin : ∀ {l : Array Bool} {a : Act} {w : World} {μ : Mp} {g : Nat}, DI P ops N E M k μ0 w0 ds l a w μ g → (∀ i, i < ops.size → inS l i) → Q .normal a w := by
    intro l a w μ g D hall
    have hg : g = N := by
      rcases D.gap with q | q
      · exact q
      · rcases Nat.lt_or_ge g N with z | z
        · exact absurd (hall g (by omega)) (D.ge g (Nat.le_refl _) z q)
        · have := D.gN; omega
    subst hg
    refine hQ a w μ ⟨⟨by rw [S.en g (Nat.le_refl _)]; exact D.tn, fun t v hv => D.tmp g (Nat.le_refl _) t (fun i o hi _ => ?_) v hv⟩, D.dsr⟩ D.rel D.ext
    have hlt : i < ops.size := (Array.getElem?_eq_some_iff.1 hi).1
    exact ⟨fun _ => by omega, fun _ => hall i hlt⟩
  intro fuel
  induction fuel with
  | zero =>
    intro l a w μ g D hc
    have hall : ∀ i, i < ops.size → inS l i := fun i hi => by
      have := cnt_zero l.toList (by omega) i (by rw [Array.length_toList, D.size]; exact hi)
      rwa [Array.getElem?_toList] at this
    refine ⟨?_, fin D hall⟩
    cases hr : Region.ready .any ops l with
    | nil => rfl
    | cons x xs =>
      have hx : x ∈ Region.ready .any ops l := by rw [hr]; exact List.mem_cons_self ..
      have := ready_spec D.size hx
      exact absurd (hall x this.1) this.2.1
  | succ fuel ih =>
    intro l a w μ g D hc
    refine ⟨fun hr => fin D (ready_nil S.edge D.size hr), fun i hi => ?_⟩
    have hlt := (ready_spec D.size hi).1
    refine D.step hX hC hY S h0 hi (by omega) fun a' w' μ' g' D' => ih D' ?_
    have := ready_cnt D.size hi
    omega

theorem Ext.bump {L L' : Nat} (h : Ext μ m w μ' ⟨m'.t, L⟩ w') (hL : L ≤ L') : Ext μ m w μ' ⟨m'.t, L'⟩ w' where
  le := h.le
  new := fun b x h1 h2 => let ⟨a, b, c⟩ := h.new b x h1 h2; ⟨a, Nat.lt_of_lt_of_le b hL, c⟩
  nx := Nat.le_trans h.nx hL
  mfr := h.mfr
  non := h.non
  ro := h.ro
  wro := h.wro
  fr := h.fr
  sz := h.sz
  os := h.os
  tape := h.tape
  output := h.output

/-- THE REGION IS LEFT BY A PANIC. -/
theorem drawn_pan (hX : HookS P X) (hC : CallS P call) (hY : YieldS P yl) (S : DS P X call yl ops N E M V K k μ0) (h0 : Rel P μ0 (M 0) w0) (hN : N < ops.size) {v : MV} (ho : ops[N]? = some o) (hw : wantM ops (E N) o = some true)
    (hp : evOp P X call yl (E N) o.op (M N) = .pan v m') (hch : ∀ f, f < N → k f = .eff → (∀ q, f < q → q < N → k q ≠ .eff) → bef (Region.before ops) f N = true) (hlate : ∀ j, N < j → j < ops.size → bef (Region.before ops) N j = true)
    (hfree : Free μ0 (M 0).next m'.next) (hnx : (M N).next ≤ m'.next) {r : Option Nat} {n : Nat} {Q : Exit → Act → World → Prop} {ed : Env} (hed : ed.n = (E 0).n) (hdrop : ∀ t v, ed.get t = some v → (E 0).get t = some v ∧ ∀ (i : Nat) o, ops[i]? = some o → o.dst ≠ some t)
    (hQ : ∀ u a' w' μ', tr μ' v = some u → ActR μ' ed ds a' → Rel P μ' m' w' → Ext μ0 (M 0) w0 μ' m' w' → Q (.panic [{ v := u, recovered := false }]) a' w') :
    ∀ (fuel : Nat) {l : Array Bool} {a : Act} {w : World} {μ : Mp} {g : Nat}, DI P ops N E M k μ0 w0 ds l a w μ g → cnt l.toList ≤ fuel → wpAnyIn (Fc r) n P .any ops Q fuel l a w := by
  have never : ∀ {l : Array Bool} {a : Act} {w : World} {μ : Mp} {g : Nat}, DI P ops N E M k μ0 w0 ds l a w μ g → ¬ ∀ i, i < ops.size → inS l i := by
    intro l a w μ g D hall
    have := D.inN N (hall N hN)
    omega
  intro fuel
  induction fuel with
  | zero =>
    intro l a w μ g D hc
    refine absurd (fun i hi => ?_) (never D)
    have := cnt_zero l.toList (by omega) i (by rw [Array.length_toList, D.size]; exact hi)
    rwa [Array.getElem?_toList] at this
  | succ fuel ih =>
    intro l a w μ g D hc
    refine ⟨fun hr => absurd (ready_nil S.edge D.size hr) (never D), fun i hi => ?_⟩
    have hlt := (ready_spec D.size hi).1
    rcases Nat.lt_trichotomy i N with q | q | q
    · refine D.step hX hC hY S h0 hi q fun a' w' μ' g' D' => ih D' ?_
      have := ready_cnt D.size hi
      omega
    · subst q
      have hg : g = i := by
        rcases D.gap with z | z
        · exact z
        · rcases Nat.lt_or_ge g i with y | y
          · obtain ⟨f, f1, f2, f3, f4⟩ := last_one (fun q => k q = .eff) g (i - g) ⟨g, Nat.le_refl _, by omega, z⟩
            have hb := hch f (by omega) f3 fun q q1 q2 => f4 q q1 (by omega)
            exact absurd (bef_ready S.edge D.size D.closed hi hb) (D.ge f f1 (by omega) f3)
          · have := D.gN; omega
      subst hg
      unfold wpOpIn
      simp only [ho]
      rw [D.wanted S hi (Nat.le_refl _) ho hw]
      simp only [if_true]
      have hnd := evOp_nodefer_pan hp
      have hopn := D.opn S hi (Nat.le_refl _) ho
      have hp' := hp
      rw [← only_same] at hp'
      have hfr : Free μ (M g).next m'.next := by
        intro z z1 z2
        cases hz : μ z with
        | none => rfl
        | some y =>
          have hm0 := hfree z (Nat.le_trans (S.tr.next_le' (Nat.zero_le _) (Nat.le_refl _)) z1) z2
          have hlt2 : z < (M g).next := (D.ext.new z y hz hm0).2.1
          omega
      refine wpIn_pan (evOp_pan hC hY D.rel hfr hopn hp') hnd fun u μ' w' k1 k2 k3 => ?_
      have hE := (D.ext.bump hnx).stepL k3 D.rel.wf (S.tr.next_le' (Nat.zero_le _) (Nat.le_refl _)) (Nat.le_refl _) hfree
      refine hQ u a w' μ' k1 ⟨⟨by rw [hed]; exact D.tn, fun t y hy => ?_⟩, D.dsr.mono k3.le⟩ k2 hE
      obtain ⟨d1, d2⟩ := hdrop t y hy
      obtain ⟨z, z1, z2⟩ := D.tmp 0 (Nat.zero_le _) t (fun i o' hi' hd' => absurd hd' (d2 i o' hi')) y d1
      exact ⟨z, z1, tr_mono k3.le z2⟩
    · have := D.inN N (bef_ready S.edge D.size D.closed hi (hlate i q hlt))
      omega
end
end
end Go.Mir

/-! THE MIRROR, LAWS 26: regions that draw their order: what the evaluator checks. -/
namespace Go.Mir
noncomputable section
section
variable {P : Program} {μ μ' : Mp} {m m' m1 : Mem} {w w' : World} {e e' : Env} {X : Hook} {call : Caller} {yl : Yielder} {ops : Array Oper}

def StepE (P : Program) (X : Hook) (call : Caller) (yl : Yielder) (ops : Array Oper) (o : Oper) (x : En) (m1 : Mem) : Prop :=
  (wantM ops x.e o = some false ∧ x.skip = true ∧ x.k = .pure ∧ x.v = .tup [] ∧ m1 = x.m) ∨
  (wantM ops x.e o = some true ∧ x.skip = false ∧ x.k = kd P o.op ∧ evOp P X call yl x.e o.op x.m = .val x.v m1 ∧ x.m.next ≤ m1.next)
def Chn (P : Program) (X : Hook) (call : Caller) (yl : Yielder) (ops : Array Oper) : List Oper → Nat → Env → Mem → List En → Env → Mem → Prop
  | [], _, e, m, [], e', m' => e' = e ∧ m' = m
  | o :: os, i, e, m, x :: xs, e', m' => x.i = i ∧ x.o = o ∧ x.e = e ∧ x.m = m ∧ ∃ e1 m1, StepE P X call yl ops o x m1 ∧ PutE e o.dst x.v e1 ∧ Chn P X call yl ops os (i + 1) e1 m1 xs e' m'
  | _, _, _, _, _, _, _ => False

theorem putK_dr {d : Option Tmp} {v : MV} {k : Env → DR} {r : DR} (h : e.putK d v .fail k = r) (hr : r ≠ .fail) : ∃ e1, PutE e d v e1 ∧ k e1 = r := by
  rcases putK_inv (e := e) (d := d) (v := v) (bad := DR.fail) (k := k) with q | ⟨e1, q, q1, q2⟩
  · rw [q] at h; exact absurd h.symm hr
  · rw [q] at h; exact ⟨e1, ⟨q1, q2⟩, h⟩

theorem runD_ok : ∀ (os : List Oper) {i : Nat} {e : Env} {m : Mem} {es es' : List En} {e' : Env} {m' : Mem}, runD P X call yl ops os i e m es = .ok es' e' m' → ∃ xs, es' = xs.reverse ++ es ∧ Chn P X call yl ops os i e m xs e' m'
  | [], i, e, m, es, es', e', m', h => by
    simp only [runD] at h
    cases h
    exact ⟨[], rfl, rfl, rfl⟩
  | o :: os, i, e, m, es, es', e', m', h => by
    simp only [runD] at h
    cases hw : wantM ops e o with
    | none => rw [hw] at h; cases h
    | some b =>
      rw [hw] at h
      cases b with
      | false =>
        simp only [] at h
        obtain ⟨e1, p1, h⟩ := putK_dr h (by intro q; cases q)
        obtain ⟨xs, q1, q2⟩ := runD_ok os h
        exact ⟨⟨i, o, true, .pure, e, m, .tup []⟩ :: xs, by rw [q1]; simp, rfl, rfl, rfl, rfl, e1, m, .inl ⟨hw, rfl, rfl, rfl, rfl⟩, p1, q2⟩
      | true =>
        simp only [] at h
        cases hop : evOp P X call yl e o.op m with
        | val v m1 =>
          rw [hop] at h
          simp only [] at h
          cases hb : Nat.ble m.next m1.next with
          | false => rw [hb] at h; cases h
          | true =>
            rw [hb] at h
            obtain ⟨e1, p1, h⟩ := putK_dr h (by intro q; cases q)
            obtain ⟨xs, q1, q2⟩ := runD_ok os h
            exact ⟨⟨i, o, false, kd P o.op, e, m, v⟩ :: xs, by rw [q1]; simp, rfl, rfl, rfl, rfl, e1, m1, .inr ⟨hw, rfl, rfl, hop, Nat.le_of_ble_eq_true hb⟩, p1, q2⟩
        | pan v m1 =>
          rw [hop] at h
          simp only [] at h
          split at h <;> cases h
        | dfr f a m1 => rw [hop] at h; cases h
        | fail => rw [hop] at h; cases h

theorem runD_pan : ∀ (os : List Oper) {i : Nat} {e : Env} {m : Mem} {es es' : List En} {x : En} {m' : Mem}, runD P X call yl ops os i e m es = .pan es' x m' →
    ∃ os1 o os2 xs, os = os1 ++ o :: os2 ∧ es' = xs.reverse ++ es ∧ Chn P X call yl ops os1 i e m xs x.e x.m ∧ x.i = i + os1.length ∧ wantM ops x.e o = some true ∧ evOp P X call yl x.e o.op x.m = .pan x.v m' ∧ x.m.next ≤ m'.next
  | [], i, e, m, es, es', x, m', h => by
    simp only [runD] at h
    cases h
  | o :: os, i, e, m, es, es', x, m', h => by
    simp only [runD] at h
    cases hw : wantM ops e o with
    | none => rw [hw] at h; cases h
    | some b =>
      rw [hw] at h
      cases b with
      | false =>
        simp only [] at h
        obtain ⟨e1, p1, h⟩ := putK_dr h (by intro q; cases q)
        obtain ⟨os1, o1, os2, xs, q1, q2, q3, q4, q5⟩ := runD_pan os h
        exact ⟨o :: os1, o1, os2, ⟨i, o, true, .pure, e, m, .tup []⟩ :: xs, by rw [q1]; rfl, by rw [q2]; simp, ⟨rfl, rfl, rfl, rfl, e1, m, .inl ⟨hw, rfl, rfl, rfl, rfl⟩, p1, q3⟩, by rw [q4, List.length_cons]; omega, q5⟩
      | true =>
        simp only [] at h
        cases hop : evOp P X call yl e o.op m with
        | val v m1 =>
          rw [hop] at h
          simp only [] at h
          cases hb : Nat.ble m.next m1.next with
          | false => rw [hb] at h; cases h
          | true =>
            rw [hb] at h
            obtain ⟨e1, p1, h⟩ := putK_dr h (by intro q; cases q)
            obtain ⟨os1, o1, os2, xs, q1, q2, q3, q4, q5⟩ := runD_pan os h
            exact ⟨o :: os1, o1, os2, ⟨i, o, false, kd P o.op, e, m, v⟩ :: xs, by rw [q1]; rfl, by rw [q2]; simp, ⟨rfl, rfl, rfl, rfl, e1, m1, .inr ⟨hw, rfl, rfl, hop, Nat.le_of_ble_eq_true hb⟩, p1, q3⟩, by rw [q4, List.length_cons]; omega, q5⟩
        | pan v m1 =>
          rw [hop] at h
          simp only [] at h
          cases hb : Nat.ble m.next m1.next with
          | false => rw [hb] at h; cases h
          | true =>
            rw [hb] at h
            cases h
            exact ⟨[], o, os, [], rfl, rfl, ⟨rfl, rfl⟩, rfl, hw, hop, Nat.le_of_ble_eq_true hb⟩
        | dfr f a m1 => rw [hop] at h; cases h
        | fail => rw [hop] at h; cases h

/-! ### By places -/
def atE (xs : List En) (e' : Env) (j : Nat) : Env := match xs[j]? with | some x => x.e | none => e'
def atM (xs : List En) (m' : Mem) (j : Nat) : Mem := match xs[j]? with | some x => x.m | none => m'
def atV (xs : List En) (j : Nat) : MV := match xs[j]? with | some x => x.v | none => .nilp
def atK (xs : List En) (j : Nat) : Bool := match xs[j]? with | some x => !x.skip | none => false
def atk (xs : List En) (j : Nat) : Kd := match xs[j]? with | some x => x.k | none => .pure

theorem Chn.zero (os : List Oper) : ∀ {i : Nat} {e : Env} {m : Mem} {xs : List En} {e' : Env} {m' : Mem}, Chn P X call yl ops os i e m xs e' m' → atE xs e' 0 = e ∧ atM xs m' 0 = m ∧ xs.length = os.length := by
  induction os with
  | nil =>
    intro i e m xs e' m' h
    cases xs with
    | nil => exact ⟨h.1, h.2, rfl⟩
    | cons x xs => exact h.elim
  | cons o os ih =>
    intro i e m xs e' m' h
    cases xs with
    | nil => exact h.elim
    | cons x xs =>
      obtain ⟨_, _, h3, h4, e1, m1, _, _, h5⟩ := h
      exact ⟨h3, h4, by simp [(ih h5).2.2]⟩
theorem Chn.at (os : List Oper) : ∀ {i : Nat} {e : Env} {m : Mem} {xs : List En} {e' : Env} {m' : Mem}, Chn P X call yl ops os i e m xs e' m' → ∀ j, j < xs.length →
    ∃ x o, xs[j]? = some x ∧ os[j]? = some o ∧ x.i = i + j ∧ x.o = o ∧ StepE P X call yl ops o x (atM xs m' (j + 1)) ∧ PutE x.e o.dst x.v (atE xs e' (j + 1)) := by
  induction os with
  | nil =>
    intro i e m xs e' m' h j hj
    cases xs with
    | nil => simp at hj
    | cons x xs => exact h.elim
  | cons o os ih =>
    intro i e m xs e' m' h j hj
    cases xs with
    | nil => simp at hj
    | cons x xs =>
      obtain ⟨h1, h2, h3, h4, e1, m1, s1, p1, h5⟩ := h
      cases j with
      | zero =>
        obtain ⟨z1, z2, _⟩ := Chn.zero os h5
        refine ⟨x, o, rfl, rfl, h1, h2, ?_, ?_⟩
        · show StepE P X call yl ops o x (atM xs m' 0); rw [z2]; exact s1
        · show PutE x.e o.dst x.v (atE xs e' 0); rw [z1, h3]; exact p1
      | succ j =>
        obtain ⟨y, o', k1, k2, k3, k4, k5, k6⟩ := ih h5 j (by simpa using hj)
        exact ⟨y, o', k1, k2, by rw [k3]; omega, k4, k5, k6⟩

theorem atE_some {xs : List En} {e' : Env} {j : Nat} {x : En} (h : xs[j]? = some x) : atE xs e' j = x.e := by simp only [atE, h]
theorem atM_some {xs : List En} {m' : Mem} {j : Nat} {x : En} (h : xs[j]? = some x) : atM xs m' j = x.m := by simp only [atM, h]
theorem atV_some {xs : List En} {j : Nat} {x : En} (h : xs[j]? = some x) : atV xs j = x.v := by simp only [atV, h]
theorem atK_some {xs : List En} {j : Nat} {x : En} (h : xs[j]? = some x) : atK xs j = !x.skip := by simp only [atK, h]
theorem atk_some {xs : List En} {j : Nat} {x : En} (h : xs[j]? = some x) : atk xs j = x.k := by simp only [atk, h]
theorem atM_end {xs : List En} {m' : Mem} : atM xs m' xs.length = m' := by simp [atM]
theorem atE_end {xs : List En} {e' : Env} : atE xs e' xs.length = e' := by simp [atE]

/-- The run in the order of the text. -/
theorem Chn.tr {os : List Oper} {xs : List En} (h : Chn P X call yl ops os 0 e m xs e' m') (hos : ∀ j, j < os.length → ops[j]? = os[j]?) : TR P X call yl ops xs.length (atE xs e') (atM xs m') (atV xs) (atK xs) (atk xs) := by
  have hlen := (Chn.zero _ h).2.2
  refine ⟨fun i hi => ?_, fun i hi => ?_⟩
  · obtain ⟨x, o, k1, k2, k3, k4, k5, k6⟩ := Chn.at _ h i hi
    refine ⟨o, by rw [hos i (by omega)]; exact k2, ?_⟩
    rw [atE_some k1, atV_some k1, atK_some k1, atk_some k1, atM_some k1]
    rcases k5 with ⟨s1, s2, s3, s4, s5⟩ | ⟨s1, s2, s3, s4, s5⟩
    · exact ⟨(by rw [s1, s2]; rfl), k6, fun q => (by rw [s2] at q; cases q), fun _ => ⟨s3, s4, s5⟩⟩
    · exact ⟨(by rw [s1, s2]; rfl), k6, fun _ => ⟨s3, s4⟩, fun q => (by rw [s2] at q; cases q)⟩
  · obtain ⟨x, o, k1, k2, k3, k4, k5, k6⟩ := Chn.at _ h i hi
    rw [atM_some k1]
    rcases k5 with ⟨s1, s2, s3, s4, s5⟩ | ⟨s1, s2, s3, s4, s5⟩
    · rw [s5]; exact Nat.le_refl _
    · exact s5

/-! ### The checks -/
theorem chain_at {b : Array Nat} : ∀ (l1 : List En) {x y : En} {l2 : List En}, chain b (l1 ++ x :: y :: l2) = true → bef b x.i y.i = true
  | [], x, y, l2, h => by
    simp only [List.nil_append, chain, Bool.and_eq_true] at h
    exact h.1
  | [z], x, y, l2, h => by
    simp only [List.cons_append, List.nil_append, chain, Bool.and_eq_true] at h
    exact h.2.1
  | z :: z' :: l1, x, y, l2, h => by
    simp only [List.cons_append, chain, Bool.and_eq_true] at h
    exact chain_at (z' :: l1) h.2

theorem none_filter (p : En → Bool) {l : List En} (h : ∀ x ∈ l, p x = false) : l.filter p = [] := by
  rw [List.filter_eq_nil_iff]
  intro x hx
  rw [h x hx]
  decide

/-- Two effects without one in between stand side by side. -/
theorem filter_pair (p : En → Bool) {xs : List En} {f i : Nat} {x y : En} (hf : xs[f]? = some x) (hi : xs[i]? = some y) (hfi : f < i) (hx : p x = true) (hy : p y = true) (hn : ∀ q z, f < q → q < i → xs[q]? = some z → p z = false) :
    ∃ l1 l2, xs.filter p = l1 ++ x :: y :: l2 := by
  obtain ⟨hfl, rfl⟩ := List.getElem?_eq_some_iff.1 hf
  obtain ⟨hil, rfl⟩ := List.getElem?_eq_some_iff.1 hi
  have h1 : xs = xs.take f ++ xs[f] :: ((xs.drop (f + 1)).take (i - (f + 1)) ++ xs[i] :: xs.drop (i + 1)) := by
    have a1 : xs = xs.take f ++ xs.drop f := (List.take_append_drop f xs).symm
    have a2 : xs.drop f = xs[f] :: xs.drop (f + 1) := List.drop_eq_getElem_cons hfl
    have a3 : xs.drop (f + 1) = (xs.drop (f + 1)).take (i - (f + 1)) ++ (xs.drop (f + 1)).drop (i - (f + 1)) := (List.take_append_drop _ _).symm
    have a4 : (xs.drop (f + 1)).drop (i - (f + 1)) = xs[i] :: xs.drop (i + 1) := by
      rw [List.drop_drop, show f + 1 + (i - (f + 1)) = i by omega]
      exact List.drop_eq_getElem_cons hil
    rw [← a4, ← a3, ← a2, ← a1]
  have h2 : ((xs.drop (f + 1)).take (i - (f + 1))).filter p = [] := by
    refine none_filter p fun z hz => ?_
    obtain ⟨q, hq, rfl⟩ := List.getElem_of_mem hz
    simp only [List.length_take, List.length_drop] at hq
    refine hn (f + 1 + q) _ (by omega) (by omega) ?_
    rw [List.getElem_take, List.getElem_drop, List.getElem?_eq_getElem]
  refine ⟨(xs.take f).filter p, (xs.drop (i + 1)).filter p, ?_⟩
  conv => lhs; rw [h1]
  rw [List.filter_append, List.filter_cons, if_pos hx, List.filter_append, h2, List.nil_append, List.filter_cons, if_pos hy]

theorem filter_last (p : En → Bool) {xs : List En} {f : Nat} {x : En} (hf : xs[f]? = some x) (hx : p x = true) (hn : ∀ q z, f < q → xs[q]? = some z → p z = false) : ∃ l1, xs.filter p = l1 ++ [x] := by
  obtain ⟨hfl, rfl⟩ := List.getElem?_eq_some_iff.1 hf
  have h2 : (xs.drop (f + 1)).filter p = [] := by
    refine none_filter p fun z hz => ?_
    obtain ⟨q, hq, rfl⟩ := List.getElem_of_mem hz
    simp only [List.length_drop] at hq
    refine hn (f + 1 + q) _ (by omega) ?_
    rw [List.getElem_drop, List.getElem?_eq_getElem]
  refine ⟨(xs.take f).filter p, ?_⟩
  conv => lhs; rw [← List.take_append_drop f xs, List.drop_eq_getElem_cons hfl]
  rw [List.filter_append, List.filter_cons, if_pos hx, h2]

theorem readAll_at {b : Array Nat} {x : En} {last : Mem} : ∀ (r1 : List En) {done r2 : List En}, readAll P X call yl b x last done (r1 ++ r2) = true →
    (∀ y ∈ r2, bef b y.i x.i = false) → (∀ y ∈ r1, bef b x.i y.i = false) → (∀ y ∈ done, bef b x.i y.i = false) →
    ∃ m', evOp P X call yl x.e x.o.op (match r2 with | [] => last | y :: _ => y.m) = .val x.v m'
  | [], done, r2, h, h1, _, h3 => by
    have hfree : (r2.any (fun y => bef b y.i x.i) || done.any (fun y => bef b x.i y.i)) = false := by
      rw [Bool.or_eq_false_iff, List.any_eq_false, List.any_eq_false]
      exact ⟨fun y hy => by rw [h1 y hy]; decide, fun y hy => by rw [h3 y hy]; decide⟩
    have key : ∀ m, (match evOp P X call yl x.e x.o.op m with | .val v _ => same v x.v | _ => false) = true → ∃ m', evOp P X call yl x.e x.o.op m = .val x.v m' := by
      intro m hm
      cases ho : evOp P X call yl x.e x.o.op m with
      | val v m1 =>
        rw [ho] at hm
        have := same_eq hm
        subst this
        exact ⟨m1, rfl⟩
      | _ => rw [ho] at hm; cases hm
    cases r2 with
    | nil =>
      rw [List.nil_append] at h
      unfold readAll at h
      simp only [] at h
      rw [hfree, Bool.false_or] at h
      exact key _ h
    | cons y r2 =>
      rw [List.nil_append] at h
      unfold readAll at h
      simp only [Bool.and_eq_true] at h
      have h := h.1
      rw [hfree, Bool.false_or] at h
      exact key _ h
  | z :: r1, done, r2, h, h1, h2, h3 => by
    rw [List.cons_append] at h
    unfold readAll at h
    simp only [Bool.and_eq_true] at h
    refine readAll_at r1 h.2 h1 (fun y hy => h2 y (List.mem_cons_of_mem _ hy)) fun y hy => ?_
    cases hy with
    | head => exact h2 z (List.mem_cons_self ..)
    | tail _ hy => exact h3 y hy
end
end
end Go.Mir

/-! THE MIRROR, LAWS 27: regions that draw their order: the rule. -/
namespace Go.Mir
noncomputable section
section
variable {P : Program} {μ μ' : Mp} {m m' m1 : Mem} {w w' : World} {e e' : Env} {X : Hook} {call : Caller} {yl : Yielder} {ops : Array Oper}

theorem isEff_k {x : En} : x.isEff = true ↔ x.k = .eff := by unfold En.isEff; cases x.k <;> simp
theorem isAlloc_k {x : En} : x.isAlloc = true ↔ x.k = .alloc := by unfold En.isAlloc; cases x.k <;> simp
theorem isRead_k {x : En} : x.isRead = true ↔ x.k = .read := by unfold En.isRead; cases x.k <;> simp

theorem Chn.ds {os : List Oper} {xs : List En} {pan : Option En} (h : Chn P X call yl ops os 0 e m xs e' m') (hos : ∀ j, j < os.length → ops[j]? = os[j]?) (hle : os.length ≤ ops.size) (hr : regOk ops = true)
    (hd : drawOk P X call yl (Region.before ops) xs.reverse m' pan = true) (hf : Free μ m.next m'.next) (hlow : P.globals.size < m.next) :
    DS P X call yl ops xs.length (atE xs e') (atM xs m') (atV xs) (atK xs) (atk xs) μ ∧ chain (Region.before ops) (xs.filter (·.isEff) ++ pan.toList) = true := by
  have hlen := (Chn.zero _ h).2.2
  have hz := Chn.zero _ h
  have htr := h.tr hos
  obtain ⟨he, ht⟩ := Bool.and_eq_true_iff.1 hr
  have hfx : (xs.reverse.filter (·.isEff)).reverse = xs.filter (·.isEff) := by rw [List.filter_reverse, List.reverse_reverse]
  unfold drawOk at hd
  simp only [hfx, Bool.and_eq_true] at hd
  obtain ⟨hch, hrd⟩ := hd
  have hk : ∀ (j : Nat) (x : En), xs[j]? = some x → x.i = j := by
    intro j x hx
    obtain ⟨y, o, k1, _, k3, _⟩ := Chn.at _ h j (List.getElem?_eq_some_iff.1 hx).1
    rw [hx] at k1
    cases k1
    omega
  refine ⟨⟨htr, by omega, he, ht, ?_, ?_, ?_, ?_⟩, hch⟩
  · intro i f hi hki hfi hkf hn
    obtain ⟨y, hy⟩ : ∃ y, xs[i]? = some y := ⟨xs[i], List.getElem?_eq_getElem hi⟩
    obtain ⟨x, hx⟩ : ∃ x, xs[f]? = some x := ⟨xs[f]'(by omega), List.getElem?_eq_getElem (by omega)⟩
    rw [atk_some hy] at hki
    rw [atk_some hx] at hkf
    obtain ⟨l1, l2, q⟩ := filter_pair (·.isEff) hx hy hfi (isEff_k.2 hkf) (isEff_k.2 hki) fun q z q1 q2 hq => by
      have := hn q q1 q2
      rw [atk_some hq] at this
      cases hb : z.isEff with
      | false => rfl
      | true => exact absurd (isEff_k.1 hb) this
    rw [q, List.append_assoc] at hch
    have := chain_at l1 hch
    rwa [hk f x hx, hk i y hy] at this
  · intro i g o hi hki ho hg hgk hlate hearly
    obtain ⟨x, hx⟩ : ∃ x, xs[i]? = some x := ⟨xs[i], List.getElem?_eq_getElem hi⟩
    obtain ⟨x', o', k1, k2, k3, k4, k5, k6⟩ := Chn.at _ h i hi
    rw [hx] at k1
    cases k1
    have hoo : o' = o := by
      rw [hos i (by omega), k2] at ho
      cases ho
      rfl
    subst hoo
    rw [atk_some hx] at hki
    rw [atE_some hx, atV_some hx]
    by_cases hq : xs.filter (·.isEff) = [] ∧ xs.reverse.any (·.isAlloc) = false
    · -- nothing turns memory
      have hconst : ∀ d, d ≤ xs.length → atM xs m' d = atM xs m' 0 := by
        intro d
        induction d with
        | zero => intro _; rfl
        | succ d ih =>
          intro hd
          obtain ⟨y, hy⟩ : ∃ y, xs[d]? = some y := ⟨xs[d]'(by omega), List.getElem?_eq_getElem (by omega)⟩
          have hyk : atk xs d = y.k := atk_some hy
          have hmem : y ∈ xs := by obtain ⟨z, rfl⟩ := List.getElem?_eq_some_iff.1 hy; exact List.getElem_mem z
          have hne : atk xs d ≠ .eff := by
            rw [hyk]
            intro z
            have := List.filter_eq_nil_iff.1 hq.1 y hmem
            exact this (isEff_k.2 z)
          have hna : atk xs d ≠ .alloc := by
            rw [hyk]
            intro z
            have := List.any_eq_false.1 hq.2 y (List.mem_reverse.2 hmem)
            exact this (isAlloc_k.2 z)
          rcases htr.step (i := d) (by omega) hne with ⟨_, z⟩ | ⟨z, _⟩
          · rw [z]; exact ih (by omega)
          · exact absurd z hna
      have hgm : atM xs m' g = x.m := by rw [hconst g hg, ← hconst i (by omega), atM_some hx]
      rw [hgm]
      rcases k5 with ⟨s1, s2, s3, s4, s5⟩ | ⟨s1, s2, s3, s4, s5⟩
      · rw [hki] at s3; cases s3
      · exact ⟨_, s4⟩
    · have hall : xs.reverse.all (fun x => !x.isRead || readAll P X call yl (Region.before ops) x m' [] (xs.filter (·.isEff))) = true := by
        revert hrd
        cases hfe : xs.filter (·.isEff) with
        | nil =>
          cases ha : xs.reverse.any (·.isAlloc) with
          | false => exact absurd ⟨hfe, ha⟩ hq
          | true => exact id
        | cons y ys => exact id
      have hmem : x ∈ xs.reverse := by obtain ⟨z, rfl⟩ := List.getElem?_eq_some_iff.1 hx; exact List.mem_reverse.2 (List.getElem_mem z)
      have hra := List.all_eq_true.1 hall x hmem
      rw [isRead_k.2 hki] at hra
      simp only [Bool.not_true, Bool.false_or] at hra
      have hsplit : xs.filter (·.isEff) = (xs.take g).filter (·.isEff) ++ (xs.drop g).filter (·.isEff) := by rw [← List.filter_append, List.take_append_drop]
      rw [hsplit] at hra
      have hxi := hk i x hx
      obtain ⟨m2, hev⟩ := readAll_at _ hra (fun y hy => by
          obtain ⟨hy1, hy2⟩ := List.mem_filter.1 hy
          obtain ⟨q, hq, rfl⟩ := List.getElem_of_mem hy1
          simp only [List.length_drop] at hq
          have hyq : xs[g + q]? = some (xs.drop g)[q] := by rw [List.getElem_drop, List.getElem?_eq_getElem]
          rw [hk _ _ hyq, hxi]
          exact hlate (g + q) (by omega) (by omega) (by rw [atk_some hyq]; exact isEff_k.1 hy2))
        (fun y hy => by
          obtain ⟨hy1, hy2⟩ := List.mem_filter.1 hy
          obtain ⟨q, hq, rfl⟩ := List.getElem_of_mem hy1
          simp only [List.length_take] at hq
          have hyq : xs[q]? = some (xs.take g)[q] := by rw [List.getElem_take, List.getElem?_eq_getElem]
          rw [hk _ _ hyq, hxi]
          exact hearly q (by omega) (by rw [atk_some hyq]; exact isEff_k.1 hy2))
        (fun y hy => by cases hy)
      rw [← k4]
      refine ⟨m2, ?_⟩
      rcases hgk with hg | hg
      · subst hg
        rw [List.drop_length, List.filter_nil] at hev
        rw [atM_end]
        exact hev
      · rcases Nat.lt_or_ge g xs.length with z | z
        · rw [List.drop_eq_getElem_cons z, List.filter_cons] at hev
          have hgx : xs[g]? = some xs[g] := List.getElem?_eq_getElem z
          rw [atk_some hgx] at hg
          rw [if_pos (isEff_k.2 hg)] at hev
          rw [atM_some hgx]
          exact hev
        · have : g = xs.length := by omega
          subst this
          rw [List.drop_length, List.filter_nil] at hev
          rw [atM_end]
          exact hev
  · rw [hz.2.1, atM_end]; exact hf
  · rw [hz.2.1]; exact hlow

theorem dropK_eq {β : Type} : ∀ (os : List Oper) (t : T MV) (k : T MV → β), dropK os t k = k (dropK os t id)
  | [], _, _ => rfl
  | o :: os, t, k => by
    unfold dropK
    cases o.dst with
    | none => exact dropK_eq os t k
    | some d => simp only [T.setK_eq]; exact dropK_eq os _ k
theorem dropK_get : ∀ (os : List Oper) (t : T MV) (i : Nat) (v : MV), T.get (pth i) (dropK os t id) = some v → T.get (pth i) t = some v ∧ ∀ o ∈ os, o.dst ≠ some i
  | [], _, _, _, h => ⟨h, fun o ho => by cases ho⟩
  | o :: os, t, i, v, h => by
    unfold dropK at h
    cases hd : o.dst with
    | none =>
      rw [hd] at h
      obtain ⟨h1, h2⟩ := dropK_get os t i v h
      refine ⟨h1, fun o' ho' => ?_⟩
      cases ho' with
      | head => rw [hd]; intro q; cases q
      | tail _ ho' => exact h2 o' ho'
    | some d =>
      rw [hd] at h
      simp only [T.setK_eq] at h
      obtain ⟨h1, h2⟩ := dropK_get os _ i v h
      rw [T.get_pth_set] at h1
      by_cases hid : i = d
      · rw [if_pos hid] at h1; cases h1
      · rw [if_neg hid] at h1
        refine ⟨h1, fun o' ho' => ?_⟩
        cases ho' with
        | head => rw [hd]; intro q; cases q; exact hid rfl
        | tail _ ho' => exact h2 o' ho'

theorem evDraw_next {ds : List MD} {x : EX} {ds' : List MD} (h : evDraw P X call yl ops e ds m = .ok x e' ds' m') : m.next ≤ m'.next := by
  unfold evDraw at h
  cases hr : regOk ops with
  | false => rw [hr] at h; cases h
  | true =>
    rw [hr] at h
    simp only [] at h
    cases hrun : runD P X call yl ops ops.toList 0 e m [] with
    | ok es e1 m1 =>
      rw [hrun] at h
      simp only [] at h
      split at h
      · simp only [Env.flushK_eq] at h
        cases h
        obtain ⟨xs, _, q2⟩ := runD_ok _ hrun
        have htr := q2.tr (ops := ops) (fun j _ => by rw [Array.getElem?_toList])
        have := htr.next_le' (i := 0) (j := xs.length) (Nat.zero_le _) (Nat.le_refl _)
        rwa [(Chn.zero _ q2).2.1, atM_end] at this
      · cases h
    | pan es y m1 =>
      rw [hrun] at h
      simp only [] at h
      split at h
      · simp only [Env.flushK_eq] at h
        rw [dropK_eq] at h
        cases h
        obtain ⟨os1, o, os2, xs, q0, _, q2, _, _, _, q6⟩ := runD_pan _ hrun
        have htr := q2.tr (ops := ops) (fun j hj => by rw [← Array.getElem?_toList, q0, List.getElem?_append_left hj])
        have := htr.next_le' (i := 0) (j := xs.length) (Nat.zero_le _) (Nat.le_refl _)
        rw [(Chn.zero _ q2).2.1, atM_end] at this
        exact Nat.le_trans this q6
      · cases h
    | fail => rw [hrun] at h; cases h

theorem cnt_le : ∀ l : List Bool, cnt l ≤ l.length
  | [] => Nat.le_refl _
  | true :: l => Nat.le_succ_of_le (cnt_le l)
  | false :: l => Nat.succ_le_succ (cnt_le l)

theorem Ext.drawn (h : Ext μ m { w with drawn := w.drawn + 1 } μ' m' w') : Ext μ m w μ' m' w' where
  le := h.le
  new := h.new
  nx := h.nx
  mfr := h.mfr
  non := h.non
  ro := h.ro
  wro := h.wro
  fr := h.fr
  sz := h.sz
  os := h.os
  tape := h.tape
  output := h.output

/-- A REGION THAT DRAWS ITS ORDER. -/
theorem evDraw_sound (hX : HookS P X) (hC : CallS P call) (hY : YieldS P yl) (hmix : P.follows .mixedOrders = true) {r : Option Nat} {n rid : Nat} {x : EX} {ds ds' : List MD} {a : Act} {Q : Exit → Act → World → Prop}
    (h : Rel P μ m w) (ha : ActR μ e ds a) (hf : Free μ m.next m'.next) (hv : evDraw P X call yl ops e ds m = .ok x e' ds' m')
    (hk : ∀ ex a' μ' w', ExR μ' x ex → ActR μ' e' ds' a' → Rel P μ' m' w' → Ext μ m w μ' m' w' → Q ex a' w') : (Code.region rid ops true).wpIn (Fc r) n P Q a w := by
  refine wpIn_region_any hmix ?_
  have h1 : Rel P μ m { w with drawn := w.drawn + 1 } := h.of_heap rfl
  have hl : (Array.replicate ops.size false).size = ops.size := by simp
  have hnone : ∀ i, ¬ inS (Array.replicate ops.size false) i := by
    intro i hi
    unfold inS at hi
    rw [Array.getElem?_replicate] at hi
    split at hi <;> cases hi
  have hcnt : cnt (Array.replicate ops.size false).toList ≤ ops.size := by
    have := cnt_le (Array.replicate ops.size false).toList
    simpa using this
  unfold evDraw at hv
  cases hr : regOk ops with
  | false => rw [hr] at hv; cases hv
  | true =>
    rw [hr] at hv
    simp only [] at hv
    cases hrun : runD P X call yl ops ops.toList 0 e m [] with
    | ok es e1 m1 =>
      rw [hrun] at hv
      simp only [] at hv
      cases hd : drawOk P X call yl (Region.before ops) es m1 none with
      | false => rw [hd] at hv; cases hv
      | true =>
        rw [hd] at hv
        simp only [Env.flushK_eq] at hv
        cases hv
        obtain ⟨xs, q1, q2⟩ := runD_ok _ hrun
        rw [List.append_nil] at q1
        subst q1
        obtain ⟨z1, z2, z3⟩ := Chn.zero _ q2
        rw [Array.length_toList] at z3
        obtain ⟨S, _⟩ := q2.ds (fun j _ => by rw [Array.getElem?_toList]) (by simp) hr hd hf h.low
        obtain ⟨g, D⟩ := DI.init (a := a) (ds := ds) S (by rw [z2]; exact h1) (by rw [z1]; exact ha.env) ha.ds hl hnone
        refine drawn_ok hX hC hY S (by rw [z2]; exact h1) z3 (fun a' w' μ' k1 k2 k3 => ?_) ops.size D hcnt
        rw [atE_end] at k1
        rw [atM_end] at k2 k3
        rw [z2] at k3
        exact hk .normal a' μ' w' trivial ⟨k1.env.flush, k1.ds⟩ k2 k3.drawn
    | pan es y m1 =>
      rw [hrun] at hv
      simp only [] at hv
      cases hd : (drawOk P X call yl (Region.before ops) es y.m (some y) && (ops.toList.zipIdx.all fun (_, i) => Nat.ble i y.i || bef (Region.before ops) y.i i)) with
      | false => rw [hd] at hv; cases hv
      | true =>
        rw [hd] at hv
        simp only [Env.flushK_eq] at hv
        rw [dropK_eq] at hv
        cases hv
        obtain ⟨hd1, hd2⟩ := Bool.and_eq_true_iff.1 hd
        obtain ⟨os1, o, os2, xs, q0, q1, q2, q3, q4, q5, q6⟩ := runD_pan _ hrun
        rw [List.append_nil] at q1
        subst q1
        obtain ⟨z1, z2, z3⟩ := Chn.zero _ q2
        have hos : ∀ j, j < os1.length → ops[j]? = os1[j]? := fun j hj => by rw [← Array.getElem?_toList, q0, List.getElem?_append_left hj]
        have hsz : ops.size = os1.length + (os2.length + 1) := by rw [← Array.length_toList, q0]; simp
        have hop : ops[xs.length]? = some o := by rw [← Array.getElem?_toList, q0, z3, List.getElem?_append_right (Nat.le_refl _)]; simp
        have hfx : Free μ m.next y.m.next := hf.left q6
        obtain ⟨S, hch⟩ := q2.ds hos (by omega) hr hd1 hfx h.low
        obtain ⟨g, D⟩ := DI.init (a := a) (ds := ds) S (by rw [z2]; exact h1) (by rw [z1]; exact ha.env) ha.ds hl hnone
        rw [Nat.zero_add] at q3
        refine drawn_pan hX hC hY S (by rw [z2]; exact h1) (by omega) hop (by rw [atE_end]; exact q4) (by rw [atE_end, atM_end]; exact q5) ?_ ?_ (by rw [z2]; exact hf) (by rw [atM_end]; exact q6)
          (ed := ⟨.nil, dropK ops.toList e.flush.t id, e.flush.n, e.flush.k⟩) (by rw [z1]; rfl) ?_ (fun u a' w' μ' k0 k1 k2 k3 => ?_) ops.size D hcnt
        · intro f hfl hkf hn
          obtain ⟨z, hz⟩ : ∃ z, xs[f]? = some z := ⟨xs[f], List.getElem?_eq_getElem hfl⟩
          rw [atk_some hz] at hkf
          obtain ⟨l1, p1⟩ := filter_last (·.isEff) hz (isEff_k.2 hkf) fun q y' qf hq => by
            have := hn q qf (List.getElem?_eq_some_iff.1 hq).1
            rw [atk_some hq] at this
            cases hb : y'.isEff with
            | false => rfl
            | true => exact absurd (isEff_k.1 hb) this
          rw [p1, List.append_assoc] at hch
          have hb := chain_at l1 hch
          obtain ⟨z', o', c1, _, c3, _⟩ := Chn.at _ q2 f hfl
          rw [hz] at c1
          cases c1
          rw [c3, q3, Nat.zero_add, ← z3] at hb
          exact hb
        · intro j hj hjs
          have hm : (ops[j], j) ∈ ops.toList.zipIdx := by
            rw [List.mem_zipIdx_iff_getElem?, Array.getElem?_toList]
            exact Array.getElem?_eq_getElem hjs
          have := List.all_eq_true.1 hd2 _ hm
          simp only [Bool.or_eq_true] at this
          rcases this with this | this
          · have := Nat.le_of_ble_eq_true this
            omega
          · rw [q3, ← z3] at this
            exact this
        · intro t v ht
          rw [z1]
          have hgd : Env.get ⟨.nil, dropK ops.toList e.flush.t id, e.flush.n, e.flush.k⟩ t = if keeps e.flush.k t = true then T.get (pth t) (dropK ops.toList e.flush.t id) else none := by
            rw [Env.get_def]; rfl
          rw [hgd] at ht
          by_cases hkp : keeps e.flush.k t = true
          · rw [if_pos hkp] at ht
            obtain ⟨d1, d2⟩ := dropK_get _ _ _ _ ht
            refine ⟨Env.flush_get ?_, fun i o' hi' => d2 o' ?_⟩
            · have : e.flush.get t = if keeps e.flush.k t = true then T.get (pth t) e.flush.t else none := by rw [Env.get_def]; rfl
              rw [this, if_pos hkp]
              exact d1
            · obtain ⟨hlt, rfl⟩ := Array.getElem?_eq_some_iff.1 hi'
              exact Array.getElem_mem_toList hlt
          · rw [if_neg hkp] at ht; cases ht
        · rw [z2] at k3
          exact hk _ a' μ' w' ⟨u, k0, rfl⟩ k1 k2 k3.drawn
    | fail => rw [hrun] at hv; cases hv
end
end
end Go.Mir

/-! THE MIRROR, LAWS 28: code: loops and scopes. -/
namespace Go.Mir
noncomputable section
section
variable {F : Fence} {n : Nat} {P : Program} {Q : Exit → Act → World → Prop} {a : Act} {w : World}

/-- A loop's round, and what follows it. -/
def InLoop (F : Fence) (n : Nat) (P : Program) (c : Code) (Q : Exit → Act → World → Prop) (a : Act) (w : World) : Prop :=
  ∀ (b : Frame) (k : List Item) (cs : List Frame), b.roundOf = F.round → F.fn b.fn → F.room (cs.length + 1 + n) →
    ∃ e a' w', Q e a' w' ∧ ArrivesIn (Machine.fenced P F) P (lone (b.atR a (.code c :: .inLoop c :: k)) cs w) b k cs e a' w'
theorem InLoop.wpIn {c : Code} (h : InLoop F n P c Q a w) : (Code.loop c).wpIn F n P Q a w := by
  intro b k cs hro hb hr
  obtain ⟨e, a', w', hq, harr⟩ := h b k cs hro hb hr
  exact ⟨e, a', w', hq, .of_steps (.one (fenced_calm hb hr rfl) stepR_loop) harr⟩
theorem inLoop_step {c : Code} (h : c.wpIn F n P (Exit.then (InLoop F n P c Q) Q) a w) : InLoop F n P c Q a w := by
  intro b k cs hro hb hr
  obtain ⟨e, a₁, w₁, hq, harr⟩ := h b (.inLoop c :: k) cs hro hb hr
  cases e with
  | normal =>
    obtain ⟨e₂, a₂, w₂, hq₂, harr₂⟩ := hq b k cs hro hb hr
    exact ⟨e₂, a₂, w₂, hq₂, .of_steps (StepsIn.trans harr (.one (fenced_calm hb hr rfl) stepR_inLoop)) harr₂⟩
  | exit id => exact ⟨_, a₁, w₁, hq, .pass (x := .inLoop c) rfl (fun _ _ => .inl (by simp)) harr⟩
  | goto l => exact ⟨_, a₁, w₁, hq, .pass (x := .inLoop c) rfl (fun _ _ => .inl (by simp)) harr⟩
  | ret => exact ⟨_, a₁, w₁, hq, .pass (x := .inLoop c) rfl (fun _ _ => .inl (by simp)) harr⟩
  | panic ch => exact ⟨_, a₁, w₁, hq, .pass (x := .inLoop c) rfl (fun _ _ => .inl (by simp)) harr⟩
  | outgrown => exact ⟨_, a₁, w₁, hq, .pass (x := .inLoop c) rfl (fun _ _ => .inl (by simp)) harr⟩

/-- Code inside a scope. -/
def InScope (F : Fence) (n : Nat) (P : Program) (body c : Code) (Q : Exit → Act → World → Prop) (a : Act) (w : World) : Prop :=
  ∀ (b : Frame) (k : List Item) (cs : List Frame), b.roundOf = F.round → F.fn b.fn → F.room (cs.length + 1 + n) →
    ∃ e a' w', Q e a' w' ∧ ArrivesIn (Machine.fenced P F) P (lone (b.atR a (.code c :: .inScope body :: k)) cs w) b k cs e a' w'
theorem stepR_scope {b : Frame} {k : List Item} {cs : List Frame} {c : Code} : step P (lone (b.atR a (.code (.scope c) :: k)) cs w) = .next (lone (b.atR a (.code c :: .inScope c :: k)) cs w) :=
  step_lone_go (by simp [stepG, stepG.exec, Frame.atR])
theorem stepR_inScope {b : Frame} {k : List Item} {cs : List Frame} {c : Code} : step P (lone (b.atR a (.inScope c :: k)) cs w) = .next (lone (b.atR a k) cs w) :=
  step_lone_go (by simp [stepG, stepG.exec, Frame.atR])
theorem InScope.wpIn {c : Code} (h : InScope F n P c c Q a w) : (Code.scope c).wpIn F n P Q a w := by
  intro b k cs hro hb hr
  obtain ⟨e, a', w', hq, harr⟩ := h b k cs hro hb hr
  exact ⟨e, a', w', hq, .of_steps (.one (fenced_calm hb hr rfl) stepR_scope) harr⟩
/-- A jump to one of the scope's labels goes on there. -/
def ScopeP (F : Fence) (n : Nat) (P : Program) (body : Code) (Q : Exit → Act → World → Prop) : Exit → Act → World → Prop
  | .goto l, a, w => match findLabel body l with
    | some rest => InScope F n P body rest Q a w
    | none => Q (.goto l) a w
  | e, a, w => Q e a w
theorem inScope_step {body c : Code} (h : c.wpIn F n P (ScopeP F n P body Q) a w) : InScope F n P body c Q a w := by
  intro b k cs hro hb hr
  obtain ⟨e, a₁, w₁, hq, harr⟩ := h b (.inScope body :: k) cs hro hb hr
  cases e with
  | normal => exact ⟨.normal, a₁, w₁, hq, StepsIn.trans harr (.one (fenced_calm hb hr rfl) stepR_inScope)⟩
  | exit id =>
    have hx : exitTo id (.inScope body :: k) = exitTo id k := by simp [exitTo]
    exact ⟨.exit id, a₁, w₁, hq, fun k' hk => harr.1 k' (by rw [hx]; exact hk), fun hr' hk => harr.2 hr' (by rw [hx]; exact hk)⟩
  | goto l =>
    simp only [ScopeP] at hq
    cases hl : findLabel body l with
    | some rest =>
      rw [hl] at hq
      obtain ⟨e₂, a₂, w₂, hq₂, harr₂⟩ := hq b k cs hro hb hr
      exact ⟨e₂, a₂, w₂, hq₂, .of_steps (harr.1 (.code rest :: .inScope body :: k) (by simp [gotoIn, hl])) harr₂⟩
    | none =>
      rw [hl] at hq
      have hx : gotoIn l (.inScope body :: k) = gotoIn l k := by simp [gotoIn, hl]
      exact ⟨.goto l, a₁, w₁, hq, fun k' hk => harr.1 k' (by rw [hx]; exact hk), fun hr' hk => harr.2 hr' (by rw [hx]; exact hk)⟩
  | ret => exact ⟨_, a₁, w₁, hq, harr⟩
  | panic ch => exact ⟨_, a₁, w₁, hq, harr⟩
  | outgrown => exact ⟨_, a₁, w₁, hq, harr⟩
end
end
end Go.Mir
