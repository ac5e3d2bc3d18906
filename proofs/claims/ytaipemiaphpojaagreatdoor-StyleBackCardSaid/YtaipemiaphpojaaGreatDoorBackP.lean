/- What is written is read as it was; what was read is written. No program. -/
import Derived.Test.YtaipemiaphpojaaGreatDoorNum
namespace Go.Proofs.YtaipemiaphpojaaGreatDoor
open Go Go.Proofs Go.RowKit
def bodyOf (r : Rl) : List UInt8 := headOf r ++ (34 :: qs r.text.data.toList ++ [34]) ++ flagsOf r
theorem lineOf_body (r : Rl) : lineOf r = bodyOf r ++ [10] := rfl
theorem linesP_app : ∀ (u v : List UInt8), (∀ c ∈ u, c ≠ 10) → linesP (u ++ 10 :: v) = u :: linesP v
  | [], v, _ => rfl
  | c :: u, v, h => by
    have ih := linesP_app u v (fun x hx => h x (List.mem_cons_of_mem _ hx))
    rw [List.cons_append, linesP.eq_2, if_neg (h c (by simp)), ih]
theorem hex_dg : ∀ n : Fin 16, hexP (dg.getD n.1 0) = (n.1 : Int) := by decide
theorem unq_qb (c : UInt8) (m : List UInt8) : unq (qb c ++ m) = (unq m).map fun p => (c :: p.1, p.2) := by
  by_cases h1 : c = 34 ∨ c = 92
  · rw [show qb c = [92, c] by unfold qb; rw [if_pos h1]]
    show unq (92 :: c :: m) = _
    rw [unq.eq_def (92 :: c :: m)]
    show (if c = 34 ∨ c = 92 then _ else _) = _
    rw [if_pos h1]
  have h34 : c ≠ 34 := fun e => h1 (.inl e)
  have h92 : c ≠ 92 := fun e => h1 (.inr e)
  by_cases h2 : c = 10
  · subst h2
    show unq (92 :: 110 :: m) = _
    rw [unq.eq_def (92 :: 110 :: m)]; rfl
  by_cases h3 : c = 9
  · subst h3
    show unq (92 :: 116 :: m) = _
    rw [unq.eq_def (92 :: 116 :: m)]; rfl
  by_cases h4 : c < 32 ∨ 126 < c
  · rw [show qb c = [92, 120, dg.getD (c.toNat / 16) 0, dg.getD (c.toNat % 16) 0] by unfold qb; rw [if_neg h1, if_neg h2, if_neg h3, if_pos h4]]
    have hc := c.toNat_lt
    have e1 := hex_dg ⟨c.toNat / 16, by omega⟩
    have e2 := hex_dg ⟨c.toNat % 16, by omega⟩
    dsimp only at e1 e2
    generalize dg.getD (c.toNat / 16) 0 = d1 at e1 ⊢
    generalize dg.getD (c.toNat % 16) 0 = d2 at e2 ⊢
    show unq (92 :: 120 :: d1 :: d2 :: m) = _
    rw [unq.eq_def (92 :: 120 :: d1 :: d2 :: m)]
    show (if hexP d1 < 0 ∨ hexP d2 < 0 then none else _) = _
    rw [if_neg (by rw [e1, e2]; omega), e1, e2, show (16 * ((c.toNat / 16 : Nat) : Int) + ((c.toNat % 16 : Nat) : Int)).toNat = c.toNat by omega, UInt8.ofNat_toNat]
  · rw [show qb c = [c] by unfold qb; rw [if_neg h1, if_neg h2, if_neg h3, if_neg h4]]
    show unq (c :: m) = _
    rw [unq.eq_def (c :: m)]
    simp only [if_neg h34, if_neg h92]
theorem unq_qs (v : List UInt8) (hv : v.head?.all blk = true) : ∀ t : List UInt8, unq (qs t ++ 34 :: v) = some (t, v)
  | [] => by
    show unq (34 :: v) = _
    rw [unq.eq_def (34 :: v)]
    show (if v.head?.all blk = true then some ([], v) else none) = _
    rw [if_pos hv]
  | c :: t => by
    have ih := unq_qs v hv t
    rw [show qs (c :: t) = qb c ++ qs t from List.flatMap_cons, List.append_assoc, unq_qb, ih]; rfl
theorem qb_no10 (c : UInt8) : ∀ x ∈ qb c, x ≠ 10 := by
  have hd : ∀ n : Nat, dg.getD n 0 ≠ 10 := fun n => by
    rcases Nat.lt_or_ge n 16 with h | h
    · have key : ∀ m : Fin 16, dg.getD m.1 0 ≠ 10 := by decide
      exact key ⟨n, h⟩
    · rw [List.getD_eq_getElem?_getD, List.getElem?_eq_none (by simpa [dg] using h)]; decide
  unfold qb
  intro x hx
  split at hx
  · rename_i h
    simp only [List.mem_cons, List.not_mem_nil, or_false] at hx
    rcases hx with rfl | rfl
    · decide
    · rcases h with rfl | rfl <;> decide
  split at hx
  · simp only [List.mem_cons, List.not_mem_nil, or_false] at hx
    rcases hx with rfl | rfl <;> decide
  split at hx
  · simp only [List.mem_cons, List.not_mem_nil, or_false] at hx
    rcases hx with rfl | rfl <;> decide
  split at hx
  · simp only [List.mem_cons, List.not_mem_nil, or_false] at hx
    rcases hx with rfl | rfl | rfl | rfl
    · decide
    · decide
    · exact hd _
    · exact hd _
  · rename_i h _ _
    rw [List.mem_singleton.1 hx]
    assumption
theorem qs_no10 (l : List UInt8) : ∀ x ∈ qs l, x ≠ 10 := by
  intro x hx
  obtain ⟨c, _, hc⟩ := List.mem_flatMap.1 hx
  exact qb_no10 c x hc
theorem itoa_ok (n : Int) : ∀ x ∈ Lib.itoa n, x ≠ 10 ∧ nb x = true ∧ x ≠ 34 := by
  have hd : ∀ u, ∀ x ∈ Lib.decDigits u, x ≠ 10 ∧ nb x = true ∧ x ≠ 34 := fun u x hx => by
    have h := dec_all u u (Nat.le_refl _) x hx
    simp only [isD, decide_eq_true_eq] at h
    refine ⟨fun e => ?_, ?_, fun e => ?_⟩
    · subst e; exact absurd h.1 (by decide)
    · have : blk x = false := by
        cases hb : blk x with
        | false => rfl
        | true =>
          simp only [blk, Bool.or_eq_true, beq_iff_eq] at hb
          rcases hb with rfl | rfl
          · exact absurd h.1 (by decide)
          · exact absurd h.1 (by decide)
      simp [nb, this]
    · subst e; exact absurd h.1 (by decide)
  intro x hx
  unfold Lib.itoa at hx
  split at hx
  · rcases List.mem_cons.1 hx with rfl | hx
    · exact ⟨by decide, by decide, by decide⟩
    · exact hd _ x hx
  · exact hd _ x hx
theorem itoa_ne (n : Int) : Lib.itoa n ≠ [] := by
  unfold Lib.itoa
  split
  · simp
  · exact dec_ne _
theorem flags_no10 (r : Rl) : ∀ x ∈ flagsOf r, x ≠ 10 := by
  have key : ∀ a b c : Bool, ∀ x ∈ (if a = true then [32, 112, 108, 97, 105, 110] else []) ++ (if b = true then [32, 102, 111, 108, 100] else []) ++ (if c = true then ([32, 119, 111, 114, 100] : List UInt8) else []), x ≠ 10 := by decide
  exact key r.plain r.fold r.word
theorem body_no10 (r : Rl) : ∀ x ∈ bodyOf r, x ≠ 10 := by
  intro x hx
  unfold bodyOf headOf at hx
  simp only [List.mem_append, List.mem_cons, List.not_mem_nil, or_false] at hx
  rcases hx with ((((( h | h) | h) | h) | h) | (h | h) | h) | h
  · rcases h with rfl | rfl | rfl | rfl | rfl <;> decide
  · exact (itoa_ok _ x h).1
  · subst h; decide
  · exact (itoa_ok _ x h).1
  · subst h; decide
  · subst h; decide
  · exact qs_no10 _ x h
  · subst h; decide
  · exact flags_no10 r x h
theorem lines_print : ∀ l : List Rl, linesP (l.flatMap lineOf) = l.map bodyOf ++ [[]]
  | [] => rfl
  | r :: l => by
    rw [List.flatMap_cons, lineOf_body, List.append_assoc]
    show linesP (bodyOf r ++ 10 :: l.flatMap lineOf) = _
    rw [linesP_app _ _ (body_no10 r), lines_print l]; rfl
theorem drop_nb {u v : List UInt8} (hu : ∀ c ∈ u, nb c = true) (hv : v.head?.all blk = true) : (u ++ v).takeWhile nb = u ∧ (u ++ v).dropWhile nb = v := by
  have h0 : v.takeWhile nb = [] ∧ v.dropWhile nb = v := by
    cases v with
    | nil => exact ⟨rfl, rfl⟩
    | cons c v =>
      have : nb c = false := by simpa [nb] using hv
      constructor
      · rw [List.takeWhile_cons, this]; rfl
      · rw [List.dropWhile_cons, this]; rfl
  rw [List.takeWhile_append_of_pos hu, List.dropWhile_append_of_pos hu, h0.1, h0.2, List.append_nil]
  exact ⟨rfl, rfl⟩
theorem words_space (e : Int) (l : List UInt8) : words e (32 :: l) = words e l := by
  rw [words.eq_def, words.eq_def e l]
  have : (32 :: l).dropWhile blk = l.dropWhile blk := by rw [List.dropWhile_cons]; rfl
  rw [this]
theorem words_app (e : Int) {c : UInt8} {u v : List UInt8} (hu : ∀ x ∈ c :: u, nb x = true) (hc : c ≠ 34) (hv : v.head?.all blk = true) : words e (c :: u ++ v) = ⟨0, c :: u, [], e - ((u ++ v).length + 1 : Nat)⟩ :: words e v := by
  have hd : (c :: u ++ v).dropWhile blk = c :: (u ++ v) := by
    have : blk c = false := by simpa [nb] using hu c (by simp)
    rw [List.cons_append, List.dropWhile_cons, this]; rfl
  obtain ⟨h1, h2⟩ := drop_nb (fun x hx => hu x (List.mem_cons_of_mem _ hx)) hv
  rw [words_bare hd hc, h1, h2]
theorem words_itoa (e : Int) (n : Int) {v : List UInt8} (hv : v.head?.all blk = true) : words e (Lib.itoa n ++ v) = ⟨0, Lib.itoa n, [], e - ((Lib.itoa n ++ v).length : Nat)⟩ :: words e v := by
  have h := itoa_ok n
  have hne := itoa_ne n
  generalize Lib.itoa n = t at h hne ⊢
  cases t with
  | nil => exact absurd rfl hne
  | cons c u => rw [words_app e (fun x hx => (h x hx).2.1) (h c (by simp)).2.2 hv]; rfl
theorem flags_back (e : Int) (r : Rl) : flagsP (words e (flagsOf r)) = (r.plain, r.fold, r.word, []) := by
  have hp : ∀ v : List UInt8, v.head?.all blk = true → ∃ p, words e (32 :: 112 :: 108 :: 97 :: 105 :: 110 :: v) = ⟨0, [112, 108, 97, 105, 110], [], p⟩ :: words e v := fun v hv => ⟨_, by
    rw [words_space]; exact words_app e (c := 112) (u := [108, 97, 105, 110]) (by decide) (by decide) hv⟩
  have hf : ∀ v : List UInt8, v.head?.all blk = true → ∃ p, words e (32 :: 102 :: 111 :: 108 :: 100 :: v) = ⟨0, [102, 111, 108, 100], [], p⟩ :: words e v := fun v hv => ⟨_, by
    rw [words_space]; exact words_app e (c := 102) (u := [111, 108, 100]) (by decide) (by decide) hv⟩
  have hw : ∃ p, words e [32, 119, 111, 114, 100] = [⟨0, [119, 111, 114, 100], [], p⟩] := ⟨_, by
    rw [words_space]
    refine (words_app e (c := 119) (u := [111, 114, 100]) (v := []) (by decide) (by decide) rfl).trans ?_
    rw [words_nil rfl]⟩
  have h0 : words e [] = [] := words_nil rfl
  unfold flagsOf
  cases r.plain <;> cases r.fold <;> cases r.word
  · simp [h0, flagsP, saidP]
  · obtain ⟨p, hp⟩ := hw
    simp [hp, flagsP, saidP]
  · obtain ⟨p, hp⟩ := hf [] rfl
    simp [hp, h0, flagsP, saidP]
  · obtain ⟨p, hp⟩ := hf [32, 119, 111, 114, 100] rfl
    obtain ⟨q, hq⟩ := hw
    simp [hp, hq, flagsP, saidP]
  · obtain ⟨p, hp⟩ := hp [] rfl
    simp [hp, h0, flagsP, saidP]
  · obtain ⟨p, hp⟩ := hp [32, 119, 111, 114, 100] rfl
    obtain ⟨q, hq⟩ := hw
    simp [hp, hq, flagsP, saidP]
  · obtain ⟨p, hp⟩ := hp [32, 102, 111, 108, 100] rfl
    obtain ⟨q, hq⟩ := hf [] rfl
    simp [hp, hq, h0, flagsP, saidP]
  · obtain ⟨p, hp⟩ := hp [32, 102, 111, 108, 100, 32, 119, 111, 114, 100] rfl
    obtain ⟨q, hq⟩ := hf [32, 119, 111, 114, 100] rfl
    obtain ⟨s, hs⟩ := hw
    simp [hp, hq, hs, flagsP, saidP]
theorem flags_head (r : Rl) : (flagsOf r).head?.all blk = true := by
  unfold flagsOf
  cases r.plain <;> cases r.fold <;> cases r.word <;> rfl
/-- What is in bounds. -/
def Rl.fit (r : Rl) : Prop := 0 ≤ r.style ∧ r.style ≤ 65535 ∧ rankOut r = false
theorem takeP_ok {e : Int} {w : Wd} {r : List Wd} (h : w.sort ≠ 2) : takeP e (w :: r) = .ok (w, r) := if_neg h
theorem numberP_ok {e lo hi n : Int} {w : Wd} {r : List Wd} (h : w.sort ≠ 2) (hn : numP lo hi w.text = some n) : numberP e lo hi (w :: r) = .ok (n, r) := by
  unfold numberP; rw [takeP_ok h]; dsimp only; rw [hn]
theorem tailP_ok {e rank style : Int} {t : Wd} {r : List Wd} {a b c : Bool} (h : t.sort = 1) (hf : flagsP r = (a, b, c, [])) : tailP e rank style (t :: r) = .ok ⟨⟨t.value.toArray⟩, a, b, c, style, rank⟩ := by
  unfold tailP; rw [takeP_ok (by rw [h]; decide)]; dsimp only; rw [if_pos h, hf]
theorem ruleP_ok {e rank style : Int} {w : Wd} {r r1 r2 : List Wd} {x : Rl} (h : w.text = [114, 117, 108, 101]) (h1 : numberP e (-2147483648) 2147483647 r = .ok (rank, r1)) (h2 : numberP e 0 65535 r1 = .ok (style, r2)) (h3 : tailP e rank style r2 = .ok x) : ruleP e (w :: r) = .ok x := by
  show (if w.text = [114, 117, 108, 101] then _ else _) = _
  rw [if_pos h, h1]; dsimp only; rw [h2]; exact h3
theorem rule_back (e : Int) (r : Rl) (h : r.fit) : ∃ w ws, words e (bodyOf r) = w :: ws ∧ w.text = [114, 117, 108, 101] ∧ ruleP e (w :: ws) = .ok r := by
  obtain ⟨h1, h2, h3⟩ := h
  have hr : -2147483648 ≤ r.rank ∧ r.rank ≤ 2147483647 := by simp [rankOut] at h3; omega
  have e0 : bodyOf r = 114 :: [117, 108, 101] ++ (32 :: (Lib.itoa r.rank ++ (32 :: (Lib.itoa r.style ++ (32 :: (34 :: (qs r.text.data.toList ++ 34 :: flagsOf r))))))) := by
    unfold bodyOf headOf; simp
  rw [e0, words_app e (by decide) (by decide) rfl, words_space, words_itoa e _ rfl, words_space, words_itoa e _ rfl, words_space,
    words_quoted (r := qs r.text.data.toList ++ 34 :: flagsOf r) (by rw [List.dropWhile_cons]; rfl) (unq_qs _ (flags_head r) _)]
  exact ⟨_, _, rfl, rfl, ruleP_ok rfl (numberP_ok (by show (0 : Nat) ≠ 2; decide) (numP_itoa (by decide) (by decide) hr.1 hr.2)) (numberP_ok (by show (0 : Nat) ≠ 2; decide) (numP_itoa (by decide) (by decide) h1 h2)) (tailP_ok rfl (flags_back e r))⟩
theorem goL_back : ∀ (l : List Rl) (a : Int) (acc : List Rl), (∀ x ∈ l, x.fit) → acc.length + l.length ≤ 64 → goL a (l.map bodyOf ++ [[]]) acc = .ok (acc ++ l)
  | [], a, acc, _, _ => by
    rw [List.map_nil, List.nil_append, goL.eq_2, words_nil rfl]
    dsimp only
    rw [goL.eq_1, List.append_nil]
  | r :: l, a, acc, hf, hl => by
    obtain ⟨w, ws, e1, e2, e3⟩ := rule_back (a + (bodyOf r).length) r (hf r (by simp))
    rw [List.map_cons, List.cons_append, goL.eq_2, e1]
    dsimp only
    simp only [List.length_cons] at hl
    rw [e2, if_neg (by decide), if_neg (by omega), e3]
    dsimp only
    rw [goL_back l _ _ (fun x hx => hf x (List.mem_cons_of_mem _ hx)) (by simp; omega), List.append_assoc]; rfl
theorem goP_ok : ∀ (l : List Rl) (acc b : List UInt8), goP l acc = (b, 0) → b = acc ++ l.flatMap lineOf ∧ b.length ≤ 1048576
  | [], acc, b, h => by
    unfold goP at h
    split at h
    · injection h with _ h; exact absurd h (by decide)
    · injection h with h _; subst h; simp; omega
  | r :: l, acc, b, h => by
    unfold goP at h
    split at h
    · injection h with _ h; exact absurd h (by decide)
    · obtain ⟨h1, h2⟩ := goP_ok l _ b h
      exact ⟨by rw [h1, List.flatMap_cons, List.append_assoc], h2⟩
/-- What is written is read as it was. -/
theorem parse_print (l : List Rl) (b : List UInt8) (hs : ∀ x ∈ l, 0 ≤ x.style ∧ x.style ≤ 65535) (h : printP l = (b, 0)) : parseP b = .ok l := by
  unfold printP at h
  split at h
  · injection h with _ h; exact absurd h (by decide)
  rename_i h64
  split at h
  · injection h with _ h; exact absurd h (by decide)
  rename_i hr
  have hr' : ∀ x ∈ l, rankOut x = false := fun x hx => by
    cases hq : rankOut x with
    | false => rfl
    | true => exact absurd (List.any_eq_true.2 ⟨x, hx, hq⟩) hr
  obtain ⟨h1, h2⟩ := goP_ok l [] b h
  rw [List.nil_append] at h1
  unfold parseP
  rw [if_neg (by omega), h1, lines_print, goL_back l 0 [] (fun x hx => ⟨(hs x hx).1, (hs x hx).2, hr' x hx⟩) (by simp; omega), List.nil_append]
def sumT (ws : List Wd) : Nat := (ws.map fun w => w.text.length).sum
theorem sumT_cons (w : Wd) (ws : List Wd) : sumT (w :: ws) = w.text.length + sumT ws := by simp [sumT]
theorem wds_len (e : Int) (l : List UInt8) : sumT (words e l) ≤ l.length ∧ ∀ w ∈ words e l, w.sort = 1 → w.value.length + 2 ≤ w.text.length := by
  fun_induction words e l
  case case1 => exact ⟨by simp [sumT], fun w h => by cases h⟩
  case case2 l' r hu hd =>
    have h1 := dropWhile_len blk l'
    rw [hd] at h1
    refine ⟨by simp only [sumT_cons, List.length_cons, List.length_nil] at h1 ⊢; simp [sumT]; omega, fun w h hs => ?_⟩
    rw [List.mem_singleton.1 h] at hs
    exact absurd hs (by show ¬ (2 : Nat) = 1; decide)
  case case3 l' r v hu hd ih =>
    have h1 := dropWhile_len blk l'
    rw [hd] at h1
    obtain ⟨⟨u, hu', hl⟩, -⟩ := unq_rest r v hu
    have hlen : r.length = u.length + v.2.length := by rw [hu']; simp
    have ht : ((34 :: r).take (r.length + 1 - v.2.length)).length = u.length + 1 := by rw [List.length_take, List.length_cons]; omega
    refine ⟨?_, fun w h hs => ?_⟩
    · rw [sumT_cons]; dsimp only; rw [ht]
      simp only [List.length_cons] at h1
      have := ih.1
      omega
    · rcases List.mem_cons.1 h with rfl | h
      · dsimp only; rw [ht]; omega
      · exact ih.2 w h hs
  case case4 l' c r hd hc ih =>
    have h1 := dropWhile_len blk l'
    rw [hd] at h1
    have h2 : (r.takeWhile nb).length + (r.dropWhile nb).length = r.length := by
      rw [← List.length_append, List.takeWhile_append_dropWhile]
    refine ⟨?_, fun w h hs => ?_⟩
    · rw [sumT_cons]; dsimp only
      simp only [List.length_cons] at h1 ⊢
      have := ih.1
      omega
    · rcases List.mem_cons.1 h with rfl | h
      · exact absurd hs (by show ¬ (0 : Nat) = 1; decide)
      · exact ih.2 w h hs
theorem said_len (t : List UInt8) (ws : List Wd) : sumT ws = (if (saidP t ws).1 = true then t.length else 0) + sumT (saidP t ws).2 := by
  cases ws with
  | nil => rfl
  | cons w r =>
    show sumT (w :: r) = (if (if w.text = t then (true, r) else (false, w :: r)).1 = true then t.length else 0) + sumT (if w.text = t then (true, r) else (false, w :: r)).2
    by_cases h : w.text = t
    · rw [if_pos h, sumT_cons, h]; rfl
    · rw [if_neg h]; simp
theorem flags_len (ws : List Wd) : sumT ws = (if (flagsP ws).1 = true then 5 else 0) + (if (flagsP ws).2.1 = true then 4 else 0) + (if (flagsP ws).2.2.1 = true then 4 else 0) + sumT (flagsP ws).2.2.2 := by
  unfold flagsP
  dsimp only
  have h1 := said_len [112, 108, 97, 105, 110] ws
  have h2 := said_len [102, 111, 108, 100] (saidP [112, 108, 97, 105, 110] ws).2
  have h3 := said_len [119, 111, 114, 100] (saidP [102, 111, 108, 100] (saidP [112, 108, 97, 105, 110] ws).2).2
  simp only [List.length_cons, List.length_nil, Nat.zero_add, Nat.reduceAdd] at h1 h2 h3
  omega
theorem takeP_inv {e : Int} {ws : List Wd} {w : Wd} {r : List Wd} (h : takeP e ws = .ok (w, r)) : ws = w :: r := by
  unfold takeP at h
  split at h
  · cases h
  · split at h
    · cases h
    · cases h; rfl
theorem numberP_inv {e lo hi n : Int} {ws r : List Wd} (h : numberP e lo hi ws = .ok (n, r)) : ∃ w, ws = w :: r ∧ lo ≤ n ∧ n ≤ hi ∧ Lib.itoa n = w.text := by
  unfold numberP at h
  split at h
  · cases h
  · rename_i w r' ht
    split at h
    · cases h
    · rename_i m hm
      cases h
      exact ⟨w, takeP_inv ht, numP_some hm⟩
theorem tailP_inv {e rank style : Int} {ws : List Wd} {x : Rl} (h : tailP e rank style ws = .ok x) : ∃ t r, ws = t :: r ∧ t.sort = 1 ∧ sumT (flagsP r).2.2.2 = 0 ∧ x = ⟨⟨t.value.toArray⟩, (flagsP r).1, (flagsP r).2.1, (flagsP r).2.2.1, style, rank⟩ := by
  unfold tailP at h
  split at h
  · cases h
  · rename_i t r ht
    split at h
    · rename_i hs
      split at h
      · rename_i hf
        cases h
        exact ⟨t, r, takeP_inv ht, hs, by rw [hf]; rfl, rfl⟩
      · cases h
    · cases h
theorem lineOf_len (x : Rl) : (lineOf x).length = 10 + (Lib.itoa x.rank).length + (Lib.itoa x.style).length + (qs x.text.data.toList).length + (flagsOf x).length := by
  unfold lineOf headOf
  simp only [List.length_append, List.length_cons, List.length_nil]
  omega
theorem flagsOf_len (x : Rl) : (flagsOf x).length = (if x.plain = true then 6 else 0) + (if x.fold = true then 5 else 0) + (if x.word = true then 5 else 0) := by
  unfold flagsOf
  simp only [List.length_append]
  congr 1
  · congr 1
    · split <;> rfl
    · split <;> rfl
  · split <;> rfl
theorem rule_len {e : Int} {l : List UInt8} {x : Rl} (h : ruleP e (words e l) = .ok x) : x.fit ∧ (lineOf x).length ≤ 4 * l.length ∧ x.text.size ≤ l.length := by
  obtain ⟨hl, hv⟩ := wds_len e l
  generalize words e l = ws at h hl hv
  unfold ruleP at h
  split at h
  · cases h
  · rename_i w r
    split at h
    · rename_i hw
      split at h
      · cases h
      · rename_i rank r1 h1
        split at h
        · cases h
        · rename_i style r2 h2
          obtain ⟨w1, rfl, a1, b1, c1⟩ := numberP_inv h1
          obtain ⟨w2, rfl, a2, b2, c2⟩ := numberP_inv h2
          obtain ⟨t, r3, rfl, hs, hf, rfl⟩ := tailP_inv h
          have hq := hv t (by simp) hs
          have hfl := flags_len r3
          simp only [sumT_cons, hw, ← c1, ← c2, List.length_cons, List.length_nil] at hl
          refine ⟨⟨a2, b2, by simp [rankOut]; omega⟩, ?_, ?_⟩
          · rw [lineOf_len, flagsOf_len]
            have := qs_le t.value
            dsimp only
            generalize (flagsP r3).1 = a at hfl ⊢
            generalize (flagsP r3).2.1 = b at hfl ⊢
            generalize (flagsP r3).2.2.1 = c at hfl ⊢
            cases a <;> cases b <;> cases c <;> simp only [if_true, if_false, Bool.false_eq_true] at hfl ⊢ <;> omega
          · show t.value.toArray.size ≤ _
            rw [List.size_toArray]
            omega
    · cases h
def sumL (ls : List (List UInt8)) : Nat := (ls.map List.length).sum
theorem sumL_cons (l : List UInt8) (ls : List (List UInt8)) : sumL (l :: ls) = l.length + sumL ls := by simp [sumL]
theorem lines_len : ∀ t : List UInt8, sumL (linesP t) ≤ t.length
  | [] => by simp [linesP, sumL]
  | c :: r => by
    have ih := lines_len r
    rw [linesP.eq_2]
    split
    · rw [sumL_cons]; simp only [List.length_nil, List.length_cons]; omega
    · split
      · simp [sumL]
      · rename_i h t ht
        rw [ht, sumL_cons] at ih
        rw [sumL_cons]; simp only [List.length_cons]; omega
theorem goL_inv : ∀ (ls : List (List UInt8)) (a : Int) (acc k : List Rl), goL a ls acc = .ok k → acc.length ≤ 64 → ∃ xs, k = acc ++ xs ∧ k.length ≤ 64 ∧ (∀ x ∈ xs, x.fit ∧ x.text.size ≤ sumL ls) ∧ (xs.flatMap lineOf).length ≤ 4 * sumL ls
  | [], a, acc, k, h, h64 => by
    rw [goL.eq_1] at h; cases h
    exact ⟨[], by simp, h64, fun x hx => (by cases hx), by simp⟩
  | ln :: rest, a, acc, k, h, h64 => by
    rw [goL.eq_2] at h
    have skip : goL (a + ln.length + 1) rest acc = .ok k → ∃ xs, k = acc ++ xs ∧ k.length ≤ 64 ∧ (∀ x ∈ xs, x.fit ∧ x.text.size ≤ sumL (ln :: rest)) ∧ (xs.flatMap lineOf).length ≤ 4 * sumL (ln :: rest) := fun h => by
      obtain ⟨xs, h1, h2, h3, h4⟩ := goL_inv rest _ acc k h h64
      rw [sumL_cons]
      exact ⟨xs, h1, h2, fun x hx => ⟨(h3 x hx).1, by have := (h3 x hx).2; omega⟩, by omega⟩
    split at h
    · exact skip h
    · rename_i w ws hw
      split at h
      · exact skip h
      · split at h
        · cases h
        · rename_i h64'
          split at h
          · cases h
          · rename_i x hx
            rw [← hw] at hx
            obtain ⟨g1, g2, g3⟩ := rule_len hx
            obtain ⟨xs, h1, h2, h3, h4⟩ := goL_inv rest _ _ k h (by simp; omega)
            rw [sumL_cons]
            refine ⟨x :: xs, by rw [h1, List.append_assoc]; rfl, h2, ?_, ?_⟩
            · intro y hy
              rcases List.mem_cons.1 hy with rfl | hy
              · exact ⟨g1, by omega⟩
              · exact ⟨(h3 y hy).1, by have := (h3 y hy).2; omega⟩
            · rw [List.flatMap_cons, List.length_append]; omega
/-- What is read: few, in bounds; written it is at most four times as long. -/
theorem parse_inv {t : List UInt8} {k : List Rl} (h : parseP t = .ok k) : t.length ≤ 1048576 ∧ k.length ≤ 64 ∧ (∀ x ∈ k, x.fit ∧ x.text.size ≤ t.length) ∧ (k.flatMap lineOf).length ≤ 4 * t.length := by
  unfold parseP at h
  split at h
  · cases h
  · obtain ⟨xs, h1, h2, h3, h4⟩ := goL_inv _ _ _ k h (by simp)
    rw [List.nil_append] at h1
    subst h1
    have := lines_len t
    exact ⟨by omega, h2, fun x hx => ⟨(h3 x hx).1, by have := (h3 x hx).2; omega⟩, by omega⟩
theorem qs_ge (l : List UInt8) : l.length ≤ (qs l).length := by
  induction l with
  | nil => simp
  | cons c l ih =>
    have : 1 ≤ (qb c).length := by unfold qb; (repeat' split) <;> simp
    rw [show qs (c :: l) = qb c ++ qs l from List.flatMap_cons, List.length_append, List.length_cons]; omega
theorem goP_fits : ∀ (l : List Rl) (acc : List UInt8), (acc ++ l.flatMap lineOf).length ≤ 1048576 → goP l acc = (acc ++ l.flatMap lineOf, 0)
  | [], acc, h => by
    rw [List.flatMap_nil, List.append_nil] at h ⊢
    unfold goP; rw [if_neg (by omega)]
  | r :: l, acc, h => by
    rw [List.flatMap_cons, ← List.append_assoc] at h ⊢
    have hq := qs_ge r.text.data.toList
    have hl := lineOf_len r
    have hs : r.text.size = r.text.data.toList.length := by rw [Array.length_toList]; rfl
    unfold goP
    rw [if_neg (by simp only [List.length_append] at h; omega)]
    exact goP_fits l _ h
theorem goP_three : ∀ (l : List Rl) (acc : List UInt8), (goP l acc).2 = 0 ∨ goP l acc = ([], 3)
  | [], acc => by unfold goP; split; exact .inr rfl; exact .inl rfl
  | r :: l, acc => by
    unfold goP; split
    · exact .inr rfl
    · exact goP_three l _
/-- What was read is written, or it is too long: then the text was long. -/
theorem print_parsed {t : List UInt8} {k : List Rl} (h : parseP t = .ok k) : (∃ b, printP k = (b, 0)) ∨ printP k = ([], 3) ∧ 262144 < t.length := by
  obtain ⟨_, h64, hx, hl⟩ := parse_inv h
  have hr : k.any rankOut = false := by rw [List.any_eq_false]; intro x hm; rw [(hx x hm).1.2.2]; simp
  have hp : printP k = goP k [] := by
    unfold printP; rw [if_neg (by omega), hr]; simp
  rw [hp]
  rcases Nat.lt_or_ge 262144 t.length with hlt | hge
  · rcases goP_three k [] with h3 | h3
    · exact .inl ⟨_, Prod.ext rfl h3⟩
    · exact .inr ⟨h3, hlt⟩
  · exact .inl ⟨_, goP_fits k [] (by rw [List.nil_append]; omega)⟩
/-- Where printP fails nothing is told. -/
theorem printP_fail (l : List Rl) : (printP l).2 = 0 ∨ (printP l).1 = [] := by
  unfold printP
  split
  · exact .inr rfl
  split
  · exact .inr rfl
  · rcases goP_three l [] with h | h
    · exact .inl h
    · exact .inr (by rw [h])
end Go.Proofs.YtaipemiaphpojaaGreatDoor
