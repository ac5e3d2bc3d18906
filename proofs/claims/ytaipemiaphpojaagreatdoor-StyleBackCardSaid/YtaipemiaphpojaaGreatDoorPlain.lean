/- What Parse reads, by definition: quoted texts, words, numbers, rules, lines. No program. -/
import Derived.Test.YtaipemiaphpojaaGreatDoorLeaf
import Derived.Test.YtaipemiaphpojaaGreatDoorSPrint
namespace Go.Proofs.YtaipemiaphpojaaGreatDoor
open Go Go.Proofs Go.RowKit
/-- Behind a quote: what is said, and what stands behind the closing quote. -/
def unq : List UInt8 → Option (List UInt8 × List UInt8)
  | [] => none
  | c :: r =>
    if c = 34 then (if r.head?.all blk then some ([], r) else none)
    else if c = 92 then
      match r with
      | [] => none
      | d :: r' =>
        if d = 34 ∨ d = 92 then (unq r').map (fun p => (d :: p.1, p.2))
        else if d = 110 then (unq r').map (fun p => (10 :: p.1, p.2))
        else if d = 116 then (unq r').map (fun p => (9 :: p.1, p.2))
        else if d = 120 then
          match r' with
          | h1 :: h2 :: r'' => if hexP h1 < 0 ∨ hexP h2 < 0 then none else (unq r'').map (fun p => (UInt8.ofNat (16 * hexP h1 + hexP h2).toNat :: p.1, p.2))
          | _ => none
        else none
    else (unq r).map (fun p => (c :: p.1, p.2))
/-- What stands behind is a rest, and a blank or the end stands first in it; what is said is no longer than what is read. -/
theorem unq_rest (l : List UInt8) : ∀ p, unq l = some p → (∃ u, l = u ++ p.2 ∧ p.1.length + 1 ≤ u.length) ∧ p.2.head?.all blk = true := by
  fun_induction unq l
  case case1 => intro p h; cases h
  case case2 r h => intro p e; injection e with e; subst e; exact ⟨⟨[34], rfl, by simp⟩, h⟩
  case case3 => intro p h; cases h
  case case4 => intro p h; cases h
  all_goals first
    | (intro p h; cases h; done)
    | (intro p h
       obtain ⟨q, hq, rfl⟩ := Option.map_eq_some_iff.1 h
       rename_i ih
       obtain ⟨⟨u, rfl, hu⟩, hh⟩ := ih q hq
       refine ⟨⟨?_, ?_, ?_⟩, hh⟩
       rotate_left
       · (first | (rw [← List.cons_append]; done) | rfl | (rw [← List.cons_append, ← List.cons_append]; done) | (rw [← List.cons_append, ← List.cons_append, ← List.cons_append, ← List.cons_append]; done))
       · simp only [List.length_cons]; omega)
/-- A word of a line: its sort (0 bare, 1 quoted, 2 broken), what stands, what it says, its place. -/
structure Wd where
  sort : Nat
  text : List UInt8
  value : List UInt8
  place : Int
def nb (c : UInt8) : Bool := !blk c
theorem dropWhile_len (p : UInt8 → Bool) (l : List UInt8) : (l.dropWhile p).length ≤ l.length := by
  induction l with
  | nil => simp
  | cons c l ih => rw [List.dropWhile_cons]; split <;> simp only [List.length_cons] at * <;> omega
/-- A line's words; e: the line's end. -/
def words (e : Int) (l : List UInt8) : List Wd :=
  match h : l.dropWhile blk with
  | [] => []
  | c :: r =>
    if c = 34 then
      match hu : unq r with
      | none => [⟨2, [34], [], e - (r.length + 1 : Nat)⟩]
      | some v => ⟨1, (c :: r).take (r.length + 1 - v.2.length), v.1, e - (r.length + 1 : Nat)⟩ :: words e v.2
    else ⟨0, c :: r.takeWhile nb, [], e - (r.length + 1 : Nat)⟩ :: words e (r.dropWhile nb)
  termination_by l.length
  decreasing_by
  · have h1 := dropWhile_len blk l
    rw [h] at h1
    obtain ⟨⟨u, hu', hl⟩, -⟩ := unq_rest r v hu
    have : r.length = u.length + v.2.length := by rw [hu']; simp
    simp only [List.length_cons] at h1
    omega
  · have h1 := dropWhile_len blk l
    rw [h] at h1
    have h2 := dropWhile_len nb r
    simp only [List.length_cons] at h1
    omega
theorem words_nil {e : Int} {l : List UInt8} (h : l.dropWhile blk = []) : words e l = [] := by
  rw [words.eq_def]; split
  · rfl
  · rename_i h'; rw [h] at h'; cases h'
theorem words_broken {e : Int} {l r : List UInt8} (h : l.dropWhile blk = 34 :: r) (hu : unq r = none) : words e l = [⟨2, [34], [], e - (r.length + 1 : Nat)⟩] := by
  rw [words.eq_def]; split
  · rename_i h'; rw [h] at h'; cases h'
  · rename_i c r' h'
    rw [h] at h'; injection h' with h1 h2; subst h1; subst h2
    rw [if_pos rfl]
    split
    · rfl
    · rename_i h3; rw [hu] at h3; cases h3
theorem words_quoted {e : Int} {l r : List UInt8} {v : List UInt8 × List UInt8} (h : l.dropWhile blk = 34 :: r) (hu : unq r = some v) : words e l = ⟨1, (34 :: r).take (r.length + 1 - v.2.length), v.1, e - (r.length + 1 : Nat)⟩ :: words e v.2 := by
  rw [words.eq_def]; split
  · rename_i h'; rw [h] at h'; cases h'
  · rename_i c r' h'
    rw [h] at h'; injection h' with h1 h2; subst h1; subst h2
    rw [if_pos rfl]
    split
    · rename_i h3; rw [hu] at h3; cases h3
    · rename_i v' h3; rw [hu] at h3; injection h3 with h3; subst h3; rfl
theorem words_bare {e : Int} {l r : List UInt8} {c : UInt8} (h : l.dropWhile blk = c :: r) (hc : c ≠ 34) : words e l = ⟨0, c :: r.takeWhile nb, [], e - (r.length + 1 : Nat)⟩ :: words e (r.dropWhile nb) := by
  rw [words.eq_def]; split
  · rename_i h'; rw [h] at h'; cases h'
  · rename_i c' r' h'
    rw [h] at h'; injection h' with h1 h2; subst h1; subst h2
    rw [if_neg hc]
/-- Words as they are made. -/
def Wd.ok (w : Wd) : Prop := w.text ≠ [] ∧ (w.sort = 0 ∧ w.text.head? ≠ some 34 ∨ (w.sort = 1 ∨ w.sort = 2) ∧ w.text.head? = some 34)
theorem words_ok (e : Int) (l : List UInt8) : ∀ w ∈ words e l, w.ok := by
  fun_induction words e l
  case case1 => intro w h; cases h
  case case2 => intro w h; rw [List.mem_singleton.1 h]; exact ⟨by simp, .inr ⟨.inr rfl, rfl⟩⟩
  case case3 l' r v hu h ih =>
    intro w hw
    rcases List.mem_cons.1 hw with rfl | hw
    · obtain ⟨⟨u, hu', hl⟩, -⟩ := unq_rest r v hu
      have hlen : r.length = u.length + v.2.length := by rw [hu']; simp
      obtain ⟨n, hn⟩ : ∃ n, r.length + 1 - v.2.length = n + 1 := ⟨r.length - v.2.length, by omega⟩
      refine ⟨?_, .inr ⟨.inl rfl, ?_⟩⟩
      · show (_ :: r).take _ ≠ []
        rw [hn, List.take_succ_cons]; simp
      · show ((_ :: r).take _).head? = _
        rw [hn, List.take_succ_cons]; simp
    · exact ih w hw
  case case4 l' c r h hc ih =>
    intro w hw
    rcases List.mem_cons.1 hw with rfl | hw
    · exact ⟨by simp, .inl ⟨rfl, by simpa using hc⟩⟩
    · exact ih w hw
/-- A fault: its number, its place, its word. -/
abbrev Flt := Int × Int × List UInt8
def takeP (e : Int) : List Wd → Except Flt (Wd × List Wd)
  | [] => .error (230, e, [])
  | w :: r => if w.sort = 2 then .error (230, w.place, w.text) else .ok (w, r)
open Classical in
noncomputable def numP (lo hi : Int) (t : List UInt8) : Option Int := if h : ∃ n : Int, lo ≤ n ∧ n ≤ hi ∧ Lib.itoa n = t then some h.choose else none
noncomputable def numberP (e lo hi : Int) (ws : List Wd) : Except Flt (Int × List Wd) :=
  match takeP e ws with
  | .error f => .error f
  | .ok (w, r) => match numP lo hi w.text with
    | none => .error (230, w.place, w.text)
    | some n => .ok (n, r)
def saidP (t : List UInt8) : List Wd → Bool × List Wd
  | [] => (false, [])
  | w :: r => if w.text = t then (true, r) else (false, w :: r)
def flagsP (ws : List Wd) : Bool × Bool × Bool × List Wd :=
  let a := saidP [112, 108, 97, 105, 110] ws
  let b := saidP [102, 111, 108, 100] a.2
  let c := saidP [119, 111, 114, 100] b.2
  (a.1, b.1, c.1, c.2)
def tailP (e rank style : Int) (ws : List Wd) : Except Flt Rl :=
  match takeP e ws with
  | .error f => .error f
  | .ok (t, r) =>
    if t.sort = 1 then
      match (flagsP r).2.2.2 with
      | [] => .ok ⟨⟨t.value.toArray⟩, (flagsP r).1, (flagsP r).2.1, (flagsP r).2.2.1, style, rank⟩
      | w :: _ => .error (230, w.place, w.text)
    else .error (230, t.place, t.text)
noncomputable def ruleP (e : Int) : List Wd → Except Flt Rl
  | [] => .error (230, e, [])
  | w :: r =>
    if w.text = [114, 117, 108, 101] then
      match numberP e (-2147483648) 2147483647 r with
      | .error f => .error f
      | .ok (rank, r1) => match numberP e 0 65535 r1 with
        | .error f => .error f
        | .ok (style, r2) => tailP e rank style r2
    else .error (230, w.place, w.text)
def linesP : List UInt8 → List (List UInt8)
  | [] => [[]]
  | c :: r => if c = 10 then [] :: linesP r else match linesP r with
    | [] => [[c]]
    | h :: t => (c :: h) :: t
noncomputable def goL : Int → List (List UInt8) → List Rl → Except Flt (List Rl)
  | _, [], acc => .ok acc
  | a, ln :: rest, acc =>
    match words (a + ln.length) ln with
    | [] => goL (a + ln.length + 1) rest acc
    | w :: ws =>
      if w.text.head? = some 35 then goL (a + ln.length + 1) rest acc
      else if 64 ≤ acc.length then .error (3, w.place, w.text)
      else match ruleP (a + ln.length) (w :: ws) with
        | .error f => .error f
        | .ok x => goL (a + ln.length + 1) rest (acc ++ [x])
noncomputable def parseP (t : List UInt8) : Except Flt (List Rl) := if 1048576 < t.length then .error (3, 0, []) else goL 0 (linesP t) []
theorem numP_some {lo hi n : Int} {t : List UInt8} (h : numP lo hi t = some n) : lo ≤ n ∧ n ≤ hi ∧ Lib.itoa n = t := by
  unfold numP at h
  split at h
  · rename_i hx; injection h with h; rw [← h]; exact hx.choose_spec
  · cases h
theorem numP_none {lo hi : Int} {t : List UInt8} (h : ∀ n : Int, lo ≤ n → n ≤ hi → Lib.itoa n ≠ t) : numP lo hi t = none := by
  unfold numP
  rw [dif_neg]
  rintro ⟨n, h1, h2, h3⟩
  exact h n h1 h2 h3
end Go.Proofs.YtaipemiaphpojaaGreatDoor
