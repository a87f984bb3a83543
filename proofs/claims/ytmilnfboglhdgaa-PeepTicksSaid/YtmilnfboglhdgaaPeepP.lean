/- The plain mathematics of instructions made better: the ways in the program's order and in the document's are one; no way makes a list longer; ticks stay. No program in sight. -/
import Derived.Test.YtmilnfboglhdgaaValP
namespace Go.Proofs.Ytmilnfboglhdgaa.PeepP
open ValP

abbrev Ins := Int × Int
/-- The op at a place; 0: there is none. -/
def op (l : List Ins) (k : Nat) : Int := (l[k]?.map (·.1)).getD 0
def ar (l : List Ins) (k : Nat) : Int := (l[k]?.map (·.2)).getD 0
def swap (l : List Ins) (k n : Nat) (b : List Ins) : List Ins := l.take k ++ b ++ l.drop (k + n)
/-- Do these ops stand from a place on? -/
def isO (l : List Ins) (i : Nat) (ops : List Int) : Bool := decide (i + ops.length ≤ l.length) && (List.range ops.length).all fun k => op l (i + k) == ops.getD k 0
def lab (x : Ins) : Bool := x.1 == 38
/-- The labels that stand from a place on. -/
def labs (l : List Ins) (i : Nat) : List Ins := (l.drop i).takeWhile lab
def past (l : List Ins) (i : Nat) : Nat := i + (labs l i).length
def upto (l : List Ins) (i : Nat) : Nat := i + ((l.drop i).takeWhile fun x => !lab x).length
def endsB (o : Int) : Bool := o == 24 || o == 27 || o == 28 || o == 29 || o == 30
def jumpsB (o : Int) : Bool := o == 24 || o == 25
def spot (a : Int) (x : Ins) : Bool := x.1 == 38 && x.2 == a
def asks (a : Int) (x : Ins) : Bool := jumpsB x.1 && x.2 == a
def bz (k a b : Int) : Int := opV 0 false k (wr a) (wr b)
def be (k b : Int) : Int := opE false k (wr b)
def notV (n : Int) : Int := tr (wr n == 0)
def knownV (o n : Int) : Option Int := if o = 9 then some (bz 11 0 n) else if o = 10 then some (notV n) else if o = 11 then some (1 - notV n) else none

def way0 (l : List Ins) (i : Nat) : Option (List Ins) := if isO l i [1, 1, 8] = true ∧ ar l (i + 2) ≠ 9 ∧ be (ar l (i + 2)) (ar l (i + 1)) = 0 then some (swap l i 3 [(1, bz (ar l (i + 2)) (ar l i) (ar l (i + 1)))]) else none
def way1 (l : List Ins) (i : Nat) : Option (List Ins) := if isO l i [1] = true ∧ i + 1 < l.length then (knownV (op l (i + 1)) (ar l i)).map fun m => swap l i 2 [(1, m)] else none
def way2 (l : List Ins) (i : Nat) : Option (List Ins) := if isO l i [10, 10, 25] = true then some (swap l i 2 []) else none
def way3 (l : List Ins) (i : Nat) : Option (List Ins) := if isO l i [1, 25] = true ∧ notV (ar l i) = 1 then some (swap l i 2 [(24, ar l (i + 1))]) else none
def way4 (l : List Ins) (i : Nat) : Option (List Ins) := if isO l i [1, 25] = true ∧ notV (ar l i) ≠ 1 then some (swap l i 2 []) else none
def way5 (l : List Ins) (i : Nat) : Option (List Ins) := if isO l i [1, 2] = true then some (swap l i 2 []) else none
def way6 (l : List Ins) (i : Nat) : Option (List Ins) := if endsB (op l i) = true ∧ upto l (i + 1) ≠ i + 1 then some (swap l (i + 1) (upto l (i + 1) - i - 1) []) else none
def way7 (l : List Ins) (i : Nat) : Option (List Ins) := if op l i = 24 ∧ (labs l (i + 1)).any (fun x => x.2 == ar l i) = true then some (swap l i 1 []) else none
def way8 (l : List Ins) (i : Nat) : Option (List Ins) :=
  if jumpsB (op l i) = true then
    match l.findIdx? (spot (ar l i)) with
    | some p => if past l p < l.length ∧ op l (past l p) = 24 ∧ ar l (past l p) ≠ ar l i then some (swap l i 1 [(op l i, ar l (past l p))]) else none
    | none => none
  else none
def way9 (l : List Ins) (i : Nat) : Option (List Ins) := if op l i = 38 ∧ l.any (asks (ar l i)) = false then some (swap l i 1 []) else none
def way (l : List Ins) (i : Nat) : Nat → Option (List Ins)
  | 0 => way0 l i | 1 => way1 l i | 2 => way2 l i | 3 => way3 l i | 4 => way4 l i | 5 => way5 l i | 6 => way6 l i | 7 => way7 l i | 8 => way8 l i | 9 => way9 l i | _ => none
/-- The first way, of so many, that there is. -/
def ways (l : List Ins) (i : Nat) : Nat → Option (List Ins)
  | 0 => none
  | k + 1 => match ways l i k with
    | some m => some m
    | none => way l i k
def better (l : List Ins) (i : Nat) : Option (List Ins) := ways l i 10
def onceTo (l : List Ins) : Nat → Option (List Ins)
  | 0 => none
  | i + 1 => match onceTo l i with
    | some m => some m
    | none => better l i
def once (l : List Ins) : Option (List Ins) := onceTo l l.length
def onceL (l : List Ins) : List Ins := (once l).getD l
def all : Nat → List Ins → List Ins
  | 0, l => l
  | k + 1, l => match once l with
    | none => l
    | some m => all k m

/-- The document's. -/
def reckR (l : List Ins) (k : Nat) : Option (List Ins) :=
  if op l k = 1 ∧ op l (k + 1) = 1 ∧ op l (k + 2) = 8 ∧ ar l (k + 2) ≠ 9 ∧ be (ar l (k + 2)) (ar l (k + 1)) = 0 then some (swap l k 3 [(1, wr (bz (ar l (k + 2)) (ar l k) (ar l (k + 1))))])
  else if op l k ≠ 1 then none
  else if op l (k + 1) = 9 then some (swap l k 2 [(1, wr (wr (-(wr (ar l k)))))])
  else if op l (k + 1) = 10 then some (swap l k 2 [(1, wr (notV (ar l k)))])
  else if op l (k + 1) = 11 then some (swap l k 2 [(1, wr (1 - notV (ar l k)))])
  else none
def knownR (l : List Ins) (k : Nat) : Option (List Ins) :=
  if op l k = 10 ∧ op l (k + 1) = 10 ∧ op l (k + 2) = 25 then some (swap l k 2 [])
  else if op l k = 1 ∧ op l (k + 1) = 25 then (if wr (ar l k) = 0 then some (swap l k 2 [(24, ar l (k + 1))]) else some (swap l k 2 []))
  else if op l k = 1 ∧ op l (k + 1) = 2 then some (swap l k 2 [])
  else none
def goesR (l : List Ins) (k : Nat) : Option (List Ins) :=
  if endsB (op l k) = true ∧ k + 1 < upto l (k + 1) then some (swap l (k + 1) (upto l (k + 1) - k - 1) [])
  else if jumpsB (op l k) = false then none
  else if op l k = 24 ∧ (labs l (k + 1)).any (fun x => x.2 == ar l k) = true then some (swap l k 1 [])
  else match l.findIdx? (spot (ar l k)) with
    | none => none
    | some p => if op l (past l p) = 24 ∧ ar l (past l p) ≠ ar l k then some (swap l k 1 [(op l k, ar l (past l p))]) else none
def betterR (l : List Ins) (k : Nat) : Option (List Ins) :=
  match reckR l k with
  | some m => some m
  | none => match knownR l k with
    | some m => some m
    | none => match goesR l k with
      | some m => some m
      | none => if op l k = 38 ∧ l.any (asks (ar l k)) = false then some (swap l k 1 []) else none

theorem op_none {l : List Ins} {k : Nat} (h : l.length ≤ k) : op l k = 0 := by unfold op; rw [List.getElem?_eq_none h]; rfl
theorem op_lt {l : List Ins} {k : Nat} (h : k < l.length) : op l k = l[k].1 := by unfold op; rw [List.getElem?_eq_getElem h]; rfl
theorem ar_lt {l : List Ins} {k : Nat} (h : k < l.length) : ar l k = l[k].2 := by unfold ar; rw [List.getElem?_eq_getElem h]; rfl
theorem op_in {l : List Ins} {k : Nat} (h : op l k ≠ 0) : k < l.length := Nat.lt_of_not_le fun c => h (op_none c)
theorem is1 (l : List Ins) (i : Nat) (a : Int) (ha : a ≠ 0) : isO l i [a] = true ↔ op l i = a := by
  unfold isO
  simp [List.range_succ]
  intro h; have := op_in (l := l) (k := i) (by rw [h]; exact ha); omega
theorem is2 (l : List Ins) (i : Nat) (a b : Int) (ha : b ≠ 0) : isO l i [a, b] = true ↔ op l i = a ∧ op l (i + 1) = b := by
  unfold isO
  simp [List.range_succ]
  intro _ h; have := op_in (l := l) (k := i + 1) (by rw [h]; exact ha); omega
theorem is3 (l : List Ins) (i : Nat) (a b c : Int) (ha : c ≠ 0) : isO l i [a, b, c] = true ↔ op l i = a ∧ op l (i + 1) = b ∧ op l (i + 2) = c := by
  unfold isO
  simp [List.range_succ]
  intro _ _ h; have := op_in (l := l) (k := i + 2) (by rw [h]; exact ha); omega
theorem tr_cases (b : Bool) : tr b = 0 ∨ tr b = 1 := by cases b <;> simp [tr]
theorem notV_cases (n : Int) : notV n = 0 ∨ notV n = 1 := tr_cases _
theorem notV_one (n : Int) : notV n = 1 ↔ wr n = 0 := by unfold notV tr; split <;> simp_all
theorem wr_tr (b : Bool) : wr (tr b) = tr b := by cases b <;> rfl
theorem wr_notV (n : Int) : wr (notV n) = notV n := wr_tr _
theorem wr_notV1 (n : Int) : wr (1 - notV n) = 1 - notV n := by rcases notV_cases n with h | h <;> rw [h] <;> rfl
theorem wr_bz (k a b : Int) : wr (bz k a b) = bz k a b := by
  unfold bz
  generalize wr a = x
  generalize wr b = y
  have h0 : wr 0 = 0 := rfl
  unfold opV dv md
  simp only [apply_ite wr, wr_tr, wr_wr, h0]
theorem bz_sub (n : Int) : bz 11 0 n = wr (-(wr n)) := by
  unfold bz opV
  simp
  congr 1
  have : wr 0 = 0 := rfl
  omega
theorem upto_ge (l : List Ins) (i : Nat) : i ≤ upto l i := Nat.le_add_right _ _
theorem past_op (l : List Ins) (i : Nat) (h : i ≤ l.length) : past l i ≤ l.length := by
  unfold past labs
  have := (List.takeWhile_sublist (l := l.drop i) lab).length_le
  rw [List.length_drop] at this
  omega

theorem known_eq (o n : Int) : knownV o n = if o = 9 then some (wr (wr (-(wr n)))) else if o = 10 then some (wr (notV n)) else if o = 11 then some (wr (1 - notV n)) else none := by
  unfold knownV
  rw [bz_sub, wr_wr, wr_notV, wr_notV1]
theorem reck_eq (l : List Ins) (i : Nat) : reckR l i = match way0 l i with | some m => some m | none => way1 l i := by
  have h3 := is3 l i 1 1 8 (by decide)
  have h1 := is1 l i 1 (by decide)
  by_cases c : op l i = 1 ∧ op l (i + 1) = 1 ∧ op l (i + 2) = 8 ∧ ar l (i + 2) ≠ 9 ∧ be (ar l (i + 2)) (ar l (i + 1)) = 0
  · rw [show way0 l i = some (swap l i 3 [(1, bz (ar l (i + 2)) (ar l i) (ar l (i + 1)))]) from if_pos ⟨h3.2 ⟨c.1, c.2.1, c.2.2.1⟩, c.2.2.2⟩]
    unfold reckR
    rw [wr_bz, if_pos c]
  · rw [show way0 l i = none from if_neg (fun h => c ⟨(h3.1 h.1).1, (h3.1 h.1).2.1, (h3.1 h.1).2.2, h.2⟩)]
    unfold reckR
    rw [if_neg c]
    simp only
    by_cases c1 : op l i = 1
    · rw [if_neg (by simp [c1])]
      by_cases c9 : op l (i + 1) = 9
      · have := op_in (l := l) (k := i + 1) (by rw [c9]; decide)
        unfold way1
        rw [known_eq, if_pos c9, if_pos ⟨h1.2 c1, this⟩, if_pos c9]; rfl
      · by_cases c10 : op l (i + 1) = 10
        · have := op_in (l := l) (k := i + 1) (by rw [c10]; decide)
          unfold way1
          rw [known_eq, if_neg c9, if_pos c10, if_pos ⟨h1.2 c1, this⟩, if_neg c9, if_pos c10]; rfl
        · by_cases c11 : op l (i + 1) = 11
          · have := op_in (l := l) (k := i + 1) (by rw [c11]; decide)
            unfold way1
            rw [known_eq, if_neg c9, if_neg c10, if_pos c11, if_pos ⟨h1.2 c1, this⟩, if_neg c9, if_neg c10, if_pos c11]; rfl
          · have : knownV (op l (i + 1)) (ar l i) = none := by rw [known_eq, if_neg c9, if_neg c10, if_neg c11]
            unfold way1
            rw [this, if_neg c9, if_neg c10, if_neg c11]
            split <;> rfl
    · rw [if_pos c1, show way1 l i = none from if_neg (fun h => c1 (h1.1 h.1))]
/-- The first of two. -/
def orE {α : Type} : Option α → Option α → Option α
  | some x, _ => some x
  | none, y => y
theorem orE_assoc {α : Type} (a b c : Option α) : orE (orE a b) c = orE a (orE b c) := by cases a <;> rfl
theorem orE_none {α : Type} (a : Option α) : orE none a = a := rfl
theorem known_two (l : List Ins) (i : Nat) : knownR l i = orE (way2 l i) (orE (way3 l i) (orE (way4 l i) (way5 l i))) := by
  have h2 := is3 l i 10 10 25 (by decide)
  have h3 := is2 l i 1 25 (by decide)
  have h5 := is2 l i 1 2 (by decide)
  have hn := notV_one (ar l i)
  unfold knownR
  by_cases c : op l i = 10 ∧ op l (i + 1) = 10 ∧ op l (i + 2) = 25
  · rw [if_pos c, show way2 l i = some _ from if_pos (h2.2 c)]; rfl
  · rw [if_neg c, show way2 l i = none from if_neg (fun h => c (h2.1 h)), orE_none]
    by_cases c3 : op l i = 1 ∧ op l (i + 1) = 25
    · rw [if_pos c3]
      by_cases z : wr (ar l i) = 0
      · rw [if_pos z, show way3 l i = some _ from if_pos ⟨h3.2 c3, hn.2 z⟩]; rfl
      · rw [if_neg z, show way3 l i = none from if_neg (fun h => z (hn.1 h.2)), orE_none, show way4 l i = some _ from if_pos ⟨h3.2 c3, fun h => z (hn.1 h)⟩]; rfl
    · rw [if_neg c3, show way3 l i = none from if_neg (fun h => c3 (h3.1 h.1)), orE_none, show way4 l i = none from if_neg (fun h => c3 (h3.1 h.1)), orE_none]
      by_cases c5 : op l i = 1 ∧ op l (i + 1) = 2
      · rw [if_pos c5, show way5 l i = some _ from if_pos (h5.2 c5)]
      · rw [if_neg c5, show way5 l i = none from if_neg (fun h => c5 (h5.1 h))]
theorem goes_three (l : List Ins) (i : Nat) : goesR l i = orE (way6 l i) (orE (way7 l i) (way8 l i)) := by
  have hu := upto_ge l (i + 1)
  unfold goesR
  by_cases c : endsB (op l i) = true ∧ i + 1 < upto l (i + 1)
  · rw [if_pos c, show way6 l i = some _ from if_pos ⟨c.1, by omega⟩]; rfl
  · rw [if_neg c, show way6 l i = none from if_neg (fun h => c ⟨h.1, by omega⟩), orE_none]
    cases j : jumpsB (op l i) with
    | false =>
      rw [if_pos rfl, show way7 l i = none from if_neg (fun h => by rw [h.1] at j; exact absurd j (by decide)), orE_none]
      unfold way8
      rw [j, if_neg (by simp)]
    | true =>
      rw [if_neg (by simp)]
      by_cases c7 : op l i = 24 ∧ (labs l (i + 1)).any (fun x => x.2 == ar l i) = true
      · rw [if_pos c7, show way7 l i = some _ from if_pos c7]; rfl
      · rw [if_neg c7, show way7 l i = none from if_neg c7, orE_none]
        unfold way8
        rw [j, if_pos rfl]
        cases hf : l.findIdx? (spot (ar l i)) with
        | none => rfl
        | some p =>
          simp only
          by_cases c8 : op l (past l p) = 24 ∧ ar l (past l p) ≠ ar l i
          · rw [if_pos c8, if_pos ⟨op_in (by rw [c8.1]; decide), c8⟩]
          · rw [if_neg c8, if_neg (fun h => c8 h.2)]
theorem better_or (l : List Ins) (i : Nat) : better l i = orE (way0 l i) (orE (way1 l i) (orE (way2 l i) (orE (way3 l i) (orE (way4 l i) (orE (way5 l i) (orE (way6 l i) (orE (way7 l i) (orE (way8 l i) (way9 l i))))))))) := by
  have e : ∀ k, ways l i (k + 1) = orE (ways l i k) (way l i k) := fun k => by rw [ways]; cases ways l i k <;> rfl
  unfold better
  rw [e, e, e, e, e, e, e, e, e, e]
  simp only [ways, way, orE_assoc, orE_none]
/-- The program's ways and the document's are one. -/
theorem better_eq (l : List Ins) (i : Nat) : betterR l i = better l i := by
  rw [better_or]
  have e : betterR l i = orE (reckR l i) (orE (knownR l i) (orE (goesR l i) (way9 l i))) := by
    unfold betterR way9
    cases reckR l i with
    | some m => rfl
    | none =>
      cases knownR l i with
      | some m => rfl
      | none => cases goesR l i <;> rfl
  have e0 : reckR l i = orE (way0 l i) (way1 l i) := by rw [reck_eq]; cases way0 l i <;> rfl
  rw [e, e0, known_two, goes_three]
  simp only [orE_assoc]

theorem swap_len {l : List Ins} {k n : Nat} {b : List Ins} (h : k + n ≤ l.length) (hb : b.length ≤ n) : (swap l k n b).length ≤ l.length := by
  unfold swap
  simp only [List.length_append, List.length_take, List.length_drop]
  omega
theorem upto_le (l : List Ins) (i : Nat) (h : i ≤ l.length) : upto l i ≤ l.length := by
  unfold upto
  have := (List.takeWhile_sublist (l := l.drop i) fun x => !lab x).length_le
  rw [List.length_drop] at this
  omega
theorem isO_len {l : List Ins} {i : Nat} {ops : List Int} (h : isO l i ops = true) : i + ops.length ≤ l.length := by
  unfold isO at h
  simp only [Bool.and_eq_true, decide_eq_true_eq] at h
  exact h.1
theorem way_len {l : List Ins} {i : Nat} (hi : i < l.length) : ∀ k m, way l i k = some m → m.length ≤ l.length := by
  intro k m
  match k with
  | 0 => simp only [way, way0]; split <;> intro h <;> simp only [Option.some.injEq, reduceCtorEq] at h; rename_i c; have := isO_len c.1; subst h; exact swap_len (by simpa using this) (by simp)
  | 1 =>
    simp only [way, way1]
    split
    · rename_i c
      cases knownV (op l (i + 1)) (ar l i) with
      | none => intro h; cases h
      | some v => intro h; simp only [Option.map_some, Option.some.injEq] at h; subst h; exact swap_len (by omega) (by simp)
    · intro h; cases h
  | 2 => simp only [way, way2]; split <;> intro h <;> simp only [Option.some.injEq, reduceCtorEq] at h; rename_i c; have := isO_len c; simp only [List.length_cons, List.length_nil] at this; subst h; exact swap_len (by omega) (by simp)
  | 3 => simp only [way, way3]; split <;> intro h <;> simp only [Option.some.injEq, reduceCtorEq] at h; rename_i c; have := isO_len c.1; subst h; exact swap_len (by simpa using this) (by simp)
  | 4 => simp only [way, way4]; split <;> intro h <;> simp only [Option.some.injEq, reduceCtorEq] at h; rename_i c; have := isO_len c.1; subst h; exact swap_len (by simpa using this) (by simp)
  | 5 => simp only [way, way5]; split <;> intro h <;> simp only [Option.some.injEq, reduceCtorEq] at h; rename_i c; have := isO_len c; subst h; exact swap_len (by simpa using this) (by simp)
  | 6 => simp only [way, way6]; split <;> intro h <;> simp only [Option.some.injEq, reduceCtorEq] at h; have := upto_le l (i + 1) (by omega); have := upto_ge l (i + 1); subst h; exact swap_len (by omega) (by simp)
  | 7 => simp only [way, way7]; split <;> intro h <;> simp only [Option.some.injEq, reduceCtorEq] at h; subst h; exact swap_len (by omega) (by simp)
  | 8 =>
    simp only [way, way8]
    split
    · split
      · split <;> intro h <;> simp only [Option.some.injEq, reduceCtorEq] at h; subst h; exact swap_len (by omega) (by simp)
      · intro h; cases h
    · intro h; cases h
  | 9 => simp only [way, way9]; split <;> intro h <;> simp only [Option.some.injEq, reduceCtorEq] at h; subst h; exact swap_len (by omega) (by simp)
  | _ + 10 => intro h; cases h
theorem ways_from {l : List Ins} {i : Nat} : ∀ {n : Nat} {m}, ways l i n = some m → ∃ k, way l i k = some m
  | n + 1, m, h => by
    rw [ways] at h
    split at h
    · rename_i h2; simp only [Option.some.injEq] at h; subst h; exact ways_from h2
    · exact ⟨n, h⟩
theorem once_from {l : List Ins} : ∀ {n : Nat} {m}, onceTo l n = some m → ∃ i k, i < n ∧ way l i k = some m
  | n + 1, m, h => by
    rw [onceTo] at h
    split at h
    · rename_i h2; simp only [Option.some.injEq] at h; subst h; obtain ⟨i, k, h3, h4⟩ := once_from h2; exact ⟨i, k, by omega, h4⟩
    · obtain ⟨k, h3⟩ := ways_from h; exact ⟨n, k, by omega, h3⟩
theorem once_len {l m : List Ins} (h : once l = some m) : m.length ≤ l.length := by
  obtain ⟨i, k, hi, hw⟩ := once_from h
  exact way_len hi k m hw
theorem onceL_len (l : List Ins) : (onceL l).length ≤ l.length := by
  unfold onceL
  cases h : once l with
  | none => simp
  | some m => exact once_len h
theorem all_len : ∀ (k : Nat) (l : List Ins), (all k l).length ≤ l.length
  | 0, l => Nat.le_refl _
  | k + 1, l => by
    rw [all]
    split
    · exact Nat.le_refl _
    · rename_i m h; exact Nat.le_trans (all_len k m) (once_len h)

/-- Nothing goes elsewhere, or ends. -/
def plainO (o : Int) : Bool := !(o == 24 || o == 25 || o == 38 || o == 27 || o == 28 || o == 29 || o == 30)
def straight (l : List Ins) : Bool := l.all fun x => plainO x.1
def reckons (o : Int) : Bool := o == 1 || o == 2 || o == 8 || o == 9 || o == 10 || o == 11
def nTick (l : List Ins) : Nat := l.countP fun x => x.1 == 37
def nRest (l : List Ins) : Nat := l.countP fun x => !(x.1 == 37) && !reckons x.1
def dull (l : List Ins) : Bool := l.all fun x => reckons x.1
theorem dull_tick : ∀ {l : List Ins}, dull l = true → nTick l = 0 ∧ nRest l = 0 := by
  intro l h
  unfold dull at h
  rw [List.all_eq_true] at h
  unfold nTick nRest
  simp only [List.countP_eq_zero]
  refine ⟨fun x hx => ?_, fun x hx => ?_⟩
  · have := h x hx; unfold reckons at this; simp only [Bool.or_eq_true, beq_iff_eq] at this ⊢; omega
  · simp [h x hx]
theorem split3 (l : List Ins) (k n : Nat) : l = l.take k ++ (l.drop k).take n ++ l.drop (k + n) := by
  rw [List.append_assoc, ← List.drop_drop, List.take_append_drop, List.take_append_drop]
theorem swap_keeps {l : List Ins} {k n : Nat} {b : List Ins} (hs : straight l = true) (h1 : dull ((l.drop k).take n) = true) (h2 : dull b = true) (h3 : straight b = true) :
    straight (swap l k n b) = true ∧ nTick (swap l k n b) = nTick l ∧ nRest (swap l k n b) = nRest l := by
  have e := split3 l k n
  obtain ⟨a1, a2⟩ := dull_tick h1
  obtain ⟨b1, b2⟩ := dull_tick h2
  unfold swap
  refine ⟨?_, ?_, ?_⟩
  · rw [e] at hs
    unfold straight at hs h3 ⊢
    simp only [List.all_append, Bool.and_eq_true] at hs ⊢
    exact ⟨⟨hs.1.1, h3⟩, hs.2⟩
  · conv => rhs; rw [e]
    unfold nTick at a1 b1 ⊢
    simp only [List.countP_append, a1, b1]
  · conv => rhs; rw [e]
    unfold nRest at a2 b2 ⊢
    simp only [List.countP_append, a2, b2]
theorem op_straight {l : List Ins} (hs : straight l = true) (i : Nat) : plainO (op l i) = true := by
  rcases Nat.lt_or_ge i l.length with h | h
  · rw [op_lt h]
    unfold straight at hs
    rw [List.all_eq_true] at hs
    exact hs _ (List.getElem_mem h)
  · rw [op_none h]; rfl
theorem dull2 {l : List Ins} {i : Nat} (h : i + 2 ≤ l.length) (h0 : reckons (op l i) = true) (h1 : reckons (op l (i + 1)) = true) : dull ((l.drop i).take 2) = true := by
  have e : (l.drop i).take 2 = [l[i], l[i + 1]] := by rw [List.drop_eq_getElem_cons (by omega), List.drop_eq_getElem_cons (by omega)]; rfl
  rw [op_lt (by omega)] at h0 h1
  rw [e]
  unfold dull
  rw [List.all_cons, List.all_cons, h0, h1]; rfl
theorem dull3 {l : List Ins} {i : Nat} (h : i + 3 ≤ l.length) (h0 : reckons (op l i) = true) (h1 : reckons (op l (i + 1)) = true) (h2 : reckons (op l (i + 2)) = true) : dull ((l.drop i).take 3) = true := by
  have e : (l.drop i).take 3 = [l[i], l[i + 1], l[i + 2]] := by rw [List.drop_eq_getElem_cons (by omega), List.drop_eq_getElem_cons (by omega), List.drop_eq_getElem_cons (by omega)]; rfl
  rw [op_lt (by omega)] at h0 h1 h2
  rw [e]
  unfold dull
  rw [List.all_cons, List.all_cons, List.all_cons, h0, h1, h2]; rfl
theorem plain_ends {o : Int} (h : plainO o = true) : endsB o = false ∧ jumpsB o = false ∧ o ≠ 24 ∧ o ≠ 25 ∧ o ≠ 38 := by
  unfold plainO at h
  unfold endsB jumpsB
  simp only [Bool.not_eq_true', Bool.or_eq_false_iff, beq_eq_false_iff_ne] at h ⊢
  omega
theorem way_keeps {l : List Ins} {i : Nat} (hs : straight l = true) : ∀ k m, way l i k = some m → straight m = true ∧ nTick m = nTick l ∧ nRest m = nRest l := by
  intro k m
  have hp := fun j => plain_ends (op_straight hs j)
  match k with
  | 0 =>
    simp only [way, way0]; split
    · rename_i c
      intro h; simp only [Option.some.injEq] at h; subst h
      have hl := isO_len c.1
      have h3 := (is3 l i 1 1 8 (by decide)).1 c.1
      exact swap_keeps hs (dull3 (by simpa using hl) (by rw [h3.1]; rfl) (by rw [h3.2.1]; rfl) (by rw [h3.2.2]; rfl)) (by simp [dull]; rfl) (by simp [straight]; rfl)
    · intro h; cases h
  | 1 =>
    simp only [way, way1]; split
    · rename_i c
      have h1 := (is1 l i 1 (by decide)).1 c.1
      cases hk : knownV (op l (i + 1)) (ar l i) with
      | none => intro h; cases h
      | some v =>
        intro h; simp only [Option.map_some, Option.some.injEq] at h; subst h
        have ho : reckons (op l (i + 1)) = true := by
          unfold knownV at hk
          split at hk
          · rename_i e; rw [e]; rfl
          · split at hk
            · rename_i e; rw [e]; rfl
            · split at hk
              · rename_i e; rw [e]; rfl
              · cases hk
        exact swap_keeps hs (dull2 (by omega) (by rw [h1]; rfl) ho) (by simp [dull]; rfl) (by simp [straight]; rfl)
    · intro h; cases h
  | 2 =>
    simp only [way, way2]; split
    · rename_i c
      have h3 := (is3 l i 10 10 25 (by decide)).1 c
      exact absurd h3.2.2 (hp (i + 2)).2.2.2.1
    · intro h; cases h
  | 3 =>
    simp only [way, way3]; split
    · rename_i c
      exact absurd ((is2 l i 1 25 (by decide)).1 c.1).2 (hp (i + 1)).2.2.2.1
    · intro h; cases h
  | 4 =>
    simp only [way, way4]; split
    · rename_i c
      exact absurd ((is2 l i 1 25 (by decide)).1 c.1).2 (hp (i + 1)).2.2.2.1
    · intro h; cases h
  | 5 =>
    simp only [way, way5]; split
    · rename_i c
      intro h; simp only [Option.some.injEq] at h; subst h
      have hl := isO_len c
      have h2 := (is2 l i 1 2 (by decide)).1 c
      exact swap_keeps hs (dull2 (by simpa using hl) (by rw [h2.1]; rfl) (by rw [h2.2]; rfl)) rfl rfl
    · intro h; cases h
  | 6 =>
    simp only [way, way6]; rw [(hp i).1]; intro h; simp at h
  | 7 =>
    simp only [way, way7]; rw [if_neg (fun h => (hp i).2.2.1 h.1)]; intro h; cases h
  | 8 =>
    simp only [way, way8]; rw [(hp i).2.1]; intro h; simp at h
  | 9 =>
    simp only [way, way9]; rw [if_neg (fun h => (hp i).2.2.2.2 h.1)]; intro h; cases h
  | _ + 10 => intro h; cases h
theorem once_keeps {l m : List Ins} (hs : straight l = true) (h : once l = some m) : straight m = true ∧ nTick m = nTick l ∧ nRest m = nRest l := by
  obtain ⟨i, k, _, hw⟩ := once_from h
  exact way_keeps hs k m hw
theorem onceL_keeps {l : List Ins} (hs : straight l = true) : nTick (onceL l) = nTick l ∧ nRest (onceL l) = nRest l := by
  unfold onceL
  cases h : once l with
  | none => exact ⟨rfl, rfl⟩
  | some m => exact (once_keeps hs h).2
theorem all_keeps : ∀ (k : Nat) {l : List Ins}, straight l = true → nTick (all k l) = nTick l ∧ nRest (all k l) = nRest l
  | 0, l, _ => ⟨rfl, rfl⟩
  | k + 1, l, hs => by
    rw [all]
    split
    · exact ⟨rfl, rfl⟩
    · rename_i m h
      obtain ⟨h1, h2, h3⟩ := once_keeps hs h
      obtain ⟨h4, h5⟩ := all_keeps k h1
      exact ⟨h4.trans h2, h5.trans h3⟩
/-- The chapter's examples. -/
theorem ex1 : onceL [(1, 2), (1, 3), (8, 10)] = [(1, 5)] := by decide +kernel
theorem ex2 : onceL [(1, 0), (25, 1), (37, 0), (38, 1)] = [(24, 1), (37, 0), (38, 1)] := by decide +kernel
theorem ex3 : all 64 [(1, 0), (25, 1), (37, 0), (38, 1)] = [] := by decide +kernel
theorem ex4 : onceL [] = [] := rfl
end Go.Proofs.Ytmilnfboglhdgaa.PeepP
