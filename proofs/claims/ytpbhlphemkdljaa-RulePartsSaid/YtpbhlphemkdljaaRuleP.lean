/- The plain mathematics of the rules: which fit, their ranks, their order. No program in sight. -/
import Derived.WalkKit
namespace Go.Proofs.Ytpbhlphemkdljaa.RuleP
open Go

structure Deed where
  verb : Int
  phase : Int
  noun : Int
  second : Int
  onlyIf : Int
  body : Int
structure Cmd where
  verb : Int
  noun : Int
  second : Int
  number : Int
  dir : Int
def anyOf (named x : Int) : Bool := named == -1 || named == x
def fits (d : Deed) (phase : Int) (c : Cmd) : Bool := d.verb == c.verb && (d.phase == phase && (anyOf d.noun c.noun && anyOf d.second c.second))
def rank (d : Deed) : Int := (if d.noun = -1 then 0 else 2) + (if d.second = -1 then 0 else 1)
/-- Where x comes to stand in l, going down from place k while 'sooner x' says so. -/
def place (f : Nat → Nat → Bool) (x : Nat) (l : List Nat) : Nat → Nat
  | 0 => 0
  | k + 1 => if f x (l.getD k 0) then place f x l k else k + 1
def putAt (l : List Nat) (x k : Nat) : List Nat := l.take k ++ x :: l.drop k
def put (f : Nat → Nat → Bool) (l : List Nat) (x : Nat) : List Nat := putAt l x (place f x l l.length)
def rk (ds : List Deed) (i : Nat) : Int := (ds.map rank).getD i 0
def sooner (ds : List Deed) (i j : Nat) : Bool := decide (rk ds j < rk ds i)
def ns (l : List Nat) : List Int := l.map fun n : Nat => (n : Int)
/-- The rules among the first k that are for a command, as the program gathers them. -/
def orderTo (ds : List Deed) (phase : Int) (c : Cmd) : Nat → List Nat
  | 0 => []
  | k + 1 => if ((ds[k]?).map fun d => fits d phase c) = some true then put (sooner ds) (orderTo ds phase c k) k else orderTo ds phase c k
theorem putAt_length (l : List Nat) (x k : Nat) : (putAt l x k).length = l.length + 1 := by
  simp [putAt]; omega
theorem putAt_get (l : List Nat) (x k : Nat) (h : k ≤ l.length) : (putAt l x k).getD k 0 = x := by
  unfold putAt
  rw [List.getD_eq_getElem?_getD, List.getElem?_append_right (by simp; omega)]
  simp [Nat.min_eq_left h]
theorem putAt_get_pred (l : List Nat) (x k : Nat) (h : k < l.length) : (putAt l x (k + 1)).getD k 0 = l.getD k 0 := by
  unfold putAt
  rw [List.getD_eq_getElem?_getD, List.getElem?_append_left (by simp; omega)]
  simp [List.getD_eq_getElem?_getD]
/-- One exchange takes x one place further down. -/
theorem putAt_swap (l : List Nat) (x k : Nat) (h : k < l.length) : ((putAt l x (k + 1)).set (k + 1) (l.getD k 0)).set k x = putAt l x k := by
  have h1 : l.take (k + 1) = l.take k ++ [l.getD k 0] := by
    rw [List.take_succ_eq_append_getElem h]; simp [List.getD_eq_getElem?_getD, h]
  have h2 : l.drop k = l.getD k 0 :: l.drop (k + 1) := by
    rw [List.drop_eq_getElem_cons h]; simp [List.getD_eq_getElem?_getD, h]
  unfold putAt
  rw [h1, h2]
  have hl : (l.take k).length = k := by simp; omega
  rw [List.append_assoc, List.set_append_right _ _ (by omega), hl, show k + 1 - k = 1 by omega]
  rw [List.set_append_right _ _ (by omega), hl]
  simp
theorem mem_putAt {l : List Nat} {x k y : Nat} (h : y ∈ putAt l x k) : y = x ∨ y ∈ l := by
  unfold putAt at h
  rw [List.mem_append, List.mem_cons] at h
  rcases h with h | h | h
  · exact .inr (List.mem_of_mem_take h)
  · exact .inl h
  · exact .inr (List.mem_of_mem_drop h)
theorem orderTo_lt (ds : List Deed) (phase : Int) (c : Cmd) : ∀ k, ∀ y ∈ orderTo ds phase c k, y < k
  | 0, y, h => by simp [orderTo] at h
  | k + 1, y, h => by
    have ih := orderTo_lt ds phase c k
    unfold orderTo at h
    split at h
    · rcases mem_putAt h with rfl | h
      · omega
      · have := ih y h; omega
    · have := ih y h; omega
theorem orderTo_length (ds : List Deed) (phase : Int) (c : Cmd) : ∀ k, (orderTo ds phase c k).length ≤ k
  | 0 => by simp [orderTo]
  | k + 1 => by
    have ih := orderTo_length ds phase c k
    unfold orderTo
    split
    · rw [put, putAt_length]; omega
    · omega
theorem orderTo_yes {ds : List Deed} {phase : Int} {c : Cmd} {k : Nat} {d : Deed} (h : ds[k]? = some d) (hf : fits d phase c = true) : orderTo ds phase c (k + 1) = put (sooner ds) (orderTo ds phase c k) k := by
  show (if _ then _ else _) = _
  rw [if_pos (by rw [h]; simp [hf])]
theorem orderTo_no {ds : List Deed} {phase : Int} {c : Cmd} {k : Nat} {d : Deed} (h : ds[k]? = some d) (hf : fits d phase c = false) : orderTo ds phase c (k + 1) = orderTo ds phase c k := by
  show (if _ then _ else _) = _
  rw [if_neg (by rw [h]; simp [hf])]
/-- The rules of one rank among the first i that are for a command. -/
def grp (ds : List Deed) (phase : Int) (c : Cmd) (n : Int) : Nat → List Nat
  | 0 => []
  | i + 1 => if ((ds[i]?).map fun d => decide (rank d = n) && fits d phase c) = some true then grp ds phase c n i ++ [i] else grp ds phase c n i
/-- The rules of the j greatest ranks, the greatest first. -/
def upper (ds : List Deed) (phase : Int) (c : Cmd) : Nat → List Nat
  | 0 => []
  | j + 1 => upper ds phase c j ++ grp ds phase c (3 - j) ds.length
theorem grp_yes {ds : List Deed} {phase : Int} {c : Cmd} {n : Int} {i : Nat} {d : Deed} (h : ds[i]? = some d) (hr : rank d = n) (hf : fits d phase c = true) : grp ds phase c n (i + 1) = grp ds phase c n i ++ [i] := by
  show (if _ then _ else _) = _
  rw [if_pos (by rw [h]; simp [hf, hr])]
theorem grp_rank {ds : List Deed} {phase : Int} {c : Cmd} {n : Int} {i : Nat} {d : Deed} (h : ds[i]? = some d) (hr : ¬ rank d = n) : grp ds phase c n (i + 1) = grp ds phase c n i := by
  show (if _ then _ else _) = _
  rw [if_neg (by rw [h]; simp [hr])]
theorem grp_no {ds : List Deed} {phase : Int} {c : Cmd} {n : Int} {i : Nat} {d : Deed} (h : ds[i]? = some d) (hf : fits d phase c = false) : grp ds phase c n (i + 1) = grp ds phase c n i := by
  show (if _ then _ else _) = _
  rw [if_neg (by rw [h]; simp [hf])]
theorem grp_length (ds : List Deed) (phase : Int) (c : Cmd) (n : Int) : ∀ i, (grp ds phase c n i).length ≤ i
  | 0 => by simp [grp]
  | i + 1 => by
    have ih := grp_length ds phase c n i
    unfold grp
    split
    · simp; omega
    · omega
theorem upper_length (ds : List Deed) (phase : Int) (c : Cmd) : ∀ j, (upper ds phase c j).length ≤ j * ds.length
  | 0 => by simp [upper]
  | j + 1 => by
    have ih := upper_length ds phase c j
    have := grp_length ds phase c (3 - j) ds.length
    simp only [upper, List.length_append]
    rw [Nat.add_mul]; omega
end Go.Proofs.Ytpbhlphemkdljaa.RuleP
