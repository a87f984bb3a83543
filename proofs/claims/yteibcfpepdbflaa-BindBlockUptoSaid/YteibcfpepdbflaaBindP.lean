/- Expressions and statements ar plain trees; what binding them comes to, in the program's way and in the reference's; both are the same for trees of a right source. No walk here. -/
import Derived.Test.YteibcfpepdbflaaBytesP
namespace Go.Proofs.Yteibcfpepdbflaa.BindP
open Go

abbrev S := List UInt8
inductive Pe where
  | mk (k o n : Int) (s : S) (ar : List Pe)
inductive Ps where
  | mk (k n : Int) (s : S) (ar : List Pe) (b e : List Ps)
abbrev Nm := S × Int × Int

def place : List S → S → Int
  | [], _ => -1
  | x :: l, s => if 0 ≤ place l s then place l s + 1 else if x = s then 0 else -1
theorem place_ge : ∀ (l : List S) (s : S), -1 ≤ place l s
  | [], _ => by unfold place; omega
  | x :: l, s => by have := place_ge l s; unfold place; split <;> (try split) <;> omega
theorem place_lt : ∀ (l : List S) (s : S), place l s < l.length
  | [], _ => by unfold place; simp
  | x :: l, s => by have := place_lt l s; unfold place; rw [List.length_cons]; split <;> (try split) <;> omega
theorem place_none : ∀ (l : List S) (s : S), s ∉ l → place l s = -1
  | [], _, _ => rfl
  | x :: l, s, h => by
    have h2 := place_none l s (fun c => h (List.mem_cons_of_mem _ c))
    unfold place
    rw [h2, if_neg (by omega), if_neg (fun c => h (by rw [c]; exact List.mem_cons_self ..))]
theorem place_last : ∀ (l : List S) (s : S) (i : Nat), l[i]? = some s → (∀ j x, i < j → l[j]? = some x → x ≠ s) → place l s = i
  | [], _, i, h, _ => by simp at h
  | x :: l, s, 0, h, hl => by
    have h2 := place_none l s (fun c => by
      obtain ⟨j, hj, e⟩ := List.getElem_of_mem c
      exact hl (j + 1) s (by omega) (by rw [List.getElem?_cons_succ, List.getElem?_eq_getElem hj, e]) rfl)
    simp only [List.getElem?_cons_zero, Option.some.injEq] at h
    unfold place
    rw [h2, if_neg (by omega), if_pos h]
    rfl
  | x :: l, s, i + 1, h, hl => by
    have h2 := place_last l s i (by rw [List.getElem?_cons_succ] at h; exact h) (fun j y hj hy => hl (j + 1) y (by omega) (by rw [List.getElem?_cons_succ]; exact hy))
    unfold place
    rw [h2, if_pos (by omega)]
    omega

def findN (t : List Nm) (s : S) : Option Nm := t.find? (fun x => decide (x.1 = s))
def ofN (t : List Nm) (k : Int) (s : S) : Int := match findN t s with
  | some x => if x.2.1 = k then x.2.2 else 0
  | none => 0
def nkind (t : List Nm) (s : S) : Int := match findN t s with
  | some x => x.2.1
  | none => 0
def nnum (t : List Nm) (s : S) : Int := match findN t s with
  | some x => x.2.2
  | none => 0

def exI (t : List Nm) (tx lo : List S) (k o n : Int) (s : S) (ar : List Pe) : Pe :=
  if k = 2 then .mk 19 0 (place tx s) [] ar
  else if k = 7 then .mk 16 0 (ofN t 1 s) [] ar
  else if k = 8 then .mk 17 0 (ofN t 2 s) [] ar
  else if k = 9 then .mk 18 0 (ofN t 6 s) [] ar
  else if k = 3 then
    if 0 ≤ place lo s then .mk 15 0 (place lo s) [] ar
    else if nkind t s = 3 then .mk 14 0 (nnum t s) [] ar
    else .mk 1 0 (nnum t s) [] ar
  else .mk k o n s ar
def exR (t : List Nm) (tx lo : List S) (k o n : Int) (s : S) (ar : List Pe) : Pe :=
  if k = 2 then .mk 19 o (place tx s) [] ar
  else if k = 7 then .mk 16 o (ofN t 1 s) [] ar
  else if k = 8 then .mk 17 o (ofN t 2 s) [] ar
  else if k = 9 then .mk 18 o (ofN t 6 s) [] ar
  else if k = 3 then
    if 0 ≤ place lo s then .mk 15 o (place lo s) [] ar
    else if nkind t s = 3 then .mk 14 o (nnum t s) [] ar
    else .mk 1 o (nnum t s) [] ar
  else .mk k o n [] ar

abbrev Ex1 := Int → Int → Int → S → List Pe → Pe
mutual
def bindE (f : Ex1) : Pe → Pe
  | .mk k o n s ar => f k o n s (bindEs f ar)
def bindEs (f : Ex1) : List Pe → List Pe
  | [] => []
  | a :: ar => bindE f a :: bindEs f ar
end
theorem bindEs_map (f : Ex1) : ∀ l, bindEs f l = l.map (bindE f)
  | [] => by simp [bindEs]
  | a :: l => by simp [bindEs, bindEs_map f l]

def okX (k o : Int) (s : S) : Prop := ((k = 2 ∨ k = 3 ∨ k = 7 ∨ k = 8 ∨ k = 9) ∧ o = 0) ∨ (k ≠ 2 ∧ k ≠ 3 ∧ k ≠ 7 ∧ k ≠ 8 ∧ k ≠ 9 ∧ s = [])
mutual
def okE : Pe → Prop
  | .mk k o _ s ar => okX k o s ∧ okEs ar
def okEs : List Pe → Prop
  | [] => True
  | a :: ar => okE a ∧ okEs ar
end
theorem okEs_mem : ∀ (l : List Pe), (∀ a ∈ l, okE a) → okEs l
  | [], _ => trivial
  | a :: l, h => ⟨h a (List.mem_cons_self ..), okEs_mem l fun b hb => h b (List.mem_cons_of_mem _ hb)⟩
theorem ex_eq {t : List Nm} {tx lo : List S} {k o n : Int} {s : S} {ar : List Pe} (h : okX k o s) : exI t tx lo k o n s ar = exR t tx lo k o n s ar := by
  unfold exI exR
  rcases h with ⟨_, rfl⟩ | ⟨h1, h2, h3, h4, h5, rfl⟩
  · repeat' split
    all_goals first | rfl | (rename_i h; omega) | skip
    all_goals (exfalso; omega)
  · rw [if_neg h1, if_neg h3, if_neg h4, if_neg h5, if_neg h2, if_neg h1, if_neg h3, if_neg h4, if_neg h5, if_neg h2]
mutual
theorem bind_eq {t : List Nm} {tx lo : List S} : ∀ e : Pe, okE e → bindE (exI t tx lo) e = bindE (exR t tx lo) e
  | .mk k o n s ar, h => by
    unfold okE at h
    unfold bindE
    rw [binds_eq ar h.2, ex_eq h.1]
theorem binds_eq {t : List Nm} {tx lo : List S} : ∀ l : List Pe, okEs l → bindEs (exI t tx lo) l = bindEs (exR t tx lo) l
  | [], _ => by simp [bindEs]
  | a :: l, h => by
    unfold okEs at h
    unfold bindEs
    rw [bind_eq a h.1, binds_eq l h.2]
end

def mine (k : Int) : Nat := if k = 2 then 1 else if k = 11 then 2 else 0
mutual
def locs1 : Ps → Nat
  | .mk k _ _ _ b e => mine k + (locs b + locs e)
def locs : List Ps → Nat
  | [] => 0
  | a :: l => locs1 a + locs l
end

def kd (lo : List S) (k : Int) (s : S) : Int := if k = 3 then (if 0 ≤ place lo s then 3 else 23) else k
def nm (t : List Nm) (lo : List S) (k n : Int) (s : S) : Int :=
  if k = 2 then lo.length else if k = 11 then lo.length
  else if k = 3 then (if 0 ≤ place lo s then place lo s else ofN t 3 s)
  else if k = 4 then ofN t 2 s
  else if k = 5 then ofN t 1 s else if k = 6 then ofN t 1 s
  else if k = 17 then ofN t 7 s else if k = 18 then ofN t 7 s else n
def ext (k : Int) (s : S) : List S := if k = 2 then [s] else if k = 11 then [s, []] else []
def blank (m : Nat) (l : List S) : List S := l.take m ++ List.replicate (l.length - m) []
theorem blank_len (m : Nat) (l : List S) : (blank m l).length = l.length := by
  unfold blank
  rw [List.length_append, List.length_take, List.length_replicate]
  omega
theorem blank_app (a b : List S) : blank a.length (a ++ b) = a ++ List.replicate b.length [] := by
  unfold blank
  rw [List.take_left, List.length_append, Nat.add_sub_cancel_left]
mutual
def stI (t : List Nm) (tx lo : List S) : Ps → Ps × List S
  | .mk k n s ar b e =>
    let lo1 := lo ++ ext k s
    let rb := rowI t tx lo1 b
    let lo2 := blank lo1.length rb.2
    let re := rowI t tx lo2 e
    let lo3 := blank lo2.length re.2
    (.mk (kd lo k s) (nm t lo k n s) [] (bindEs (exI t tx lo) ar) rb.1 re.1, if k = 11 then lo3.set lo.length [] else lo3)
def rowI (t : List Nm) (tx lo : List S) : List Ps → List Ps × List S
  | [] => ([], lo)
  | a :: l => ((stI t tx lo a).1 :: (rowI t tx (stI t tx lo a).2 l).1, (rowI t tx (stI t tx lo a).2 l).2)
end
mutual
def stR (t : List Nm) (tx lo : List S) : Ps → Ps × List S
  | .mk k n s ar b e =>
    if k = 2 then (.mk 2 lo.length [] (bindEs (exR t tx lo) ar) [] [], lo ++ [s])
    else if k = 3 then (if 0 ≤ place lo s then .mk 3 (place lo s) [] (bindEs (exR t tx lo) ar) [] [] else .mk 23 (ofN t 3 s) [] (bindEs (exR t tx lo) ar) [] [], lo)
    else if k = 4 then (.mk k (ofN t 2 s) [] (bindEs (exR t tx lo) ar) [] [], lo)
    else if k = 5 then (.mk k (ofN t 1 s) [] (bindEs (exR t tx lo) ar) [] [], lo)
    else if k = 6 then (.mk k (ofN t 1 s) [] (bindEs (exR t tx lo) ar) [] [], lo)
    else if k = 17 then (.mk k (ofN t 7 s) [] (bindEs (exR t tx lo) ar) [] [], lo)
    else if k = 18 then (.mk k (ofN t 7 s) [] (bindEs (exR t tx lo) ar) [] [], lo)
    else if k = 11 then (.mk k lo.length [] (bindEs (exR t tx lo) ar) (rowR t tx (lo ++ [s] ++ List.replicate 1 []) b).1 [], lo ++ List.replicate (2 + locs b) [])
    else (.mk k n [] (bindEs (exR t tx lo) ar) (rowR t tx lo b).1 (rowR t tx (lo ++ List.replicate (locs b) []) e).1, lo ++ List.replicate (locs b + locs e) [])
def rowR (t : List Nm) (tx lo : List S) : List Ps → List Ps × List S
  | [] => ([], lo)
  | a :: l => ((stR t tx lo a).1 :: (rowR t tx (stR t tx lo a).2 l).1, (rowR t tx (stR t tx lo a).2 l).2)
end

def okK (k : Int) (b e : List Ps) : Prop := ((k = 2 ∨ k = 3 ∨ k = 4 ∨ k = 5 ∨ k = 6 ∨ k = 17 ∨ k = 18) → b = []) ∧ ((k = 2 ∨ k = 3 ∨ k = 4 ∨ k = 5 ∨ k = 6 ∨ k = 17 ∨ k = 18 ∨ k = 11) → e = [])
mutual
def okS : Ps → Prop
  | .mk k _ _ ar b e => okK k b e ∧ okEs ar ∧ okB b ∧ okB e
def okB : List Ps → Prop
  | [] => True
  | a :: l => okS a ∧ okB l
end
mutual
theorem stI_ext {t : List Nm} {tx : List S} : ∀ (a : Ps) (lo : List S), ∃ q, (stI t tx lo a).2 = lo ++ q ∧ q.length = locs1 a
  | .mk k n s ar b e, lo => by
    unfold stI locs1
    obtain ⟨q1, h1, l1⟩ := rowI_ext (t := t) (tx := tx) b (lo ++ ext k s)
    simp only [h1, blank_app]
    obtain ⟨q2, h2, l2⟩ := rowI_ext (t := t) (tx := tx) e (lo ++ ext k s ++ List.replicate q1.length [])
    simp only [h2, blank_app]
    have hx : (ext k s).length = mine k := by unfold ext mine; split <;> (try split) <;> rfl
    have hl : lo ++ ext k s ++ List.replicate q1.length [] ++ List.replicate q2.length [] = lo ++ (ext k s ++ (List.replicate q1.length [] ++ List.replicate q2.length [])) := by simp only [List.append_assoc]
    rw [hl]
    by_cases hk : k = 11
    · rw [if_pos hk, List.set_append_right _ _ (Nat.le_refl _)]
      exact ⟨_, rfl, by rw [List.length_set, List.length_append, List.length_append, List.length_replicate, List.length_replicate, hx, l1, l2]⟩
    · rw [if_neg hk]
      exact ⟨_, rfl, by rw [List.length_append, List.length_append, List.length_replicate, List.length_replicate, hx, l1, l2]⟩
theorem rowI_ext {t : List Nm} {tx : List S} : ∀ (l : List Ps) (lo : List S), ∃ q, (rowI t tx lo l).2 = lo ++ q ∧ q.length = locs l
  | [], lo => ⟨[], by simp [rowI], by simp [locs]⟩
  | a :: l, lo => by
    unfold rowI locs
    obtain ⟨q1, h1, l1⟩ := stI_ext (t := t) (tx := tx) a lo
    rw [h1]
    obtain ⟨q2, h2, l2⟩ := rowI_ext (t := t) (tx := tx) l (lo ++ q1)
    exact ⟨q1 ++ q2, by simp only [h2, List.append_assoc], by rw [List.length_append, l1, l2]⟩
end
theorem kd_not {lo : List S} {k : Int} {s : S} (h : k ≠ 3) : kd lo k s = k := by unfold kd; rw [if_neg h]
theorem rep_rep (a b : Nat) : List.replicate a ([] : S) ++ List.replicate b [] = List.replicate (a + b) [] := List.replicate_append_replicate
mutual
theorem st_eq {t : List Nm} {tx : List S} : ∀ (a : Ps) (lo : List S), okS a → stI t tx lo a = stR t tx lo a
  | .mk k n s ar b e, lo, h => by
    unfold okS at h
    obtain ⟨hk, ha, hb, he⟩ := h
    unfold stI stR
    rw [binds_eq ar ha]
    obtain ⟨q1, h1, l1⟩ := rowI_ext (t := t) (tx := tx) b (lo ++ ext k s)
    simp only [h1, blank_app]
    obtain ⟨q2, h2, l2⟩ := rowI_ext (t := t) (tx := tx) e (lo ++ ext k s ++ List.replicate q1.length [])
    simp only [h2, blank_app]
    have r1 := row_eq (t := t) (tx := tx) b (lo ++ ext k s) hb
    have r2 := row_eq (t := t) (tx := tx) e (lo ++ ext k s ++ List.replicate q1.length []) he
    rw [r1, r2, l1, l2]
    have nb : (k = 2 ∨ k = 3 ∨ k = 4 ∨ k = 5 ∨ k = 6 ∨ k = 17 ∨ k = 18) → b = [] ∧ e = [] := fun c => ⟨hk.1 c, hk.2 (by omega)⟩
    by_cases c2 : k = 2
    · obtain ⟨rfl, rfl⟩ := nb (by omega)
      subst c2
      simp [rowR, locs, ext, nm, kd]
    by_cases c3 : k = 3
    · obtain ⟨rfl, rfl⟩ := nb (by omega)
      subst c3
      by_cases hp : 0 ≤ place lo s <;> simp [rowR, locs, ext, nm, kd, hp]
    by_cases c4 : k = 4
    · obtain ⟨rfl, rfl⟩ := nb (by omega)
      subst c4
      simp [rowR, locs, ext, nm, kd]
    by_cases c5 : k = 5
    · obtain ⟨rfl, rfl⟩ := nb (by omega)
      subst c5
      simp [rowR, locs, ext, nm, kd]
    by_cases c6 : k = 6
    · obtain ⟨rfl, rfl⟩ := nb (by omega)
      subst c6
      simp [rowR, locs, ext, nm, kd]
    by_cases c17 : k = 17
    · obtain ⟨rfl, rfl⟩ := nb (by omega)
      subst c17
      simp [rowR, locs, ext, nm, kd]
    by_cases c18 : k = 18
    · obtain ⟨rfl, rfl⟩ := nb (by omega)
      subst c18
      simp [rowR, locs, ext, nm, kd]
    by_cases c11 : k = 11
    · obtain rfl := hk.2 (by omega)
      subst c11
      have hl : (lo ++ [s, ([] : S)] ++ List.replicate (locs b) [] ++ List.replicate 0 []).set lo.length [] = lo ++ List.replicate (2 + locs b) [] := by
        rw [List.append_assoc, List.append_assoc, List.set_append_right _ _ (Nat.le_refl _), Nat.sub_self, Nat.add_comm 2]
        simp [List.replicate_succ]
      simp [rowR, locs, ext, nm, kd] at hl ⊢
      exact hl
    · have hx : ext k s = [] := by unfold ext; rw [if_neg c2, if_neg c11]
      have hn : nm t lo k n s = n := by unfold nm; rw [if_neg c2, if_neg c11, if_neg c3, if_neg c4, if_neg c5, if_neg c6, if_neg c17, if_neg c18]
      rw [if_neg c2, if_neg c3, if_neg c4, if_neg c5, if_neg c6, if_neg c17, if_neg c18, if_neg c11, if_neg c11, hx, hn, kd_not c3, List.append_nil, List.append_assoc, rep_rep]
theorem row_eq {t : List Nm} {tx : List S} : ∀ (l : List Ps) (lo : List S), okB l → rowI t tx lo l = rowR t tx lo l
  | [], lo, _ => by simp [rowI, rowR]
  | a :: l, lo, h => by
    unfold okB at h
    unfold rowI rowR
    rw [st_eq a lo h.1, row_eq l _ h.2]
end

def wth (out : List S) (s : S) : List S := if s ∈ out then out else out ++ [s]
def saidA (ar : List Pe) : List S := ar.filterMap fun | .mk k _ _ s _ => if k = 2 then some s else none
mutual
def said1 : Ps → List S
  | .mk _ _ _ ar b e => saidA ar ++ (said b ++ said e)
def said : List Ps → List S
  | [] => []
  | a :: l => said1 a ++ said l
end
theorem wth_nodup {out : List S} {s : S} (h : out.Nodup) : (wth out s).Nodup := by
  unfold wth
  split
  · exact h
  · rename_i hs
    rw [List.nodup_append]
    exact ⟨h, by simp, fun a ha b hb e => hs (by simp at hb; rw [← hb, ← e]; exact ha)⟩
theorem wths_nodup : ∀ (l : List S) {out : List S}, out.Nodup → (l.foldl wth out).Nodup
  | [], _, h => h
  | _ :: l, _, h => wths_nodup l (wth_nodup h)
theorem wth_len (out : List S) (s : S) : (wth out s).length ≤ out.length + 1 := by
  unfold wth
  split
  · omega
  · simp
theorem wths_len : ∀ (l out : List S), (l.foldl wth out).length ≤ out.length + l.length
  | [], out => by simp
  | s :: l, out => by
    have h := wths_len l (wth out s)
    have h2 := wth_len out s
    rw [List.foldl_cons, List.length_cons]
    omega
end Go.Proofs.Yteibcfpepdbflaa.BindP
