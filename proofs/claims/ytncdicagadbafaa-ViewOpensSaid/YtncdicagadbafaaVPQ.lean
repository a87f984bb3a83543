/- What is reached from a thing, lit, carried, seen, in plain Lean. No program here. What a right world says of what is seen in it, and what of it is still seen when all is opened, in plain Lean. No walk here. -/
import Derived.Test.YtncdicagadbafaaVB
import Derived.Test.YtncdicagadbafaaRngB
namespace Go.Proofs.Ytncdicagadbafaa.ViewP
open Go Go.RowKit NestP NestW RngB MoveP MvA AttrP AttrQ

def showsB (g : Wd) (x : Int) : Bool := !hasB g x 2 || hasB g x 1
/-- What is reached from a thing, so deep at most. -/
def reach (g : Wd) : Nat → Int → List Int
  | 0, _ => []
  | k + 1, x => (kids g x).flatMap fun c => if hasB g c 3 = true then [] else c :: (if showsB g c = true then reach g k c else [])
def here (g : Wd) : Int := top g 1
def litB (g : Wd) : Bool := hasB g (here g) 0 || (reach g g.n (here g)).any fun e => hasB g e 0
def carried (g : Wd) : List Int := reach g g.n 1
def visible (g : Wd) : List Int := if litB g = true then (reach g g.n (here g)).filter (fun e => e != 1) else carried g
def seesB (g : Wd) (x : Int) : Bool := (visible g).contains x || (x == 1) || (x == here g)
/-- A list of children, as far as it is gone through. -/
def fore (g : Wd) (k : Nat) (l : List Int) : List Int := l.flatMap fun c => if hasB g c 3 = true then [] else c :: (if showsB g c = true then reach g k c else [])
theorem fore_snoc (g : Wd) (k : Nat) (l : List Int) (c : Int) : fore g k (l ++ [c]) = fore g k l ++ (if hasB g c 3 = true then [] else c :: (if showsB g c = true then reach g k c else [])) := by
  unfold fore; simp [List.flatMap_append]
theorem reach_more {g : Wd} (hg : NestP.Good g) : ∀ (j k : Nat) (x : Int), g.n ≤ j + (ups g x).length → j ≤ k → reach g k x = reach g j x
  | 0, k, x, h, _ => by have := hg.ups_len x; have := hg.pos; omega
  | j + 1, 0, _, _, hk => by omega
  | j + 1, k + 1, x, h, hk => by
    rw [reach, reach]
    have : ∀ c ∈ kids g x, (if hasB g c 3 = true then [] else c :: (if showsB g c = true then reach g k c else [])) = (if hasB g c 3 = true then [] else c :: (if showsB g c = true then reach g j c else [])) := fun c hc => by
      rw [reach_more hg j k c (by rw [hg.depth_kid hc]; omega) (by omega)]
    rw [List.flatMap_def, List.flatMap_def, List.map_congr_left this]
theorem reach_sub (g : Wd) : ∀ (k : Nat) (x : Int), (reach g k x).Sublist (below g k x)
  | 0, _ => by simp [reach, below]
  | k + 1, x => by
    rw [reach, below]
    generalize kids g x = l
    induction l with
    | nil => simp
    | cons c l ih =>
      rw [List.flatMap_cons, List.flatMap_cons]
      refine List.Sublist.append ?_ ih
      split
      · exact List.nil_sublist _
      · split
        · exact (reach_sub g k c).cons_cons c
        · exact (List.nil_sublist _).cons_cons c
theorem fore_sub (g : Wd) (k : Nat) : ∀ l : List Int, (fore g k l).Sublist (flat g k l)
  | [] => by simp [fore, flat]
  | c :: l => by
    have ih := fore_sub g k l
    unfold fore flat at ih ⊢
    rw [List.flatMap_cons, List.flatMap_cons]
    refine List.Sublist.append ?_ ih
    split
    · exact List.nil_sublist _
    · split
      · exact (reach_sub g k c).cons_cons c
      · exact (List.nil_sublist _).cons_cons c
theorem reach_part {g : Wd} (hg : NestP.Good g) (x : Int) : reach g g.n x = fore g g.n (kids g x) := by
  have h1 := reach_more hg g.n (g.n + 1) x (by omega) (by omega)
  rw [← h1]; rfl
theorem reach_mem {g : Wd} (hg : NestP.Good g) : ∀ (k : Nat) (x : Int), ∀ y ∈ reach g k x, hasB g y 3 = false ∧ (at' g.pa y = x ∨ (at' g.pa y ∈ reach g k x ∧ showsB g (at' g.pa y) = true))
  | 0, _, y, h => by simp [reach] at h
  | k + 1, x, y, h => by
    rw [reach, List.mem_flatMap] at h
    obtain ⟨c, hc, hy⟩ := h
    have hT : isT g.n x = true := by
      cases hx : isT g.n x with
      | true => rfl
      | false => unfold kids at hc; rw [if_neg (by rw [hx]; simp)] at hc; simp at hc
    have hx := isT_iff.1 hT
    have hp := hg.kid x hx.1 hx.2 c hc
    split at hy
    · simp at hy
    · rename_i hh
      have hin : ∀ z, z ∈ c :: (if showsB g c = true then reach g k c else []) → z ∈ reach g (k + 1) x := fun z hz => by
        rw [reach, List.mem_flatMap]
        exact ⟨c, hc, by rw [if_neg hh]; exact hz⟩
      rcases List.mem_cons.1 hy with rfl | hy
      · exact ⟨by simpa using hh, .inl hp⟩
      · split at hy
        · rename_i hs
          obtain ⟨h1, h2⟩ := reach_mem hg k c y hy
          refine ⟨h1, .inr ?_⟩
          rcases h2 with h2 | ⟨h2, h3⟩
          · rw [h2]; exact ⟨hin c (by simp), hs⟩
          · exact ⟨hin _ (by rw [if_pos hs]; exact List.mem_cons_of_mem _ h2), h3⟩
        · simp at hy
theorem reach_len {g : Wd} (hg : NestP.Good g) (x : Int) : (reach g g.n x).length ≤ g.n :=
  Nat.le_trans (reach_sub g g.n x).length_le (RngB.below_len hg (by omega))
theorem reach_nodup {g : Wd} (hg : NestP.Good g) (x : Int) : (reach g g.n x).Nodup := (below_nodup hg g.n x (by omega)).sublist (reach_sub g g.n x)
end Go.Proofs.Ytncdicagadbafaa.ViewP

namespace Go.Proofs.Ytncdicagadbafaa.ViewQ
open Go Go.RowKit NestP NestW RngB MoveP MvA AttrP AttrQ ViewP TabD TabB TabR

theorem last_suffix {l m : List Int} (h : l <:+ m) (hne : l ≠ []) : m.getLastD 0 = l.getLastD 0 := by
  obtain ⟨p, rfl⟩ := h
  cases l with
  | nil => exact absurd rfl hne
  | cons a l =>
    simp only [List.getLastD_eq_getLast?, List.getLast?_append]
    cases h : (a :: l).getLast? with
    | none => simp at h
    | some v => rfl
theorem ups_ne {g : Wd} (hG : NestP.Good g) {x : Int} (hx : isT g.n x = true) : ups g x ≠ [] := by rw [hG.ups_cons hx]; simp
theorem top_same {g : Wd} (hG : NestP.Good g) {x y : Int} (hx : isT g.n x = true) (h : x ∈ ups g y) : top g y = top g x := last_suffix (ups_suffix hG _ h) (ups_ne hG hx)
theorem top_mem {g : Wd} (hG : NestP.Good g) {x : Int} (hx : isT g.n x = true) : top g x ∈ ups g x := by
  unfold top
  have := ups_ne hG hx
  revert this
  cases ups g x with
  | nil => intro h; exact absurd rfl h
  | cons a l => intro _; rw [List.getLastD_cons]; exact List.getLastD_mem_cons
theorem top_isT {g : Wd} (hG : NestP.Good g) {x : Int} (hx : isT g.n x = true) : isT g.n (top g x) = true := chain_isT _ _ _ (top_mem hG hx)

/-- What a right world of fitting tables gives here. -/
structure Sane (g : Wd) : Prop where
  good : NestP.Good g
  fl : Fl g
  lo : 3 ≤ g.n
  hi : g.n ≤ 128
  hereT : isT g.n (here g) = true
  here1 : here g ≠ 1
  oneT : isT g.n 1 = true
  topH : top g (here g) = here g
  inH : (1 : Int) ∈ below g g.n (here g)
theorem sane {t : TbV} {g : Wd} (h : rightB t g = true) (hT : ThP t) : Sane g := by
  obtain ⟨_, h1, _, _, _, h5, _, _, _, hr⟩ := right_iff.1 h
  have hn : g.n = t.th.n := h1
  have hG := good_of h5
  have o : isT g.n 1 = true := isT_iff.2 ⟨by omega, by have := hT.1; omega⟩
  have hH := top_isT hG o
  have hm := top_mem hG o
  have hne : here g ≠ 1 := by
    intro e
    simp only [Bool.and_eq_true] at hr
    have hp := hr.2.2.2.2.2.2
    unfold placedB at hp
    rw [Bool.and_eq_true] at hp
    have h2 := hp.2
    rw [show top g 1 = 1 from e] at h2
    unfold roomB at h2
    have h3 := hT.2.2.2
    cases hc : t.th.l[1]? with
    | none => rw [show (1 : Int).toNat = 1 from rfl, hc] at h2; cases h2
    | some x => rw [show (1 : Int).toNat = 1 from rfl, hc] at h2; have := h3 x hc; rw [Option.map_some, Option.getD_some, this] at h2; cases h2
  exact ⟨hG, right_fl h, by rw [hn]; exact hT.1, by rw [hn]; exact hT.2.1, hH, hne, o, (top_same hG hH hm).symm, (mem_below hG g.n (here g) 1 (by omega)).2 ⟨hH, o, fun e => hne e.symm, hm⟩⟩
section
variable {g : Wd} (s : Sane g)
include s
theorem reach_in {x y : Int} (h : y ∈ reach g g.n x) : isT g.n x = true ∧ isT g.n y = true ∧ y ≠ x ∧ x ∈ ups g y := (mem_below s.good g.n x y (by omega)).1 ((reach_sub g g.n x).subset h)
theorem visible_nodup : (visible g).Nodup := by
  unfold visible carried
  split
  · exact (reach_nodup s.good _).filter _
  · exact reach_nodup s.good _
theorem visible_mem {y : Int} (h : y ∈ visible g) : isT g.n y = true ∧ hasB g y 3 = false ∧ top g y = here g ∧ y ≠ 1 := by
  unfold visible carried at h
  split at h
  · obtain ⟨h1, h2⟩ := List.mem_filter.1 h
    obtain ⟨_, a, b, c⟩ := reach_in s h1
    exact ⟨a, (reach_mem s.good _ _ y h1).1, (top_same s.good s.hereT c).trans s.topH, by simpa using h2⟩
  · obtain ⟨_, a, b, c⟩ := reach_in s h
    exact ⟨a, (reach_mem s.good _ _ y h).1, top_same s.good s.oneT c, b⟩
/-- What is around what is seen. -/
theorem visible_up {y : Int} (h : y ∈ visible g) : isT g.n (at' g.pa y) = true ∧ (at' g.pa y = here g ∨ at' g.pa y = 1 ∨ (at' g.pa y ∈ visible g ∧ showsB g (at' g.pa y) = true)) := by
  unfold visible carried at h ⊢
  split at h
  · rename_i hl
    rw [if_pos hl]
    obtain ⟨h1, h2⟩ := List.mem_filter.1 h
    rcases (reach_mem s.good _ _ y h1).2 with e | ⟨e1, e2⟩
    · exact ⟨by rw [e]; exact s.hereT, .inl e⟩
    · refine ⟨(reach_in s e1).2.1, ?_⟩
      by_cases e3 : at' g.pa y = 1
      · exact .inr (.inl e3)
      · exact .inr (.inr ⟨List.mem_filter.2 ⟨e1, by simpa using e3⟩, e2⟩)
  · rename_i hl
    rw [if_neg hl]
    rcases (reach_mem s.good _ _ y h).2 with e | ⟨e1, e2⟩
    · exact ⟨by rw [e]; exact s.oneT, .inr (.inl e)⟩
    · exact ⟨(reach_in s e1).2.1, .inr (.inr ⟨e1, e2⟩)⟩
theorem visible_len : (visible g).length ≤ 128 := by
  unfold visible carried
  split
  · exact Nat.le_trans (List.length_filter_le ..) (Nat.le_trans (reach_len s.good _) s.hi)
  · exact Nat.le_trans (reach_len s.good _) s.hi
end
theorem sees_one (g : Wd) : seesB g 1 = true := by unfold seesB; simp
theorem sees_here (g : Wd) : seesB g (here g) = true := by unfold seesB; simp
theorem visible_dark {g : Wd} (h : litB g = false) : visible g = carried g := by unfold visible; rw [h]; simp

/-- All is opened, nothing is hidden: the flags of the things below k. -/
def opn (m : Int) : Int := up (down m 3) 1
def opens (l : List Int) (k : Nat) : List Int := l.mapIdx fun i m => if 1 ≤ i ∧ i < k then opn m else m
def openG (g : Wd) : Wd := { g with fl := opens g.fl g.fl.length }
theorem opens_len (l : List Int) (k : Nat) : (opens l k).length = l.length := by unfold opens; simp
theorem opens_one (l : List Int) {k : Nat} (h : k ≤ 1) : opens l k = l := by
  unfold opens
  apply List.ext_getElem?
  intro i
  rw [List.getElem?_mapIdx]
  have : ¬ (1 ≤ i ∧ i < k) := by omega
  cases l[i]? with
  | none => rfl
  | some m => simp only [Option.map_some]; rw [if_neg this]
theorem opens_get (l : List Int) (k i : Nat) : (opens l k)[i]? = l[i]?.map (fun m => if 1 ≤ i ∧ i < k then opn m else m) := List.getElem?_mapIdx
theorem opens_set {l : List Int} {k : Nat} (h1 : 1 ≤ k) (hk : k < l.length) : (opens l k).set k (opn l[k]) = opens l (k + 1) := by
  unfold opens
  apply List.ext_getElem?
  intro i
  rw [List.getElem?_set, List.getElem?_mapIdx, List.getElem?_mapIdx, List.length_mapIdx]
  by_cases hi : k = i
  · subst hi
    rw [if_pos rfl, if_pos hk, List.getElem?_eq_getElem hk]
    simp only [Option.map_some]
    rw [if_pos (by omega)]
  · rw [if_neg hi]
    cases l[i]? with
    | none => rfl
    | some m =>
      simp only [Option.map_some]
      by_cases h : 1 ≤ i ∧ i < k
      · rw [if_pos h, if_pos (by omega)]
      · rw [if_neg h, if_neg (by omega)]
theorem opn_bd {m : Int} (h : 0 ≤ m ∧ m ≤ 65535) : 0 ≤ opn m ∧ opn m ≤ 65535 := up_bd (down_bd h (by omega) (by omega)) (by omega) (by omega)
theorem opn_fl {m : Int} (h : 0 ≤ m ∧ m ≤ 65535) {f : Int} (h0 : 0 ≤ f) (h1 : f ≤ 15) : flB (opn m) f = (decide (f = 1) || (!decide (f = 3) && flB m f)) := by
  unfold opn
  rw [fl_up (down_bd h (by omega) (by omega)) (by omega) (by omega) h0 h1, fl_down h (by omega) (by omega) h0 h1]
  have e1 : decide ((1 : Int) = f) = decide (f = 1) := decide_eq_decide.2 ⟨Eq.symm, Eq.symm⟩
  have e3 : decide ((3 : Int) = f) = decide (f = 3) := decide_eq_decide.2 ⟨Eq.symm, Eq.symm⟩
  rw [e1, e3]
theorem opens_fl {g : Wd} (h : Fl g) (k : Nat) : ∀ e ∈ opens g.fl k, 0 ≤ e ∧ e ≤ 65535 := by
  intro e he
  unfold opens at he
  obtain ⟨i, hi, rfl⟩ := List.mem_mapIdx.1 he
  split
  · exact opn_bd (h.2 _ (List.getElem_mem _))
  · exact h.2 _ (List.getElem_mem _)
theorem fl_open {g : Wd} (h : Fl g) : Fl (openG g) := ⟨(opens_len _ _).trans h.1, opens_fl h _⟩
theorem has_open {g : Wd} (h : Fl g) {x f : Int} (h0 : 0 ≤ f) (h1 : f ≤ 15) (hx : isT g.n x = true) : hasB (openG g) x f = (decide (f = 1) || (!decide (f = 3) && hasB g x f)) := by
  have hx2 := isT_iff.1 hx
  obtain ⟨k, rfl⟩ := Int.eq_ofNat_of_zero_le (show 0 ≤ x by omega)
  have hk : k < g.fl.length := by rw [h.1]; omega
  have hk2 : k < (opens g.fl g.fl.length).length := by rw [opens_len]; exact hk
  have e1 : askN g.n (k : Int) f = 0 := ask_ok.2 ⟨hx, h0, h1⟩
  have e2 : at' (openG g).fl (k : Int) = opn g.fl[k] := by
    show at' (opens g.fl g.fl.length) (k : Int) = _
    rw [at_lt hk2]
    have h3 := opens_get g.fl g.fl.length k
    rw [List.getElem?_eq_getElem hk, List.getElem?_eq_getElem hk2, Option.map_some, if_pos (by omega)] at h3
    injection h3
  unfold hasB
  rw [show (openG g).n = g.n from rfl, e1, e2, at_lt hk, opn_fl (h.2 _ (List.getElem_mem _)) h0 h1]
  simp
theorem has_out {g : Wd} {x f : Int} (hx : isT g.n x = false) : hasB g x f = false := by
  unfold hasB askN
  rw [hx]
  simp
section
variable {g : Wd} (s : Sane g)
include s
theorem hid_open (x : Int) : hasB (openG g) x 3 = false := by
  cases hx : isT g.n x with
  | true => rw [has_open s.fl (by omega) (by omega) hx]; rfl
  | false => exact has_out (g := openG g) hx
theorem shows_open (x : Int) : showsB (openG g) x = true := by
  unfold showsB
  cases hx : isT g.n x with
  | true => rw [has_open s.fl (f := 1) (by omega) (by omega) hx]; simp
  | false => rw [has_out (g := openG g) (f := 2) hx]; rfl
theorem lit_open (x : Int) : hasB (openG g) x 0 = hasB g x 0 := by
  cases hx : isT g.n x with
  | true => rw [has_open s.fl (by omega) (by omega) hx]; simp
  | false => rw [has_out (g := openG g) hx, has_out hx]
theorem reach_open : ∀ (k : Nat) (x : Int), reach (openG g) k x = below g k x
  | 0, _ => rfl
  | k + 1, x => by
    rw [reach, below]
    show (kids g x).flatMap _ = _
    congr 1
    funext c
    rw [if_neg (by rw [hid_open s]; simp), if_pos (shows_open s c), reach_open k c]
theorem good_open : NestP.Good (openG g) := ⟨s.good.pos, s.good.chl, s.good.nel, s.good.pa0, s.good.ch0, s.good.ne0, s.good.par, s.good.rut, s.good.kid, s.good.nod, s.good.fin, s.good.mem, s.good.acy⟩
omit s in
theorem below_open (g : Wd) : ∀ (k : Nat) (x : Int), below (openG g) k x = below g k x
  | 0, _ => rfl
  | k + 1, x => by
    rw [below, below]
    show (kids g x).flatMap _ = _
    congr 1
    funext c
    rw [below_open g k c]
theorem sane_open : Sane (openG g) := ⟨good_open s, fl_open s.fl, s.lo, s.hi, s.hereT, s.here1, s.oneT, s.topH, (below_open g g.n (here g)).symm ▸ s.inH⟩
theorem litB_open (h : litB g = true) : litB (openG g) = true := by
  unfold litB at h ⊢
  rw [Bool.or_eq_true] at h ⊢
  rw [show here (openG g) = here g from rfl, show (openG g).n = g.n from rfl]
  rcases h with h | h
  · exact .inl ((lit_open s (here g)).trans h)
  · right
    obtain ⟨e, he, h2⟩ := List.any_eq_true.1 h
    refine List.any_eq_true.2 ⟨e, ?_, (lit_open s e).trans h2⟩
    rw [reach_open s]
    exact (reach_sub g _ _).subset he
theorem visible_open (h : litB g = true) : (visible g).Sublist (visible (openG g)) ∧ (visible (openG g)).length + 1 = (below (openG g) (openG g).n (here (openG g))).length := by
  have hb := below_open g g.n (here g)
  unfold visible
  rw [show below (openG g) (openG g).n (here (openG g)) = below g g.n (here g) from hb, if_pos h, if_pos (litB_open s h), reach_open s]
  show (List.filter _ _).Sublist (List.filter _ (below g g.n (here g))) ∧ (List.filter _ (below g g.n (here g))).length + 1 = _
  refine ⟨(reach_sub g g.n _).filter _, ?_⟩
  have hn := below_nodup s.good g.n (here g) (by omega)
  have hc : (below g g.n (here g)).count 1 = 1 := by have h1 := List.nodup_iff_count.1 hn 1; have h2 := List.count_pos_iff.2 s.inH; omega
  have := List.length_eq_countP_add_countP (fun e : Int => e != 1) (l := below g g.n (here g))
  rw [List.countP_eq_length_filter] at this
  have e : List.countP (fun a : Int => decide ¬(a != 1) = true) (below g g.n (here g)) = (below g g.n (here g)).count 1 := by
    rw [List.count]
    congr 1
    funext a
    simp only [bne_iff_ne, Decidable.not_not, ne_eq]; rfl
  omega
end
/-- How far one list goes along in another one. -/
def goAlong (was : List Int) (i : Nat) (y : Int) : Nat := if was[i]? = some y then i + 1 else i
theorem along {was : List Int} : ∀ (now : List Int) (i : Nat), i ≤ was.length → (was.drop i).Sublist now → now.foldl (goAlong was) i = was.length
  | [], i, hi, h => by
    have := List.length_eq_zero_iff.2 (List.sublist_nil.1 h)
    rw [List.length_drop] at this
    simp only [List.foldl_nil]
    omega
  | y :: now, i, hi, h => by
    rw [List.foldl_cons]
    by_cases hlt : i < was.length
    · rw [List.drop_eq_getElem_cons hlt] at h
      unfold goAlong
      rw [List.getElem?_eq_getElem hlt]
      by_cases e : was[i] = y
      · rw [if_pos (by rw [e])]
        refine along now (i + 1) hlt ?_
        rw [e] at h
        exact List.Sublist.of_cons_cons h
      · rw [if_neg (fun c => e (by injection c))]
        refine along now i hi ?_
        rw [List.drop_eq_getElem_cons hlt]
        cases h with
        | cons _ h => exact h
        | cons_cons _ h => exact absurd rfl e
    · have e0 : i = was.length := by omega
      unfold goAlong
      rw [List.getElem?_eq_none (by omega), if_neg (by simp)]
      refine along now i hi ?_
      rw [e0, List.drop_length]
      exact List.nil_sublist _
theorem along_le {was : List Int} : ∀ (now : List Int) (i : Nat), i ≤ was.length → now.foldl (goAlong was) i ≤ was.length
  | [], i, hi => hi
  | y :: now, i, hi => by
    rw [List.foldl_cons]
    refine along_le now _ ?_
    unfold goAlong
    split
    · rename_i h
      obtain ⟨h, _⟩ := List.getElem?_eq_some_iff.1 h
      omega
    · exact hi
end Go.Proofs.Ytncdicagadbafaa.ViewQ
