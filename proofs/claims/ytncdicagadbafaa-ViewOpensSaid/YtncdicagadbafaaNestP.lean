/- The plain mathematics of things within things: the two checks of a world are one, and what is below a thing is what is within it. No program in sight. -/
import Derived.WalkKit
namespace Go.Proofs.Ytncdicagadbafaa.NestP

/-- The number of a list at a place; 0: there is none. -/
def at' (l : List Int) (i : Int) : Int := if 0 ≤ i then l.getD i.toNat 0 else 0
def isT (n : Nat) (x : Int) : Bool := decide (1 ≤ x) && decide (x < n)
/-- What is met from one on, by a list's numbers, so many at most. -/
def chain (n : Nat) (l : List Int) : Nat → Int → List Int
  | 0, _ => []
  | k + 1, c => if isT n c = true then c :: chain n l k (at' l c) else []
/-- Behind so many steps. -/
def iter (l : List Int) : Nat → Int → Int
  | 0, c => c
  | k + 1, c => iter l k (at' l c)

structure Wd where
  gl : List Int
  pa : List Int
  ch : List Int
  ne : List Int
  fl : List Int
  pr : List Int
  ti : List Int
  seed : Int
  sc : Int
  tu : Int
  ov : Int
  it : Int
  go : Int

def Wd.n (w : Wd) : Nat := w.pa.length
def kids (w : Wd) (x : Int) : List Int := if isT w.n x = true then chain w.n w.ne w.n (at' w.ch x) else []
def ups (w : Wd) (x : Int) : List Int := chain w.n w.pa w.n x
def top (w : Wd) (x : Int) : Int := (ups w x).getLastD 0
def within (w : Wd) (x y : Int) : Bool := (ups w x).contains y
def ended (w : Wd) (x : Int) : Int := match (kids w x).getLast? with | none => at' w.ch x | some e => at' w.ne e
def listed (w : Wd) (x : Int) : Bool := ((kids w x).all fun e => (at' w.pa e == x) && ((kids w x).count e == 1)) && (ended w x == 0)
def fine1 (w : Wd) (x : Int) : Bool := !((at' w.pa x != 0 && !isT w.n (at' w.pa x)) || (at' w.pa x == 0 && at' w.ne x != 0) || !listed w x)
def fine2 (w : Wd) (x : Int) : Bool := !((at' w.pa x != 0 && (kids w (at' w.pa x)).count x != 1) || (isT w.n (at' w.pa x) && within w (at' w.pa x) x))
def head (w : Wd) : Bool := decide (w.n ≠ 0) && decide (w.ch.length = w.n) && decide (w.ne.length = w.n) && (at' w.pa 0 == 0) && (at' w.ch 0 == 0) && (at' w.ne 0 == 0)
def nested (w : Wd) : Bool := head w && (List.range (w.n - 1)).all fun i => fine1 w (i + 1 : Nat) && fine2 w (i + 1 : Nat)

theorem isT_iff {n : Nat} {x : Int} : isT n x = true ↔ 1 ≤ x ∧ x < n := by unfold isT; simp

/-- What the check of a world gives. -/
structure Good (w : Wd) : Prop where
  pos : 0 < w.n
  chl : w.ch.length = w.n
  nel : w.ne.length = w.n
  pa0 : at' w.pa 0 = 0
  ch0 : at' w.ch 0 = 0
  ne0 : at' w.ne 0 = 0
  par : ∀ x : Int, 1 ≤ x → x < w.n → at' w.pa x = 0 ∨ (1 ≤ at' w.pa x ∧ at' w.pa x < w.n)
  rut : ∀ x : Int, 1 ≤ x → x < w.n → at' w.pa x = 0 → at' w.ne x = 0
  kid : ∀ x : Int, 1 ≤ x → x < w.n → ∀ e ∈ kids w x, at' w.pa e = x
  nod : ∀ x : Int, 1 ≤ x → x < w.n → (kids w x).Nodup
  fin : ∀ x : Int, 1 ≤ x → x < w.n → ended w x = 0
  mem : ∀ x : Int, 1 ≤ x → x < w.n → at' w.pa x ≠ 0 → x ∈ kids w (at' w.pa x)
  acy : ∀ x : Int, 1 ≤ x → x < w.n → at' w.pa x ≠ 0 → x ∉ ups w (at' w.pa x)

theorem good_of {w : Wd} (h : nested w = true) : Good w := by
  unfold nested head at h
  simp only [Bool.and_eq_true, decide_eq_true_eq, beq_iff_eq, List.all_eq_true, List.mem_range] at h
  obtain ⟨⟨⟨⟨⟨⟨h1, h2⟩, h3⟩, h4⟩, h5⟩, h6⟩, h7⟩ := h
  have h8 : ∀ x : Int, 1 ≤ x → x < w.n → fine1 w x = true ∧ fine2 w x = true := by
    intro x hx hn
    have := h7 (x.toNat - 1) (by omega)
    rwa [show ((x.toNat - 1 + 1 : Nat) : Int) = x by omega] at this
  have f1 : ∀ x : Int, 1 ≤ x → x < w.n → (at' w.pa x ≠ 0 → isT w.n (at' w.pa x) = true) ∧ (at' w.pa x = 0 → at' w.ne x = 0) ∧ listed w x = true := by
    intro x hx hn
    have := (h8 x hx hn).1
    unfold fine1 at this
    simp only [Bool.not_or, Bool.and_eq_true, Bool.not_not, Bool.not_and, Bool.or_eq_true, Bool.not_eq_true', bne_eq_false_iff_eq, beq_eq_false_iff_ne] at this
    obtain ⟨⟨a, b⟩, c⟩ := this
    exact ⟨fun h => a.resolve_left h, fun h => b.resolve_left (fun k => k h), c⟩
  have f2 : ∀ x : Int, 1 ≤ x → x < w.n → at' w.pa x ≠ 0 → (kids w (at' w.pa x)).count x = 1 ∧ x ∉ ups w (at' w.pa x) := by
    intro x hx hn hp
    have := (h8 x hx hn).2
    have hi := (f1 x hx hn).1 hp
    unfold fine2 within at this
    simp only [Bool.not_or, Bool.and_eq_true, Bool.not_and, Bool.or_eq_true, Bool.not_eq_true', bne_eq_false_iff_eq, hi, List.contains_eq_mem, decide_eq_false_iff_not] at this
    obtain ⟨a, b⟩ := this
    exact ⟨a.resolve_left hp, b.resolve_left (by simp)⟩
  have lst : ∀ x : Int, 1 ≤ x → x < w.n → (∀ e ∈ kids w x, at' w.pa e = x ∧ (kids w x).count e = 1) ∧ ended w x = 0 := by
    intro x hx hn
    have := (f1 x hx hn).2.2
    unfold listed at this
    simp only [Bool.and_eq_true, List.all_eq_true, beq_iff_eq] at this
    exact ⟨fun e he => this.1 e he, this.2⟩
  refine ⟨by omega, h2, h3, h4, h5, h6, fun x hx hn => ?_, fun x hx hn => (f1 x hx hn).2.1, fun x hx hn e he => ((lst x hx hn).1 e he).1, fun x hx hn => ?_, fun x hx hn => (lst x hx hn).2, fun x hx hn hp => ?_, fun x hx hn hp => (f2 x hx hn hp).2⟩
  · by_cases hp : at' w.pa x = 0
    · exact .inl hp
    · exact .inr (isT_iff.1 ((f1 x hx hn).1 hp))
  · refine List.nodup_iff_count.2 fun e => ?_
    by_cases he : e ∈ kids w x
    · rw [((lst x hx hn).1 e he).2]; exact Nat.le_refl _
    · rw [List.count_eq_zero_of_not_mem he]; omega
  · exact List.count_pos_iff.1 (by rw [(f2 x hx hn hp).1]; omega)

theorem nested_of {w : Wd} (g : Good w) : nested w = true := by
  unfold nested head
  simp only [Bool.and_eq_true, decide_eq_true_eq, beq_iff_eq, List.all_eq_true, List.mem_range]
  refine ⟨⟨⟨⟨⟨⟨by have := g.pos; omega, g.chl⟩, g.nel⟩, g.pa0⟩, g.ch0⟩, g.ne0⟩, fun i hi => ?_⟩
  have hx : (1 : Int) ≤ ((i + 1 : Nat) : Int) := by omega
  have hn : ((i + 1 : Nat) : Int) < w.n := by omega
  generalize ((i + 1 : Nat) : Int) = x at *
  have hc : ∀ y, (kids w y).Nodup → ∀ e ∈ kids w y, (kids w y).count e = 1 := fun y hy e he => by
    have h1 := List.nodup_iff_count.1 hy e
    have h2 := List.count_pos_iff.2 he
    omega
  constructor
  · unfold fine1 listed
    simp only [Bool.not_or, Bool.and_eq_true, Bool.not_not, Bool.not_and, Bool.or_eq_true, Bool.not_eq_true', bne_eq_false_iff_eq, beq_eq_false_iff_ne, List.all_eq_true, beq_iff_eq]
    refine ⟨⟨?_, ?_⟩, fun e he => ⟨g.kid x hx hn e he, hc x (g.nod x hx hn) e he⟩, g.fin x hx hn⟩
    · rcases g.par x hx hn with h | h
      · exact .inl h
      · exact .inr (isT_iff.2 h)
    · by_cases hp : at' w.pa x = 0
      · exact .inr (g.rut x hx hn hp)
      · exact .inl hp
  · unfold fine2 within
    simp only [Bool.not_or, Bool.and_eq_true, Bool.not_and, Bool.or_eq_true, Bool.not_eq_true', bne_eq_false_iff_eq, List.contains_eq_mem, decide_eq_false_iff_not]
    by_cases hp : at' w.pa x = 0
    · refine ⟨.inl hp, .inl ?_⟩
      rw [hp]; unfold isT; simp
    · rcases g.par x hx hn with h | h
      · exact absurd h hp
      · exact ⟨.inr (hc _ (g.nod _ h.1 h.2) x (g.mem x hx hn hp)), .inr (g.acy x hx hn hp)⟩

/- Chains. -/
theorem chain_isT {n : Nat} {l : List Int} : ∀ (k : Nat) (c : Int), ∀ e ∈ chain n l k c, isT n e = true
  | 0, _, _, h => by simp [chain] at h
  | k + 1, c, e, h => by
    rw [chain] at h
    split at h
    · rename_i hc
      rcases List.mem_cons.1 h with rfl | h
      · exact hc
      · exact chain_isT k _ e h
    · simp at h
theorem chain_mono {n : Nat} {l : List Int} : ∀ {j k : Nat} (c : Int), j ≤ k → ∀ e ∈ chain n l j c, e ∈ chain n l k c
  | 0, _, _, _, _, h => by simp [chain] at h
  | j + 1, 0, _, hk, _, _ => by omega
  | j + 1, k + 1, c, hk, e, h => by
    rw [chain] at h ⊢
    split at h
    · rename_i hc
      rw [if_pos hc]
      rcases List.mem_cons.1 h with rfl | h
      · exact List.mem_cons_self
      · exact List.mem_cons_of_mem _ (chain_mono _ (by omega) e h)
    · simp at h
theorem chain_len {n : Nat} {l : List Int} : ∀ (k : Nat) (c : Int), (chain n l k c).length ≤ k
  | 0, _ => by simp [chain]
  | k + 1, c => by
    rw [chain]; split
    · have := chain_len (n := n) (l := l) k (at' l c)
      simp only [List.length_cons]; omega
    · simp
/-- A list of unlike numbers of things is shorter than there are things. -/
theorem few : ∀ {n : Nat} {l : List Int}, l.Nodup → (∀ e ∈ l, isT n e = true) → l.length ≤ n - 1
  | 0, l, _, h => by
    cases l with
    | nil => simp
    | cons a l => have := isT_iff.1 (h a List.mem_cons_self); omega
  | n + 1, l, hn, h => by
    by_cases hm : (n : Int) ∈ l
    · have h1 := few (n := n) (l := l.erase (n : Int)) (hn.erase _) fun e he => by
        have h2 := isT_iff.1 (h e (List.mem_of_mem_erase he))
        have h3 : e ≠ n := fun heq => by subst heq; exact (List.Nodup.mem_erase_iff hn).1 he |>.1 rfl
        exact isT_iff.2 (by omega)
      rw [List.length_erase_of_mem hm] at h1
      have h4 := isT_iff.1 (h _ hm)
      omega
    · have h1 := few (n := n) (l := l) hn fun e he => by
        have h2 := isT_iff.1 (h e he)
        have h3 : e ≠ n := fun heq => hm (heq ▸ he)
        exact isT_iff.2 (by omega)
      omega
theorem at_mem {l : List Int} {x : Int} : at' l x = 0 ∨ at' l x ∈ l := by
  unfold at'
  split
  · rcases Nat.lt_or_ge x.toNat l.length with h | h
    · right; rw [List.getD_eq_getElem?_getD, List.getElem?_eq_getElem h]; exact List.getElem_mem h
    · left; rw [List.getD_eq_getElem?_getD, List.getElem?_eq_none h]; rfl
  · exact .inl rfl

namespace Good
variable {w : Wd} (g : Good w)
include g

theorem isT_par {x : Int} (hx : isT w.n x = true) (h : at' w.pa x ≠ 0) : isT w.n (at' w.pa x) = true := by
  have := isT_iff.1 hx
  exact isT_iff.2 ((g.par x this.1 this.2).resolve_left h)
theorem up_nodup : ∀ (k : Nat) (x : Int), k ≤ w.n + 1 → (chain w.n w.pa k x).Nodup
  | 0, _, _ => by simp [chain]
  | k + 1, x, hk => by
    rw [chain]
    split
    · rename_i hx
      rw [List.nodup_cons]
      refine ⟨fun hm => ?_, up_nodup k _ (by omega)⟩
      have hx' := isT_iff.1 hx
      by_cases hp : at' w.pa x = 0
      · rw [hp] at hm
        cases k with
        | zero => simp [chain] at hm
        | succ k => rw [chain, if_neg (by unfold isT; simp)] at hm; simp at hm
      · exact g.acy x hx'.1 hx'.2 hp (chain_mono _ (by omega) x hm)
    · simp
theorem up_short (k : Nat) (x : Int) (hk : k ≤ w.n + 1) : (chain w.n w.pa k x).length ≤ w.n - 1 :=
  few (g.up_nodup k x hk) (chain_isT k x)
/-- The way up has come to its end before it is cut off. -/
theorem up_more (x : Int) : ∀ k, w.n ≤ k → chain w.n w.pa k x = ups w x := by
  have h1 : ∀ (k : Nat) (x : Int), (chain w.n w.pa k x).length < k → chain w.n w.pa (k + 1) x = chain w.n w.pa k x := by
    intro k
    induction k with
    | zero => intro x h; simp at h
    | succ k ih =>
      intro x h
      rw [chain] at h ⊢
      split
      · rename_i hx
        rw [if_pos hx, List.length_cons] at h
        rw [ih _ (by omega)]
        conv => rhs; rw [chain, if_pos hx]
      · rename_i hx
        rw [chain, if_neg hx]
  intro k hk
  induction k with
  | zero => have := g.pos; omega
  | succ k ih =>
    rcases Nat.lt_or_ge k w.n with h | h
    · have : w.n = k + 1 := by omega
      unfold ups; rw [this]
    · rw [← ih h]
      refine h1 k x ?_
      rw [ih h]
      have := g.up_short w.n x (by omega)
      have hp := g.pos
      unfold ups; omega
theorem ups_cons {x : Int} (hx : isT w.n x = true) : ups w x = x :: ups w (at' w.pa x) := by
  rw [← g.up_more x (w.n + 1) (by omega), chain, if_pos hx]; rfl
theorem ups_out {x : Int} (hx : isT w.n x ≠ true) : ups w x = [] := by
  have := g.pos
  unfold ups
  obtain ⟨k, hk⟩ : ∃ k, w.n = k + 1 := ⟨w.n - 1, by omega⟩
  rw [show chain w.n w.pa w.n x = chain w.n w.pa (k + 1) x by rw [← hk], chain, if_neg hx]
theorem ups_len (x : Int) : (ups w x).length ≤ w.n - 1 := g.up_short w.n x (by omega)
theorem ups_nodup (x : Int) : (ups w x).Nodup := g.up_nodup w.n x (by omega)

theorem kid_isT {x e : Int} (h : e ∈ kids w x) : isT w.n x = true ∧ isT w.n e = true ∧ at' w.pa e = x := by
  have h0 := h
  unfold kids at h
  split at h
  · rename_i hx
    have hx' := isT_iff.1 hx
    exact ⟨hx, chain_isT _ _ e h, g.kid x hx'.1 hx'.2 e h0⟩
  · simp at h
theorem kid_iff {x e : Int} (hx : isT w.n x = true) : e ∈ kids w x ↔ isT w.n e = true ∧ at' w.pa e = x := by
  constructor
  · intro h; exact (g.kid_isT h).2
  · rintro ⟨he, rfl⟩
    have := isT_iff.1 he
    exact g.mem e this.1 this.2 fun h0 => by rw [h0] at hx; unfold isT at hx; simp at hx
theorem kids_nodup (x : Int) : (kids w x).Nodup := by
  by_cases hx : isT w.n x = true
  · have := isT_iff.1 hx
    exact g.nod x this.1 this.2
  · unfold kids; rw [if_neg hx]; simp
theorem kids_len (x : Int) : (kids w x).length ≤ w.n - 1 := few (g.kids_nodup x) fun _ he => (g.kid_isT he).2.1
theorem ups_kid {x e : Int} (h : e ∈ kids w x) : ups w e = e :: ups w x := by
  obtain ⟨_, h2, h3⟩ := g.kid_isT h
  rw [g.ups_cons h2, h3]
theorem depth_kid {x e : Int} (h : e ∈ kids w x) : (ups w e).length = (ups w x).length + 1 := by rw [g.ups_kid h]; simp
end Good

/-- What is below a thing, so deep at most. -/
def below (w : Wd) : Nat → Int → List Int
  | 0, _ => []
  | k + 1, x => (kids w x).flatMap fun c => c :: below w k c
theorem below_more {w : Wd} (g : Good w) : ∀ (j k : Nat) (x : Int), w.n ≤ j + (ups w x).length → j ≤ k → below w k x = below w j x
  | 0, k, x, h, _ => by have := g.ups_len x; have := g.pos; omega
  | j + 1, 0, _, _, hk => by omega
  | j + 1, k + 1, x, h, hk => by
    rw [below, below]
    have : ∀ c ∈ kids w x, c :: below w k c = c :: below w j c := fun c hc => by
      rw [below_more g j k c (by rw [g.depth_kid hc]; omega) (by omega)]
    rw [List.flatMap_def, List.flatMap_def, List.map_congr_left this]
theorem below_cut {w : Wd} (g : Good w) (x : Int) : below w w.n x = (kids w x).flatMap fun c => c :: below w w.n c := by
  have h1 := below_more g w.n (w.n + 1) x (by omega) (by omega)
  rw [← h1]; rfl
theorem mem_below {w : Wd} (g : Good w) : ∀ (k : Nat) (x y : Int), w.n ≤ k + (ups w x).length → (y ∈ below w k x ↔ isT w.n x = true ∧ isT w.n y = true ∧ y ≠ x ∧ x ∈ ups w y)
  | 0, x, y, h => by have := g.ups_len x; have := g.pos; omega
  | k + 1, x, y, h => by
    rw [below, List.mem_flatMap]
    constructor
    · rintro ⟨c, hc, hy⟩
      have hk := g.kid_isT hc
      have hu := g.ups_kid hc
      have hnx : c ≠ x := fun he => by
        subst he
        have := g.ups_nodup c
        rw [hu, List.nodup_cons, g.ups_cons hk.1] at this
        exact this.1 List.mem_cons_self
      rcases List.mem_cons.1 hy with rfl | hy
      · exact ⟨hk.1, hk.2.1, hnx, by rw [hu, g.ups_cons hk.1]; simp⟩
      · obtain ⟨h1, h2, h3, h4⟩ := (mem_below g k c y (by rw [g.depth_kid hc]; omega)).1 hy
        have hxy : x ∈ ups w y := by
          have : ∀ (l : Nat) (y : Int), c ∈ chain w.n w.pa l y → x ∈ ups w y := by
            intro l
            induction l with
            | zero => intro y h; simp [chain] at h
            | succ l ih =>
              intro y h
              rw [chain] at h
              split at h
              · rename_i hyT
                rcases List.mem_cons.1 h with rfl | h
                · rw [hu, g.ups_cons hk.1]; simp
                · rw [g.ups_cons hyT]; exact List.mem_cons_of_mem _ (ih _ h)
              · simp at h
          exact this _ y h4
        refine ⟨hk.1, h2, fun he => ?_, hxy⟩
        subst he
        have hnd := g.ups_nodup c
        rw [hu, List.nodup_cons] at hnd
        exact hnd.1 h4
    · rintro ⟨h1, h2, h3, h4⟩
      have : ∀ (l : Nat) (y : Int), isT w.n y = true → y ≠ x → x ∈ chain w.n w.pa l y → ∃ c, c ∈ kids w x ∧ (y = c ∨ (y ≠ c ∧ c ∈ ups w y)) := by
        intro l
        induction l with
        | zero => intro y _ _ h; simp [chain] at h
        | succ l ih =>
          intro y hy hne h
          rw [chain, if_pos hy] at h
          rcases List.mem_cons.1 h with h | h
          · exact absurd h.symm hne
          · by_cases hp : at' w.pa y = x
            · exact ⟨y, (g.kid_iff h1).2 ⟨hy, hp⟩, .inl rfl⟩
            · have hpT : isT w.n (at' w.pa y) = true := by
                cases l with
                | zero => simp [chain] at h
                | succ l =>
                  rw [chain] at h
                  split at h
                  · assumption
                  · simp at h
              obtain ⟨c, hc, hyc⟩ := ih _ hpT hp h
              have hcu : c ∈ ups w y := by
                rw [g.ups_cons hy]
                refine List.mem_cons_of_mem _ ?_
                rcases hyc with rfl | ⟨_, h⟩
                · rw [g.ups_cons hpT]; exact List.mem_cons_self
                · exact h
              by_cases he : y = c
              · exact ⟨c, hc, .inl he⟩
              · exact ⟨c, hc, .inr ⟨he, hcu⟩⟩
      obtain ⟨c, hc, hy⟩ := this _ y h2 h3 h4
      refine ⟨c, hc, ?_⟩
      rcases hy with rfl | ⟨h5, h6⟩
      · exact List.mem_cons_self
      · exact List.mem_cons_of_mem _ ((mem_below g k c y (by rw [g.depth_kid hc]; omega)).2 ⟨(g.kid_isT hc).2.1, h2, h5, h6⟩)

theorem ups_suffix {w : Wd} (g : Good w) : ∀ (k : Nat) {c y : Int}, c ∈ chain w.n w.pa k y → ups w c <:+ ups w y
  | 0, _, _, h => by simp [chain] at h
  | k + 1, c, y, h => by
    rw [chain] at h
    split at h
    · rename_i hy
      rcases List.mem_cons.1 h with rfl | h
      · exact List.suffix_refl _
      · rw [g.ups_cons hy]
        exact (ups_suffix g k h).trans (List.suffix_cons _ _)
    · simp at h
theorem same_kid {w : Wd} (g : Good w) {x c d y : Int} (hc : c ∈ kids w x) (hd : d ∈ kids w x) (h1 : c ∈ ups w y) (h2 : d ∈ ups w y) : c = d := by
  have s1 := ups_suffix g _ h1
  have s2 := ups_suffix g _ h2
  have e1 := g.ups_kid hc
  have e2 := g.ups_kid hd
  have s3 := List.suffix_of_suffix_length_le s1 s2 (by rw [e1, e2]; simp)
  have := s3.eq_of_length (by rw [e1, e2]; simp)
  rw [e1, e2] at this
  injection this
theorem below_nodup {w : Wd} (g : Good w) : ∀ (k : Nat) (x : Int), w.n ≤ k + (ups w x).length → (below w k x).Nodup
  | 0, x, _ => by simp [below]
  | k + 1, x, h => by
    rw [below]
    have hin : ∀ c ∈ kids w x, ∀ y ∈ c :: below w k c, c ∈ ups w y := by
      intro c hc y hy
      have hk := g.kid_isT hc
      rcases List.mem_cons.1 hy with rfl | hy
      · rw [g.ups_cons hk.2.1]; exact List.mem_cons_self
      · exact ((mem_below g k c y (by rw [g.depth_kid hc]; omega)).1 hy).2.2.2
    have hnd : ∀ c ∈ kids w x, (c :: below w k c).Nodup := by
      intro c hc
      rw [List.nodup_cons]
      refine ⟨fun hm => ?_, below_nodup g k c (by rw [g.depth_kid hc]; omega)⟩
      exact ((mem_below g k c c (by rw [g.depth_kid hc]; omega)).1 hm).2.2.1 rfl
    have key : ∀ (K : List Int), (∀ c ∈ K, c ∈ kids w x) → K.Nodup → (K.flatMap fun c => c :: below w k c).Nodup := by
      intro K
      induction K with
      | nil => intros; simp
      | cons a K ih =>
        intro hsub hk
        rw [List.nodup_cons] at hk
        rw [List.flatMap_cons, List.nodup_append]
        refine ⟨hnd a (hsub a List.mem_cons_self), ih (fun c hc => hsub c (List.mem_cons_of_mem _ hc)) hk.2, fun y hy z hz he => ?_⟩
        subst he
        obtain ⟨d, hd, hyd⟩ := List.mem_flatMap.1 hz
        have hda := hsub a List.mem_cons_self
        have hdd := hsub d (List.mem_cons_of_mem _ hd)
        have := same_kid g hda hdd (hin a hda y hy) (hin d hdd y hyd)
        subst this
        exact hk.1 hd
    exact key _ (fun _ h => h) (g.kids_nodup x)

/- The program's check. -/
def inB (n : Nat) (l : List Int) : Bool := l.all fun x => decide (0 ≤ x) && decide (x < n)
/-- The row of one thing's children, behind those that were met. -/
def row (w : Wd) (up : Int) : Nat → Int → List Int → Option (List Int)
  | 0, _, _ => none
  | k + 1, c, V => if c = 0 then some V else if V.contains c || at' w.pa c != up then none else row w up k (at' w.ne c) (V ++ [c])
def rowsF (w : Wd) : List Nat → List Int → Option (List Int)
  | [], V => some V
  | i :: t, V => match row w (i + 1 : Nat) (w.n - V.length) (at' w.ch (i + 1 : Nat)) V with | none => none | some V' => rowsF w t V'
def met1 (w : Wd) (V : List Int) (x : Int) : Bool := (V.contains x == (at' w.pa x != 0)) && (V.contains x || at' w.ne x == 0)
def rows (w : Wd) : Bool := match rowsF w (List.range (w.n - 1)) [] with | none => false | some V => (List.range (w.n - 1)).all fun i => met1 w V (i + 1 : Nat)
def ends (w : Wd) : Bool := (List.range (w.n - 1)).all fun i => iter w.pa w.n (i + 1 : Nat) == 0
def inside (w : Wd) : Bool := inB w.n w.pa && inB w.n w.ch && inB w.n w.ne
def right (w : Wd) : Bool := head w && inside w && rows w && ends w

theorem at_in {n : Nat} {l : List Int} (h : inB n l = true) (hn : 0 < n) (x : Int) : 0 ≤ at' l x ∧ at' l x < n := by
  unfold inB at h
  simp only [List.all_eq_true, Bool.and_eq_true, decide_eq_true_eq] at h
  rcases at_mem (l := l) (x := x) with h0 | h0
  · rw [h0]; omega
  · exact h _ h0
theorem in_of_at {n : Nat} {l : List Int} (hl : l.length = n) (h : ∀ x : Int, 0 ≤ x → x < n → 0 ≤ at' l x ∧ at' l x < n) : inB n l = true := by
  unfold inB
  simp only [List.all_eq_true, Bool.and_eq_true, decide_eq_true_eq]
  intro e he
  obtain ⟨i, hi, rfl⟩ := List.getElem_of_mem he
  have := h i (by omega) (by omega)
  unfold at' at this
  rw [if_pos (by omega), Int.toNat_natCast, List.getD_eq_getElem?_getD, List.getElem?_eq_getElem hi] at this
  exact this

/-- What a row that is right gives. -/
theorem row_some {w : Wd} (hne : ∀ x, 0 ≤ at' w.ne x ∧ at' w.ne x < w.n) {up : Int} : ∀ (k : Nat) (c : Int) (V V' : List Int), 0 ≤ c → c < w.n → V.Nodup → row w up k c V = some V' →
    ∃ L, V' = V ++ L ∧ (∀ j, k ≤ j + 1 → chain w.n w.ne j c = L) ∧ (∀ e ∈ L, at' w.pa e = up) ∧ (V ++ L).Nodup ∧ (match L.getLast? with | none => c | some e => at' w.ne e) = 0
  | 0, _, _, _, _, _, _, h => by simp [row] at h
  | k + 1, c, V, V', h0, h1, hV, h => by
    rw [row] at h
    split at h
    · rename_i hc
      injection h with h
      refine ⟨[], by simp [h], fun j _ => ?_, by simp, by simpa using hV, hc⟩
      cases j with
      | zero => rfl
      | succ j => rw [chain, if_neg (by rw [hc]; unfold isT; simp)]
    · rename_i hc
      split at h
      · simp at h
      · rename_i hm
        simp only [Bool.or_eq_true, not_or, List.contains_eq_mem, decide_eq_true_eq, bne_iff_ne, ne_eq, Decidable.not_not] at hm
        have hV' : (V ++ [c]).Nodup := by
          rw [List.nodup_append]
          refine ⟨hV, by simp, fun a ha b hb he => ?_⟩
          rw [List.mem_singleton] at hb
          subst hb he
          exact hm.1 ha
        obtain ⟨L, e1, e2, e3, e4, e5⟩ := row_some hne k _ _ _ (hne c).1 (hne c).2 hV' h
        refine ⟨c :: L, by rw [e1]; simp, fun j hj => ?_, fun e he => ?_, by simpa using e4, ?_⟩
        · cases j with
          | zero =>
            have hk : k = 0 := by omega
            subst hk
            simp [row] at h
          | succ j => rw [chain, if_pos (isT_iff.2 (by omega)), e2 j (by omega)]
        · rcases List.mem_cons.1 he with rfl | he
          · exact hm.2
          · exact e3 e he
        · cases L with
          | nil => exact e5
          | cons a L => rw [List.getLast?_cons_cons]; exact e5
theorem row_of {w : Wd} {up : Int} : ∀ (k : Nat) (c : Int) (V : List Int), (chain w.n w.ne k c).length < k → (V ++ chain w.n w.ne k c).Nodup → (∀ e ∈ chain w.n w.ne k c, at' w.pa e = up) →
    (match (chain w.n w.ne k c).getLast? with | none => c | some e => at' w.ne e) = 0 → row w up k c V = some (V ++ chain w.n w.ne k c)
  | 0, _, _, h, _, _, _ => by simp at h
  | k + 1, c, V, h, hn, hp, he => by
    rw [row]
    by_cases hc : isT w.n c = true
    · have e : chain w.n w.ne (k + 1) c = c :: chain w.n w.ne k (at' w.ne c) := by rw [chain, if_pos hc]
      rw [e] at h hn hp he ⊢
      have hc' := isT_iff.1 hc
      rw [if_neg (by omega)]
      have hm : ¬ ((V.contains c || at' w.pa c != up) = true) := by
        simp only [Bool.or_eq_true, not_or, List.contains_eq_mem, decide_eq_true_eq, bne_iff_ne, ne_eq, Decidable.not_not]
        refine ⟨fun hm => ?_, hp c List.mem_cons_self⟩
        rw [List.nodup_append] at hn
        exact hn.2.2 c hm c List.mem_cons_self rfl
      rw [if_neg hm, row_of k _ (V ++ [c]) (by simpa using h) (by simpa using hn) (fun e he => hp e (List.mem_cons_of_mem _ he)) ?_]
      · simp
      · revert he
        cases chain w.n w.ne k (at' w.ne c) with
        | nil => exact fun h => h
        | cons a L => rw [List.getLast?_cons_cons]; exact fun h => h
    · have e : chain w.n w.ne (k + 1) c = [] := by rw [chain, if_neg hc]
      rw [e] at he ⊢
      have he' : c = 0 := he
      rw [if_pos he', List.append_nil]

theorem iter_add (l : List Int) : ∀ (a b : Nat) (x : Int), iter l (a + b) x = iter l b (iter l a x)
  | 0, b, x => by rw [Nat.zero_add]; rfl
  | a + 1, b, x => by rw [show a + 1 + b = (a + b) + 1 by omega, iter, iter_add l a b]; rfl
theorem iter_mul (l : List Int) (a : Nat) (x : Int) (h : iter l a x = x) : ∀ m, iter l (m * a) x = x
  | 0 => by rw [Nat.zero_mul]; rfl
  | m + 1 => by rw [Nat.succ_mul, iter_add, iter_mul l a x h m, h]
theorem iter_zero (l : List Int) (h : at' l 0 = 0) : ∀ k, iter l k 0 = 0
  | 0 => rfl
  | k + 1 => by rw [iter, h]; exact iter_zero l h k
theorem mem_iter {n : Nat} {l : List Int} : ∀ (k : Nat) (x y : Int), y ∈ chain n l k x → ∃ j, iter l j x = y
  | 0, _, _, h => by simp [chain] at h
  | k + 1, x, y, h => by
    rw [chain] at h
    split at h
    · rcases List.mem_cons.1 h with rfl | h
      · exact ⟨0, rfl⟩
      · obtain ⟨j, hj⟩ := mem_iter k _ _ h
        exact ⟨j + 1, hj⟩
    · simp at h

theorem rowsF_some {w : Wd} (hne : ∀ x, 0 ≤ at' w.ne x ∧ at' w.ne x < w.n) (hch : ∀ x, 0 ≤ at' w.ch x ∧ at' w.ch x < w.n) : ∀ (t : List Nat) (V V' : List Int), (∀ i ∈ t, i + 1 < w.n) → V.Nodup → rowsF w t V = some V' →
    (∀ e, e ∈ V' → e ∈ V ∨ ∃ i ∈ t, e ∈ kids w ((i + 1 : Nat) : Int)) ∧ ∀ i ∈ t, (∀ e ∈ kids w ((i + 1 : Nat) : Int), at' w.pa e = ((i + 1 : Nat) : Int)) ∧ (kids w ((i + 1 : Nat) : Int)).Nodup ∧ ended w ((i + 1 : Nat) : Int) = 0
  | [], V, V', _, _, h => by
    injection h with h
    subst h
    exact ⟨fun e he => .inl he, by simp⟩
  | i :: t, V, V', ht, hV, h => by
    rw [rowsF] at h
    split at h
    · simp at h
    · rename_i V1 h1
      obtain ⟨L, e1, e2, e3, e4, e5⟩ := row_some hne _ _ _ _ (hch _).1 (hch _).2 hV h1
      have hi : isT w.n ((i + 1 : Nat) : Int) = true := isT_iff.2 (by have := ht i List.mem_cons_self; omega)
      have hk : kids w ((i + 1 : Nat) : Int) = L := by
        unfold kids; rw [if_pos hi, e2 _ (by omega)]
      obtain ⟨f1, f2⟩ := rowsF_some hne hch t V1 V' (fun j hj => ht j (List.mem_cons_of_mem _ hj)) (e1 ▸ e4) h
      refine ⟨fun e he => ?_, fun j hj => ?_⟩
      · rcases f1 e he with h | ⟨j, hj, h⟩
        · rw [e1] at h
          rcases List.mem_append.1 h with h | h
          · exact .inl h
          · exact .inr ⟨i, List.mem_cons_self, by rw [hk]; exact h⟩
        · exact .inr ⟨j, List.mem_cons_of_mem _ hj, h⟩
      · rcases List.mem_cons.1 hj with rfl | hj
        · rw [hk]
          refine ⟨e3, (List.nodup_append.1 e4).2.1, ?_⟩
          unfold ended; rw [hk]; exact e5
        · exact f2 j hj

theorem good_of_right {w : Wd} (h : right w = true) : Good w := by
  unfold right at h
  simp only [Bool.and_eq_true] at h
  obtain ⟨⟨⟨h1, h2⟩, h3⟩, h4⟩ := h
  unfold head at h1
  simp only [Bool.and_eq_true, decide_eq_true_eq, beq_iff_eq] at h1
  obtain ⟨⟨⟨⟨⟨a1, a2⟩, a3⟩, a4⟩, a5⟩, a6⟩ := h1
  unfold inside at h2
  simp only [Bool.and_eq_true] at h2
  obtain ⟨⟨b1, b2⟩, b3⟩ := h2
  have hpa := at_in b1 (by omega)
  have hch := at_in b2 (by omega)
  have hne := at_in b3 (by omega)
  unfold rows at h3
  split at h3
  · simp at h3
  · rename_i V hV
    simp only [List.all_eq_true, List.mem_range] at h3
    obtain ⟨c1, c2⟩ := rowsF_some hne hch _ _ _ (fun i hi => by rw [List.mem_range] at hi; omega) List.nodup_nil hV
    have c2' : ∀ x : Int, 1 ≤ x → x < w.n → (∀ e ∈ kids w x, at' w.pa e = x) ∧ (kids w x).Nodup ∧ ended w x = 0 := by
      intro x hx hn
      have := c2 (x.toNat - 1) (by rw [List.mem_range]; omega)
      rwa [show ((x.toNat - 1 + 1 : Nat) : Int) = x by omega] at this
    have c3 : ∀ x : Int, 1 ≤ x → x < w.n → ((x ∈ V ↔ at' w.pa x ≠ 0) ∧ (x ∈ V ∨ at' w.ne x = 0)) := by
      intro x hx hn
      have := h3 (x.toNat - 1) (by omega)
      rw [show ((x.toNat - 1 + 1 : Nat) : Int) = x by omega] at this
      unfold met1 at this
      simp only [Bool.and_eq_true, beq_iff_eq, List.contains_eq_mem, Bool.or_eq_true, decide_eq_true_eq] at this
      refine ⟨⟨fun hv => ?_, fun hp => ?_⟩, this.2⟩
      · have h1 := this.1
        rw [decide_eq_true hv] at h1
        exact bne_iff_ne.1 h1.symm
      · have h1 := this.1
        rw [bne_iff_ne.2 hp] at h1
        exact of_decide_eq_true h1
    refine ⟨by omega, a2, a3, a4, a5, a6, fun x hx hn => ?_, fun x hx hn hp => ?_, fun x hx hn => (c2' x hx hn).1, fun x hx hn => (c2' x hx hn).2.1, fun x hx hn => (c2' x hx hn).2.2, fun x hx hn hp => ?_, fun x hx hn hp hm => ?_⟩
    · have := hpa x
      omega
    · exact (c3 x hx hn).2.resolve_left fun h => (c3 x hx hn).1.1 h hp
    · have hv := (c3 x hx hn).1.2 hp
      rcases c1 x hv with h | ⟨i, hi, h⟩
      · simp at h
      · have := (c2 i hi).1 x h
        rw [this]; exact h
    · unfold ends at h4
      simp only [List.all_eq_true, List.mem_range, beq_iff_eq] at h4
      have h5 := h4 (x.toNat - 1) (by omega)
      rw [show ((x.toNat - 1 + 1 : Nat) : Int) = x by omega] at h5
      obtain ⟨j, hj⟩ := mem_iter _ _ _ hm
      have h6 : iter w.pa (j + 1) x = x := hj
      have h7 := iter_mul w.pa (j + 1) x h6 w.n
      rw [show w.n * (j + 1) = w.n + w.n * j by rw [Nat.mul_succ]; omega, iter_add, h5, iter_zero _ a4] at h7
      omega
theorem iter_ups {w : Wd} (g : Good w) : ∀ (k : Nat) (x : Int), (x = 0 ∨ isT w.n x = true) → (ups w x).length ≤ k → iter w.pa k x = 0
  | k, x, .inl h, _ => by subst h; exact iter_zero _ g.pa0 k
  | 0, x, .inr h, hl => by rw [g.ups_cons h] at hl; simp at hl
  | k + 1, x, .inr h, hl => by
    rw [g.ups_cons h, List.length_cons] at hl
    rw [iter]
    refine iter_ups g k _ ?_ (by omega)
    by_cases hp : at' w.pa x = 0
    · exact .inl hp
    · exact .inr (g.isT_par h hp)
theorem rowsF_of {w : Wd} (g : Good w) : ∀ (t : List Nat) (V : List Int), (∀ i ∈ t, i + 1 < w.n) → t.Nodup → V.Nodup → (∀ e ∈ V, isT w.n e = true) → (∀ i ∈ t, ∀ e ∈ V, at' w.pa e ≠ ((i + 1 : Nat) : Int)) → ∃ V', rowsF w t V = some V' ∧ ∀ e, e ∈ V' ↔ e ∈ V ∨ ∃ i ∈ t, e ∈ kids w ((i + 1 : Nat) : Int)
  | [], V, _, _, _, _, _ => ⟨V, rfl, by simp⟩
  | i :: t, V, ht, htn, hV, hVT, hd => by
    have hi : isT w.n ((i + 1 : Nat) : Int) = true := isT_iff.2 (by have := ht i List.mem_cons_self; omega)
    have hi' := isT_iff.1 hi
    have hnd : (V ++ kids w ((i + 1 : Nat) : Int)).Nodup := by
      rw [List.nodup_append]
      refine ⟨hV, g.kids_nodup _, fun a ha b hb he => ?_⟩
      subst he
      exact hd i List.mem_cons_self a ha (g.kid_isT hb).2.2
    have hall : ∀ e ∈ V ++ kids w ((i + 1 : Nat) : Int), isT w.n e = true := by
      intro e he
      rcases List.mem_append.1 he with h | h
      · exact hVT e h
      · exact (g.kid_isT h).2.1
    have hlen := few hnd hall
    rw [List.length_append] at hlen
    have hc : chain w.n w.ne (w.n - V.length) (at' w.ch ((i + 1 : Nat) : Int)) = kids w ((i + 1 : Nat) : Int) := by
      have h1 : ∀ (k j : Nat) (c : Int), (chain w.n w.ne j c).length < k → k ≤ j → chain w.n w.ne k c = chain w.n w.ne j c := by
        intro k
        induction k with
        | zero => intro j c h _; simp at h
        | succ k ih =>
          intro j c h hk
          obtain ⟨j, rfl⟩ : ∃ m, j = m + 1 := ⟨j - 1, by omega⟩
          rw [chain] at h ⊢
          split
          · rename_i hx
            rw [if_pos hx, List.length_cons] at h
            rw [chain, if_pos hx, ih j _ (by omega) (by omega)]
          · rename_i hx
            rw [chain, if_neg hx]
      have h2 : kids w ((i + 1 : Nat) : Int) = chain w.n w.ne w.n (at' w.ch ((i + 1 : Nat) : Int)) := by unfold kids; rw [if_pos hi]
      rw [h2] at hlen ⊢
      exact h1 _ _ _ (by have := g.pos; omega) (by omega)
    have hrow := row_of (w := w) (up := ((i + 1 : Nat) : Int)) (w.n - V.length) (at' w.ch ((i + 1 : Nat) : Int)) V (by rw [hc]; have := g.pos; omega) (by rw [hc]; exact hnd) (fun e he => (g.kid_isT (hc ▸ he)).2.2) (by rw [hc]; exact g.fin _ hi'.1 hi'.2)
    rw [hc] at hrow
    obtain ⟨V', e1, e2⟩ := rowsF_of g t (V ++ kids w ((i + 1 : Nat) : Int)) (fun j hj => ht j (List.mem_cons_of_mem _ hj)) (List.nodup_cons.1 htn).2 hnd hall (fun j hj e he => by
      rcases List.mem_append.1 he with h | h
      · exact hd j (List.mem_cons_of_mem _ hj) e h
      · rw [(g.kid_isT h).2.2]
        intro he
        have : i = j := by omega
        subst this
        exact (List.nodup_cons.1 htn).1 hj)
    refine ⟨V', by rw [rowsF, hrow]; exact e1, fun e => ?_⟩
    rw [e2, List.mem_append]
    simp only [List.mem_cons, exists_eq_or_imp, or_assoc]
theorem right_of {w : Wd} (g : Good w) : right w = true := by
  unfold right head inside rows ends
  have hp := g.pos
  have hpar : ∀ x : Int, 0 ≤ x → x < w.n → 0 ≤ at' w.pa x ∧ at' w.pa x < w.n := by
    intro x hx hn
    by_cases h0 : x = 0
    · subst h0; rw [g.pa0]; omega
    · have := g.par x (by omega) hn; omega
  have hend : ∀ x : Int, 1 ≤ x → x < w.n → 0 ≤ at' w.ch x ∧ at' w.ch x < w.n := by
    intro x hx hn
    have hf := g.fin x hx hn
    have hxT := isT_iff.2 ⟨hx, hn⟩
    unfold ended at hf
    by_cases hT : isT w.n (at' w.ch x) = true
    · have := isT_iff.1 hT; omega
    · have : kids w x = [] := by
        unfold kids
        rw [if_pos hxT]
        obtain ⟨k, hk⟩ : ∃ k, w.n = k + 1 := ⟨w.n - 1, by omega⟩
        rw [show chain w.n w.ne w.n (at' w.ch x) = chain w.n w.ne (k + 1) (at' w.ch x) by rw [← hk], chain, if_neg hT]
      rw [this] at hf
      have hf : at' w.ch x = 0 := hf
      omega
  have hnx : ∀ x : Int, 1 ≤ x → x < w.n → 0 ≤ at' w.ne x ∧ at' w.ne x < w.n := by
    intro x hx hn
    by_cases h0 : at' w.pa x = 0
    · rw [g.rut x hx hn h0]; omega
    · have hpx := g.par x hx hn
      have hm := g.mem x hx hn h0
      have hf := g.fin (at' w.pa x) (by omega) (by omega)
      have hTp : isT w.n (at' w.pa x) = true := isT_iff.2 (by omega)
      have : ∀ (k : Nat) (c : Int), x ∈ chain w.n w.ne k c → (chain w.n w.ne k c).length < k → (match (chain w.n w.ne k c).getLast? with | none => c | some e => at' w.ne e) = 0 → 0 ≤ at' w.ne x ∧ at' w.ne x < w.n := by
        intro k
        induction k with
        | zero => intro c h; simp [chain] at h
        | succ k ih =>
          intro c h hl hf
          rw [chain] at h hl hf
          split at h
          · rename_i hc
            rw [if_pos hc] at hl hf
            rw [List.length_cons] at hl
            rcases List.mem_cons.1 h with rfl | h
            · by_cases hT : isT w.n (at' w.ne x) = true
              · have := isT_iff.1 hT; omega
              · have e : chain w.n w.ne k (at' w.ne x) = [] := by
                  cases k with
                  | zero => rfl
                  | succ k => rw [chain, if_neg hT]
                rw [e] at hf
                have hf' : at' w.ne x = 0 := hf
                omega
            · refine ih _ h (by omega) ?_
              revert hf
              cases chain w.n w.ne k (at' w.ne c) with
              | nil => exact fun h => h
              | cons a L => rw [List.getLast?_cons_cons]; exact fun h => h
          · simp at h
      have hkl := g.kids_len (at' w.pa x)
      unfold ended at hf
      unfold kids at hm hkl hf
      rw [if_pos hTp] at hm hkl hf
      exact this _ _ hm (by omega) hf
  have hz : ∀ {l : List Int}, at' l 0 = 0 → (∀ x : Int, 1 ≤ x → x < w.n → 0 ≤ at' l x ∧ at' l x < w.n) → ∀ x : Int, 0 ≤ x → x < w.n → 0 ≤ at' l x ∧ at' l x < w.n := by
    intro l h0 h x hx hn
    by_cases hx0 : x = 0
    · subst hx0; rw [h0]; omega
    · exact h x (by omega) hn
  obtain ⟨V, e1, e2⟩ := rowsF_of g (List.range (w.n - 1)) [] (fun i hi => by rw [List.mem_range] at hi; omega) List.nodup_range List.nodup_nil (by simp) (by simp)
  rw [e1]
  simp only [Bool.and_eq_true, decide_eq_true_eq, beq_iff_eq, List.all_eq_true, List.mem_range]
  refine ⟨⟨⟨⟨⟨⟨⟨⟨by omega, g.chl⟩, g.nel⟩, g.pa0⟩, g.ch0⟩, g.ne0⟩, ⟨in_of_at rfl hpar, in_of_at g.chl (hz g.ch0 hend)⟩, in_of_at g.nel (hz g.ne0 hnx)⟩, fun i hi => ?_⟩, fun i hi => ?_⟩
  · have hx : (1 : Int) ≤ ((i + 1 : Nat) : Int) := by omega
    have hn : ((i + 1 : Nat) : Int) < w.n := by omega
    generalize ((i + 1 : Nat) : Int) = x at *
    have hv : x ∈ V ↔ at' w.pa x ≠ 0 := by
      rw [e2]
      constructor
      · rintro (h | ⟨j, hj, h⟩)
        · simp at h
        · have := (g.kid_isT h).2.2
          omega
      · intro h
        have hpx := g.par x hx hn
        refine .inr ⟨(at' w.pa x).toNat - 1, by rw [List.mem_range]; omega, ?_⟩
        rw [show (((at' w.pa x).toNat - 1 + 1 : Nat) : Int) = at' w.pa x by omega]
        exact g.mem x hx hn h
    unfold met1
    simp only [Bool.and_eq_true, beq_iff_eq, List.contains_eq_mem, Bool.or_eq_true, decide_eq_true_eq]
    refine ⟨?_, ?_⟩
    · rw [Bool.eq_iff_iff, decide_eq_true_iff, hv, bne_iff_ne]
    · by_cases h0 : at' w.pa x = 0
      · exact .inr (g.rut x hx hn h0)
      · exact .inl (hv.2 h0)
  · refine iter_ups g _ _ (.inr (isT_iff.2 (by omega))) ?_
    have := g.ups_len ((i + 1 : Nat) : Int)
    omega
theorem right_eq (w : Wd) : right w = nested w := by
  rw [Bool.eq_iff_iff]
  exact ⟨fun h => nested_of (good_of_right h), fun h => right_of (good_of h)⟩
end Go.Proofs.Ytncdicagadbafaa.NestP
