/- The plain mathematics of moves: a thing taken out, or moved into another one, leaves things within things as they must be. No program in sight. -/
import Derived.Test.YtncdicagadbafaaNestP
namespace Go.Proofs.Ytncdicagadbafaa.MoveP
open NestP

def path (f : Int → Int) : Int → List Int → Prop
  | c, [] => c = 0
  | c, e :: L => c = e ∧ path f (f e) L

theorem path_congr {f g : Int → Int} : ∀ {L : List Int} {c : Int}, (∀ e ∈ L, g e = f e) → path f c L → path g c L
  | [], _, _, h => h
  | e :: L, c, hg, h => ⟨h.1, by rw [hg e List.mem_cons_self]; exact path_congr (fun d hd => hg d (List.mem_cons_of_mem _ hd)) h.2⟩
theorem path_head {f : Int → Int} {c : Int} : ∀ {L : List Int}, path f c L → c = 0 ∨ c ∈ L
  | [], h => .inl h
  | e :: L, h => .inr (by rw [h.1]; exact List.mem_cons_self)
theorem path_tail {f : Int → Int} : ∀ {L : List Int} {c : Int}, path f c L → ∀ e ∈ L, f e = 0 ∨ f e ∈ L.tail
  | [], _, _, _, he => by simp at he
  | a :: L, c, h, e, he => by
    rcases List.mem_cons.1 he with rfl | he
    · exact path_head h.2
    · rcases path_tail h.2 e he with h0 | h1
      · exact .inl h0
      · exact .inr (List.mem_of_mem_tail h1)
theorem path_uniq {f : Int → Int} {x : Int} (hx : x ≠ 0) : ∀ {L : List Int} {c : Int}, path f c L → L.Nodup → ∀ d ∈ L, ∀ e ∈ L, f d = x → f e = x → d = e
  | [], _, _, _, _, hd, _, _, _, _ => by simp at hd
  | a :: L, c, h, hn, d, hd, e, he, h1, h2 => by
    rw [List.nodup_cons] at hn
    have key : ∀ b ∈ L, f a = x → f b = x → False := by
      intro b hb ha hb'
      have hp := h.2
      rw [ha] at hp
      cases L with
      | nil => simp at hb
      | cons z L =>
        have hz := hp.1
        rcases path_tail hp b hb with h0 | h0
        · exact hx (hb' ▸ h0)
        · rw [hb', hz] at h0
          exact (List.nodup_cons.1 hn.2).1 h0
    rcases List.mem_cons.1 hd with hd' | hd'
    · rcases List.mem_cons.1 he with he' | he'
      · rw [hd', he']
      · exact (key e he' (hd' ▸ h1) h2).elim
    · rcases List.mem_cons.1 he with he' | he'
      · exact (key d hd' (he' ▸ h2) h1).elim
      · exact path_uniq hx h.2 hn.2 d hd' e he' h1 h2
theorem path_cut {f g : Int → Int} {x : Int} {B : List Int} : ∀ {A : List Int} {c : Int}, x ∉ A → path f c (A ++ x :: B) → (∀ e ∈ A ++ B, g e = if f e = x then f x else f e) → (∀ e ∈ B, f e ≠ x) → path g (if c = x then f x else c) (A ++ B)
  | [], c, _, h, hg, hB => by
    rw [if_pos h.1]
    exact path_congr (fun e he => by rw [hg e he, if_neg (hB e he)]) h.2
  | a :: A, c, hA, h, hg, hB => by
    have hc : c = a := h.1
    rw [if_neg (fun h => hA (by rw [← h, hc]; exact List.mem_cons_self))]
    refine ⟨hc, ?_⟩
    rw [hg a List.mem_cons_self]
    exact path_cut (fun hm => hA (List.mem_cons_of_mem _ hm)) h.2 (fun e he => hg e (List.mem_cons_of_mem _ he)) hB

theorem path_chain {n : Nat} {l : List Int} : ∀ (k : Nat) {c : Int} {L : List Int}, path (at' l) c L → (∀ e ∈ L, isT n e = true) → L.length < k → chain n l k c = L
  | 0, _, _, _, _, h => by simp at h
  | k + 1, c, [], h, _, _ => by
    have h : c = 0 := h
    rw [chain, if_neg (by rw [h]; unfold isT; simp)]
  | k + 1, c, e :: L, h, hT, hl => by
    have hc : c = e := h.1
    subst hc
    rw [chain, if_pos (hT c List.mem_cons_self), path_chain k h.2 (fun d hd => hT d (List.mem_cons_of_mem _ hd)) (by simpa using hl)]
theorem chain_path {n : Nat} {l : List Int} : ∀ (k : Nat) {c : Int}, (chain n l k c).length < k → (match (chain n l k c).getLast? with | none => c | some e => at' l e) = 0 → path (at' l) c (chain n l k c)
  | 0, _, h, _ => by simp at h
  | k + 1, c, h, he => by
    by_cases hc : isT n c = true
    · rw [chain, if_pos hc] at h he ⊢
      refine ⟨rfl, chain_path k (by simpa using h) ?_⟩
      revert he
      cases chain n l k (at' l c) with
      | nil => exact fun h => h
      | cons a L => rw [List.getLast?_cons_cons]; exact fun h => h
    · rw [chain, if_neg hc] at he ⊢
      exact he
theorem good_path {w : Wd} (g : NestP.Good w) {x : Int} (hx : isT w.n x = true) : path (at' w.ne) (at' w.ch x) (kids w x) := by
  have hx' := isT_iff.1 hx
  have hf := g.fin x hx'.1 hx'.2
  have hl := g.kids_len x
  unfold ended at hf
  have e : kids w x = chain w.n w.ne w.n (at' w.ch x) := by unfold kids; rw [if_pos hx]
  rw [e] at hf hl ⊢
  exact chain_path _ (by have := g.pos; omega) hf

theorem ended_of {w : Wd} {x : Int} : ∀ {L : List Int} {c : Int}, path (at' w.ne) c L → (match L.getLast? with | none => c | some e => at' w.ne e) = 0
  | [], _, h => h
  | [e], _, h => h.2
  | e :: d :: L, c, h => by
    rw [List.getLast?_cons_cons]
    have := ended_of (x := x) h.2
    rw [List.getLast?_cons] at this ⊢
    exact this

/-- A world is right if each thing has its row of children, and none is in itself. -/
theorem good_parts {w : Wd} (K : Int → List Int) (r : Int → Nat) (h1 : 0 < w.n) (h2 : w.ch.length = w.n) (h3 : w.ne.length = w.n) (h4 : at' w.pa 0 = 0) (h5 : at' w.ch 0 = 0) (h6 : at' w.ne 0 = 0)
    (hpar : ∀ x : Int, 1 ≤ x → x < w.n → at' w.pa x = 0 ∨ (1 ≤ at' w.pa x ∧ at' w.pa x < w.n)) (hrut : ∀ x : Int, 1 ≤ x → x < w.n → at' w.pa x = 0 → at' w.ne x = 0)
    (hK : ∀ x : Int, 1 ≤ x → x < w.n → path (at' w.ne) (at' w.ch x) (K x) ∧ (K x).Nodup ∧ ∀ e, e ∈ K x ↔ isT w.n e = true ∧ at' w.pa e = x)
    (hr : ∀ x : Int, 1 ≤ x → x < w.n → at' w.pa x ≠ 0 → r (at' w.pa x) < r x) : NestP.Good w ∧ ∀ x : Int, 1 ≤ x → x < w.n → kids w x = K x := by
  have hk : ∀ x : Int, 1 ≤ x → x < w.n → kids w x = K x := by
    intro x hx hn
    obtain ⟨a, b, c⟩ := hK x hx hn
    have hT : ∀ e ∈ K x, isT w.n e = true := fun e he => ((c e).1 he).1
    unfold kids
    rw [if_pos (isT_iff.2 ⟨hx, hn⟩), path_chain _ a hT (by have := few b hT; omega)]
  have hu : ∀ (k : Nat) (x y : Int), y ∈ chain w.n w.pa k x → r y ≤ r x := by
    intro k
    induction k with
    | zero => intro x y h; simp [chain] at h
    | succ k ih =>
      intro x y h
      rw [chain] at h
      split at h
      · rename_i hx
        rcases List.mem_cons.1 h with rfl | h
        · exact Nat.le_refl _
        · have hx' := isT_iff.1 hx
          by_cases hp : at' w.pa x = 0
          · rw [hp] at h
            cases k with
            | zero => simp [chain] at h
            | succ k => rw [chain, if_neg (by unfold isT; simp)] at h; simp at h
          · have := hr x hx'.1 hx'.2 hp
            have := ih _ _ h
            omega
      · simp at h
  refine ⟨⟨h1, h2, h3, h4, h5, h6, hpar, hrut, fun x hx hn e he => ?_, fun x hx hn => ?_, fun x hx hn => ?_, fun x hx hn hp => ?_, fun x hx hn hp hm => ?_⟩, hk⟩
  · rw [hk x hx hn] at he
    exact (((hK x hx hn).2.2 e).1 he).2
  · rw [hk x hx hn]; exact (hK x hx hn).2.1
  · unfold ended; rw [hk x hx hn]; exact ended_of (x := x) (hK x hx hn).1
  · have hpx := (hpar x hx hn).resolve_left hp
    rw [hk _ hpx.1 hpx.2, (hK _ hpx.1 hpx.2).2.2]
    exact ⟨isT_iff.2 ⟨hx, hn⟩, rfl⟩
  · have h7 := hu _ _ _ hm
    have h8 := hr x hx hn hp
    omega

def setI (l : List Int) (i v : Int) : List Int := l.set i.toNat v
theorem set_len (l : List Int) (i v : Int) : (setI l i v).length = l.length := by unfold setI; simp
theorem at_set {l : List Int} {i : Int} (v : Int) (h0 : 0 ≤ i) (h1 : i < l.length) (j : Int) : at' (setI l i v) j = if j = i then v else at' l j := by
  unfold at' setI
  by_cases hj : 0 ≤ j
  · rw [if_pos hj, if_pos hj, List.getD_eq_getElem?_getD, List.getElem?_set, List.getD_eq_getElem?_getD]
    by_cases he : j = i
    · subst he; rw [if_pos rfl, if_pos (by omega), if_pos rfl]; rfl
    · rw [if_neg (by omega), if_neg he]
  · rw [if_neg hj, if_neg hj, if_neg (by omega)]
theorem set_same {l : List Int} {i : Int} (h0 : 0 ≤ i) (h1 : i < l.length) : setI l i (at' l i) = l := by
  unfold setI at'
  rw [if_pos h0, List.getD_eq_getElem?_getD, List.getElem?_eq_getElem (by omega), Option.getD_some, List.set_getElem_self]

/-- The child ahead of a thing, in what it is in. -/
def ahead (w : Wd) (x : Int) : Option Int := (kids w (at' w.pa x)).find? fun c => at' w.ne c == x
def lvCh (w : Wd) (x : Int) : List Int := if at' w.ch (at' w.pa x) = x then setI w.ch (at' w.pa x) (at' w.ne x) else w.ch
def lvNe (w : Wd) (x : Int) : List Int := match ahead w x with | none => w.ne | some c => setI w.ne c (at' w.ne x)
def leave (w : Wd) (x : Int) : Wd := { w with pa := setI w.pa x 0, ch := lvCh w x, ne := setI (lvNe w x) x 0 }
def moved (w : Wd) (x to : Int) : Wd := { leave w x with pa := setI (leave w x).pa x to, ne := setI (leave w x).ne x (at' (leave w x).ch to), ch := setI (leave w x).ch to x }

theorem lvCh_len (w : Wd) (x : Int) : (lvCh w x).length = w.ch.length := by unfold lvCh; split <;> simp [set_len]
theorem lvNe_len (w : Wd) (x : Int) : (lvNe w x).length = w.ne.length := by unfold lvNe; split <;> simp [set_len]
theorem leave_n (w : Wd) (x : Int) : (leave w x).n = w.n := by unfold leave Wd.n; exact set_len _ _ _
theorem moved_n (w : Wd) (x to : Int) : (moved w x to).n = w.n := by
  unfold moved; show (setI (leave w x).pa x to).length = _; rw [set_len]; exact leave_n w x

theorem at_lvNe {w : Wd} (g : NestP.Good w) {x : Int} (hx : isT w.n x = true) (e : Int) : at' (lvNe w x) e = if e ∈ kids w (at' w.pa x) ∧ at' w.ne e = x then at' w.ne x else at' w.ne e := by
  have hx' := isT_iff.1 hx
  unfold lvNe ahead
  cases hf : (kids w (at' w.pa x)).find? fun c => at' w.ne c == x with
  | none =>
    rw [List.find?_eq_none] at hf
    dsimp only
    rw [if_neg]
    rintro ⟨h1, h2⟩
    exact hf e h1 (by rw [h2]; simp)
  | some c =>
    have hc := List.mem_of_find?_eq_some hf
    have hcx : at' w.ne c = x := by have := List.find?_some hf; simpa using this
    have hk := g.kid_isT hc
    have hcT := isT_iff.1 hk.2.1
    dsimp only
    rw [at_set _ (by omega) (by rw [g.nel]; exact hcT.2)]
    by_cases he : e = c
    · subst he; rw [if_pos rfl, if_pos ⟨hc, hcx⟩]
    · rw [if_neg he, if_neg]
      rintro ⟨h1, h2⟩
      exact he (path_uniq (by omega) (good_path g hk.1) (g.kids_nodup _) e h1 c hc h2 hcx)

theorem leave_good {w : Wd} (g : NestP.Good w) {x : Int} (hx : isT w.n x = true) : NestP.Good (leave w x) ∧ ∀ y : Int, 1 ≤ y → y < w.n → kids (leave w x) y = (kids w y).erase x := by
  have hx' := isT_iff.1 hx
  have hn : (leave w x).n = w.n := leave_n w x
  have hpa : ∀ e : Int, at' (leave w x).pa e = if e = x then 0 else at' w.pa e := fun e => at_set 0 (by omega) hx'.2 e
  have hne : ∀ e : Int, at' (leave w x).ne e = if e = x then 0 else if e ∈ kids w (at' w.pa x) ∧ at' w.ne e = x then at' w.ne x else at' w.ne e := by
    intro e
    show at' (setI (lvNe w x) x 0) e = _
    rw [at_set 0 (by omega) (by rw [lvNe_len, g.nel]; exact hx'.2), at_lvNe g hx]
  have hup : at' w.pa x = 0 ∨ isT w.n (at' w.pa x) = true := by
    rcases g.par x hx'.1 hx'.2 with h | h
    · exact .inl h
    · exact .inr (isT_iff.2 h)
  have hch : ∀ e : Int, at' (leave w x).ch e = if e = at' w.pa x ∧ at' w.ch (at' w.pa x) = x then at' w.ne x else at' w.ch e := by
    intro e
    show at' (lvCh w x) e = _
    unfold lvCh
    by_cases hc : at' w.ch (at' w.pa x) = x
    · have hupT := hup.resolve_left fun h0 => by rw [h0, g.ch0] at hc; omega
      have hupT' := isT_iff.1 hupT
      rw [if_pos hc, at_set _ (by omega) (by rw [g.chl]; exact hupT'.2)]
      by_cases he : e = at' w.pa x
      · rw [if_pos he, if_pos ⟨he, hc⟩]
      · rw [if_neg he, if_neg fun h => he h.1]
    · rw [if_neg hc, if_neg fun h => hc h.2]
  have key : NestP.Good (leave w x) ∧ ∀ y : Int, 1 ≤ y → y < (leave w x).n → kids (leave w x) y = (kids w y).erase x := by
    refine good_parts (fun y => (kids w y).erase x) (fun y => (ups w y).length) (by rw [hn]; exact g.pos) ?_ ?_ ?_ ?_ ?_ ?_ ?_ ?_ ?_
    · rw [hn]; exact (lvCh_len w x).trans g.chl
    · rw [hn]; exact (set_len _ _ _).trans ((lvNe_len w x).trans g.nel)
    · rw [hpa]; split
      · rfl
      · exact g.pa0
    · rw [hch]
      split
      · rename_i h
        rw [← h.1, g.ch0] at h
        omega
      · exact g.ch0
    · rw [hne, if_neg (by omega)]
      split
      · rename_i h
        have := isT_iff.1 (g.kid_isT h.1).2.1
        omega
      · exact g.ne0
    · intro y hy hyn
      rw [hn] at hyn ⊢
      rw [hpa]; split
      · exact .inl rfl
      · exact g.par y hy hyn
    · intro y hy hyn
      rw [hn] at hyn
      rw [hpa, hne]
      split
      · intro _; rfl
      · intro hp
        have h0 := g.rut y hy hyn hp
        rw [h0]
        split
        · rename_i h; omega
        · rfl
    · intro y hy hyn
      rw [hn] at hyn
      have hyT := isT_iff.2 ⟨hy, hyn⟩
      have hp := good_path g hyT
      refine ⟨?_, (g.kids_nodup y).erase _, fun e => ?_⟩
      · rw [hch]
        by_cases hyx : y = at' w.pa x
        · have hxm : x ∈ kids w y := by rw [hyx]; exact g.mem x hx'.1 hx'.2 (by omega)
          obtain ⟨A, B, hAB⟩ := List.append_of_mem hxm
          have hnd := g.kids_nodup y
          rw [hAB] at hp hnd
          have hnd' := List.nodup_append.1 hnd
          have hxA : x ∉ A := fun h => hnd'.2.2 x h x List.mem_cons_self rfl
          have hxB : x ∉ B := (List.nodup_cons.1 hnd'.2.1).1
          have her : (kids w y).erase x = A ++ B := by
            rw [hAB, List.erase_append_right _ hxA, List.erase_cons_head]
          rw [her]
          have hBx : ∀ e ∈ B, at' w.ne e ≠ x := by
            intro e he h
            have hpB : ∀ (A : List Int) (c : Int), path (at' w.ne) c (A ++ x :: B) → path (at' w.ne) (at' w.ne x) B := by
              intro A
              induction A with
              | nil => intro c h; exact h.2
              | cons a A ih => intro c h; exact ih _ h.2
            rcases path_tail (hpB _ _ hp) e he with h0 | h0
            · omega
            · rw [h] at h0
              exact hxB (List.mem_of_mem_tail h0)
          have hcut := path_cut (g := at' (leave w x).ne) hxA hp (fun e he => by
            have hek : e ∈ kids w (at' w.pa x) := by
              rw [← hyx, hAB]
              rcases List.mem_append.1 he with h | h
              · exact List.mem_append_left _ h
              · exact List.mem_append_right _ (List.mem_cons_of_mem _ h)
            have hex : e ≠ x := fun h => by
              subst h
              rcases List.mem_append.1 he with h | h
              · exact hxA h
              · exact hxB h
            rw [hne, if_neg hex]
            by_cases h : at' w.ne e = x
            · rw [if_pos ⟨hek, h⟩, if_pos h]
            · rw [if_neg fun hh => h hh.2, if_neg h]) hBx
          by_cases hc : at' w.ch y = x
          · rw [if_pos hc] at hcut
            rw [if_pos ⟨hyx, by rw [← hyx]; exact hc⟩]
            exact hcut
          · rw [if_neg hc] at hcut
            rw [if_neg fun h => hc (by rw [hyx]; exact h.2)]
            exact hcut
        · rw [if_neg fun h => hyx h.1]
          have hxm : x ∉ kids w y := fun h => hyx (g.kid_isT h).2.2.symm
          rw [List.erase_of_not_mem hxm]
          refine path_congr (fun e he => ?_) hp
          have hex : e ≠ x := fun h => by subst h; exact hxm he
          rw [hne, if_neg hex, if_neg]
          rintro ⟨h1, _⟩
          have a := (g.kid_isT h1).2.2
          have b := (g.kid_isT he).2.2
          exact hyx (b.symm.trans a)
      · rw [(g.kids_nodup y).mem_erase_iff, g.kid_iff hyT, hpa, hn]
        constructor
        · rintro ⟨h1, h2, h3⟩
          exact ⟨h2, by rw [if_neg h1]; exact h3⟩
        · rintro ⟨h1, h2⟩
          by_cases he : e = x
          · rw [if_pos he] at h2; omega
          · rw [if_neg he] at h2; exact ⟨he, h1, h2⟩
    · intro y hy hyn
      rw [hn] at hyn
      rw [hpa]
      split
      · intro h; exact absurd rfl h
      · intro h
        rw [g.ups_cons (isT_iff.2 ⟨hy, hyn⟩)]
        simp
  exact ⟨key.1, fun y hy hyn => key.2 y hy (by rw [hn]; exact hyn)⟩

theorem moved_good {w : Wd} (g : NestP.Good w) {x to : Int} (hx : isT w.n x = true) (ht : isT w.n to = true) (hw : x ∉ ups w to) : NestP.Good (moved w x to) := by
  obtain ⟨gl, hkl⟩ := leave_good g hx
  have hx' := isT_iff.1 hx
  have ht' := isT_iff.1 ht
  have hl : (leave w x).n = w.n := leave_n w x
  have hn : (moved w x to).n = w.n := moved_n w x to
  have hpl : at' (leave w x).pa x = 0 := by
    show at' (setI w.pa x 0) x = 0
    rw [at_set 0 (by omega) hx'.2, if_pos rfl]
  have hpa : ∀ e : Int, at' (moved w x to).pa e = if e = x then to else at' (leave w x).pa e := fun e => at_set to (by omega) (by show x < ((leave w x).n : Int); rw [hl]; exact hx'.2) e
  have hne : ∀ e : Int, at' (moved w x to).ne e = if e = x then at' (leave w x).ch to else at' (leave w x).ne e := fun e => at_set _ (by omega) (by rw [gl.nel, hl]; exact hx'.2) e
  have hch : ∀ e : Int, at' (moved w x to).ch e = if e = to then x else at' (leave w x).ch e := fun e => at_set _ (by omega) (by rw [gl.chl, hl]; exact ht'.2) e
  have hpw : ∀ e : Int, e ≠ x → at' (leave w x).pa e = at' w.pa e := by
    intro e he
    show at' (setI w.pa x 0) e = _
    rw [at_set 0 (by omega) hx'.2, if_neg he]
  have hxk : ∀ y, x ∉ kids (leave w x) y := fun y h => by
    have := gl.kid_isT h
    have h1 := isT_iff.1 this.1
    omega
  refine (good_parts (fun y => if y = to then x :: kids (leave w x) to else kids (leave w x) y) (fun y => (ups w y).length + if x ∈ ups w y then w.n else 0) (by rw [hn]; exact g.pos) ?_ ?_ ?_ ?_ ?_ ?_ ?_ ?_ ?_).1
  · rw [hn]; exact (set_len _ _ _).trans (gl.chl.trans hl)
  · rw [hn]; exact (set_len _ _ _).trans (gl.nel.trans hl)
  · rw [hpa, if_neg (by omega)]; exact gl.pa0
  · rw [hch, if_neg (by omega)]; exact gl.ch0
  · rw [hne, if_neg (by omega)]; exact gl.ne0
  · intro y hy hyn
    rw [hn] at hyn ⊢
    rw [hpa]
    split
    · exact .inr ht'
    · have := gl.par y hy (by rw [hl]; exact hyn)
      rw [hl] at this
      exact this
  · intro y hy hyn
    rw [hn] at hyn
    rw [hpa, hne]
    split
    · intro h; omega
    · exact gl.rut y hy (by rw [hl]; exact hyn)
  · intro y hy hyn
    rw [hn] at hyn
    have hyT : isT (leave w x).n y = true := isT_iff.2 ⟨hy, by rw [hl]; exact hyn⟩
    have hp := good_path gl hyT
    have hagree : ∀ z, ∀ e ∈ kids (leave w x) z, at' (moved w x to).ne e = at' (leave w x).ne e := by
      intro z e he
      have hex : e ≠ x := fun h => by subst h; exact hxk z he
      rw [hne, if_neg hex]
    rw [hch]
    by_cases hyt : y = to
    · subst hyt
      rw [if_pos rfl, if_pos rfl]
      refine ⟨⟨rfl, ?_⟩, List.nodup_cons.2 ⟨hxk y, gl.kids_nodup y⟩, fun e => ?_⟩
      · rw [hne, if_pos rfl]
        exact path_congr (hagree y) hp
      · rw [List.mem_cons, gl.kid_iff hyT, hpa, hn, hl]
        constructor
        · rintro (rfl | ⟨h1, h2⟩)
          · exact ⟨hx, if_pos rfl⟩
          · have he : e ≠ x := fun h => by subst h; omega
            exact ⟨h1, by rw [if_neg he]; exact h2⟩
        · rintro ⟨h1, h2⟩
          by_cases he : e = x
          · exact .inl he
          · rw [if_neg he] at h2; exact .inr ⟨h1, h2⟩
    · rw [if_neg hyt, if_neg hyt]
      refine ⟨path_congr (hagree y) hp, gl.kids_nodup y, fun e => ?_⟩
      rw [gl.kid_iff hyT, hpa, hn, hl]
      constructor
      · rintro ⟨h1, h2⟩
        have he : e ≠ x := fun h => by subst h; omega
        exact ⟨h1, by rw [if_neg he]; exact h2⟩
      · rintro ⟨h1, h2⟩
        by_cases he : e = x
        · rw [if_pos he] at h2; exact absurd h2.symm hyt
        · rw [if_neg he] at h2; exact ⟨h1, h2⟩
  · intro y hy hyn
    rw [hn] at hyn
    have hyT := isT_iff.2 ⟨hy, hyn⟩
    rw [hpa]
    by_cases he : y = x
    · subst he
      intro _
      rw [if_pos rfl, if_neg hw, if_pos (by rw [g.ups_cons hyT]; exact List.mem_cons_self)]
      have := g.ups_len to
      omega
    · rw [if_neg he, hpw y he]
      intro hp
      rw [g.ups_cons hyT]
      have : (x ∈ y :: ups w (at' w.pa y)) ↔ x ∈ ups w (at' w.pa y) := by
        rw [List.mem_cons]
        exact ⟨fun h => h.resolve_left fun h => he h.symm, .inr⟩
      simp only [this]
      simp
end Go.Proofs.Ytncdicagadbafaa.MoveP
