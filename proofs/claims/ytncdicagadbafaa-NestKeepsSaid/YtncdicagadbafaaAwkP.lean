/- Worlds whose slices do not lie in a given box; the empty world; nest.Move and nest.Remove of such. -/
import Derived.Test.YtncdicagadbafaaAwk
namespace Go.Proofs.Ytncdicagadbafaa.AwkP
open Go Go.RowKit NestP NestW NestX NestY ValP ValW ValX ValR Sq Rng RngU RngT RngC RngD RgIn WorldD CopP CopW MoveP LvP LvA MvW MvX MvA MixP Awk

/-- A value reads as a world in whatever world in which what lay, but block b, lies as it lay. -/
def Wb (b : Nat) (w : World) (v : Value) (g : Wd) : Prop := ∀ U : World, w.heap.size ≤ U.heap.size → (∀ k, k < w.heap.size → k ≠ b → U.heap[k]? = w.heap[k]?) → Wo U v g
theorem Wb.wo {b : Nat} {w : World} {v : Value} {g : Wd} (h : Wb b w v g) : Wo w v g := h w (Nat.le_refl _) fun _ _ _ => rfl
theorem Wb.on {b : Nat} {w w' : World} {v : Value} {g : Wd} (h : Wb b w v g) (h1 : w.heap.size ≤ w'.heap.size) (h2 : ∀ k, k < w.heap.size → k ≠ b → w'.heap[k]? = w.heap[k]?) : Wb b w' v g :=
  fun U hU hk => h U (Nat.le_trans h1 hU) fun k hlt hne => (hk k (Nat.lt_of_lt_of_le hlt h1) hne).trans (h2 k hlt hne)
theorem Wb.below {b : Nat} {w w' : World} {v : Value} {g : Wd} (h : Wb b w v g) (hb : Below w.heap.size w w') : Wb b w' v g := h.on hb.size fun k hk _ => hb.block k hk
theorem Wb.set {b i : Nat} {x : Value} {w : World} {v : Value} {g : Wd} (h : Wb b w v g) : Wb b (w.setCell ⟨b, i, none⟩ x) v g := h.on (by simp) fun k _ hne => Below.heap_setCell w _ x k hne
theorem wo_low {wb W : World} {v : Value} {g : Wd} (h : Wo wb v g) (hl : Low wb W) : Wo W v g := by
  obtain ⟨A0, A1, A2, A3, A4, A5, A6, n0, c0, n, c1, n2, c2, n3, c3, n4, c4, n5, c5, n6, c6, rfl, ⟨r0, r1, r2, r3, r4, r5, r6⟩, hr⟩ := h
  exact ⟨A0, A1, A2, A3, A4, A5, A6, n0, c0, n, c1, n2, c2, n3, c3, n4, c4, n5, c5, n6, c6, rfl, ⟨hl.rd r0, hl.rd r1, hl.rd r2, hl.rd r3, hl.rd r4, hl.rd r5, hl.rd r6⟩, hr⟩
theorem wb_new {w : World} {v : Value} {g : Wd} (h : Wo w v g) (o : Obj) : Wb w.heap.size (w.alloc o) v g := fun U hU hk =>
  wo_low h ⟨by have := hU; simp at this; omega, fun k hlt => (hk k (by simp; omega) (by omega)).trans (Below.heap_alloc w o k (by omega))⟩
theorem own_but {w w' : World} {B : Nat} {v : Value} {l : List Int} (h : Sq.Own I 3 w B v l) (hk : ∀ k, B ≤ k → k < w.heap.size → w'.heap[k]? = w.heap[k]?) : Sq.Own I 3 w' B v l := by
  have hl := fun k hk => (own_at h (k := k) hk).2
  obtain ⟨h0, h⟩ := h
  refine ⟨h0, ?_⟩
  rcases h with h | ⟨g', cap, cur, rfl, hB, hh, hr⟩
  · exact .inl h
  · exact .inr ⟨g', cap, cur, rfl, hB, (hk g' hB (hl g' rfl)).trans hh, hr⟩
theorem wb_of {b B : Nat} {w : World} {v : Value} {g : Wd} (h : Ow w B v g) (hf : Fit g) (hb : b < B) : Wb b w v g := fun U _ hk => by
  obtain ⟨A0, A1, A2, A3, A4, A5, A6, n0, c0, n, c1, n2, c2, n3, c3, n4, c4, n5, c5, n6, c6, rfl, ⟨o0, o1, o2, o3, o4, o5, o6⟩, ap⟩ := h
  have hk' : ∀ k, B ≤ k → k < w.heap.size → U.heap[k]? = w.heap[k]? := fun k hB hlt => hk k hlt (by omega)
  exact wo_of (B := B) ⟨A0, A1, A2, A3, A4, A5, A6, n0, c0, n, c1, n2, c2, n3, c3, n4, c4, n5, c5, n6, c6, rfl, ⟨own_but o0 hk', own_but o1 hk', own_but o2 hk', own_but o3 hk', own_but o4 hk', own_but o5 hk', own_but o6 hk'⟩, ap⟩ hf

theorem move_b {v : Value} (b : Nat) (g : Wd) (hG : NestP.Good g) (x y : Int) (w : World) (hbw : b < w.heap.size) (ho : Wb b w v g) :
    Calls Try.prog 39 #[v, .int .i64 x, .int .i64 y] w fun e w' => ∃ v', e = .returned (.tuple #[v', .int .i64 (mvE g x y)]) ∧ Wb b w' v' (mvG g x y) ∧ Below w.heap.size w w' := by
  have hf := fit_of ho.wo
  have ho' := ho
  obtain ⟨A0, A1, A2, A3, A4, A5, A6, n0, c0, n, c1, n2, c2, n3, c3, n4, c4, n5, c5, n6, c6, rfl, ⟨r0, r1, r2, r3, r4, r5, r6⟩, hu, hw, hb⟩ := ho.wo
  have hg : g.n = n := r1.len.symm
  obtain rfl : n2 = n := r2.len.trans (hG.chl.trans hg)
  obtain rfl : n3 = n2 := r3.len.trans (hG.nel.trans hg)
  unfold mvE mvG
  by_cases hT : isT g.n x = true ∧ isT g.n y = true
  · rw [if_pos hT, if_pos hT]
    rw [hg] at hT
    by_cases hin : within g y x = true
    · rw [if_pos hin, if_pos hin]
      refine (move_in g x y hT.1 hT.2 hin w r1 hb.2.1).mono ?_
      rintro e w' ⟨rfl, hb'⟩
      exact ⟨_, rfl, ho'.below hb', hb'⟩
    · rw [if_neg hin, if_neg hin]
      refine (move_ok g hG hg x y hT.1 hT.2 (by simpa using hin) w r0 r1 r2 r3 r4 r5 r6 hb).mono ?_
      rintro e w' ⟨v', rfl, hO, hb'⟩
      exact ⟨_, rfl, wb_of hO (fit_moved hf x y) hbw, hb'⟩
  · rw [if_neg hT, if_neg hT]
    rw [hg] at hT
    refine (move_no g x y (by cases h1 : isT n3 x <;> cases h2 : isT n3 y <;> simp_all) w).mono ?_
    rintro e w' ⟨rfl, hb'⟩
    exact ⟨_, rfl, ho'.below hb', hb'⟩
theorem remove_b {v : Value} (b : Nat) (g : Wd) (hG : NestP.Good g) (x : Int) (w : World) (hbw : b < w.heap.size) (ho : Wb b w v g) :
    Calls Try.prog 41 #[v, .int .i64 x] w fun e w' => ∃ v', e = .returned (.tuple #[v', .int .i64 (rmE g x)]) ∧ Wb b w' v' (rmG g x) ∧ Below w.heap.size w w' := by
  have hf := fit_of ho.wo
  have ho' := ho
  obtain ⟨A0, A1, A2, A3, A4, A5, A6, n0, c0, n, c1, n2, c2, n3, c3, n4, c4, n5, c5, n6, c6, rfl, ⟨r0, r1, r2, r3, r4, r5, r6⟩, hu, hw, hb⟩ := ho.wo
  have hg : g.n = n := r1.len.symm
  obtain rfl : n2 = n := r2.len.trans (hG.chl.trans hg)
  obtain rfl : n3 = n2 := r3.len.trans (hG.nel.trans hg)
  unfold rmE rmG
  by_cases hT : isT g.n x = true
  · rw [if_pos hT, if_pos hT]
    rw [hg] at hT
    refine (remove_ok g hG hg x hT w r0 r1 r2 r3 r4 r5 r6 hb).mono ?_
    rintro e w' ⟨v', rfl, hO, hb'⟩
    exact ⟨_, rfl, wb_of hO (fit_leave hf x) hbw, hb'⟩
  · rw [if_neg hT, if_neg hT]
    rw [hg] at hT
    refine (remove_no g x (by simpa using hT) w).mono ?_
    rintro e w' ⟨rfl, hb'⟩
    exact ⟨_, rfl, ho'.below hb', hb'⟩

theorem zero_good {n : Nat} (hn : 1 ≤ n) : NestP.Good (zeroW n) := by
  have hz : ∀ x : Int, at' (List.replicate n 0) x = 0 := fun x => by
    unfold at'
    split
    · rw [List.getD_eq_getElem?_getD, List.getElem?_replicate]
      split <;> rfl
    · rfl
  have hl : (zeroW n).n = n := by show (List.replicate n (0 : Int)).length = n; simp
  refine (good_parts (w := zeroW n) (fun _ => []) (fun _ => 0) (by omega) ?_ ?_ (hz 0) (hz 0) (hz 0) (fun x _ _ => .inl (hz x)) (fun x _ _ _ => hz x) (fun x _ _ => ⟨show path (at' (zeroW n).ne) (at' (zeroW n).ch x) [] from hz x, List.nodup_nil, fun e => ⟨fun h => by simp at h, fun h => ?_⟩⟩) (fun x _ _ h => absurd (hz x) h)).1
  · rw [hl]; show (List.replicate n (0 : Int)).length = n; simp
  · rw [hl]; show (List.replicate n (0 : Int)).length = n; simp
  · have h2 : (0 : Int) = x := (hz e).symm.trans h.2
    omega
end Go.Proofs.Ytncdicagadbafaa.AwkP
