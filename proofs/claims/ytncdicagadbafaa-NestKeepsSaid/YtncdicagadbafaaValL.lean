/- value.Tree and value.Bin(in) of the things of a small right world; clewref20.Children. Conditions: the world is right, at most 60 things. -/
import Derived.Test.YtncdicagadbafaaValV
import Derived.Test.YtncdicagadbafaaValT
import Derived.Test.YtncdicagadbafaaValK
namespace Go.Proofs.Ytncdicagadbafaa.ValL
open Go Go.RowKit NestP NestW NestX NestY ValP ValW ValX Sq ValK

theorem wr_T {n : Nat} {x : Int} (h : isT n x = true) (hn : n ≤ 60) : wr x = x := by
  have := isT_iff.1 h
  exact wr_in (by omega) (by omega)
theorem children_o {v0 v4 v5 v6 v7 v8 v9 v10 v11 v12 : Value} {A1 A2 A3 : Option Addr} {n c1 n2 c2 n3 c3 : Nat} (d : Wd) (x : Int) (w : World) (hp : Rd I w A1 n d.pa) (hc : Rd I w A2 n2 d.ch) (hne : Rd I w A3 n3 d.ne) (hn : n ≤ 17592186043904) :
    Calls Try.prog 49 #[.agg #[v0, .slice A1 n c1, .slice A2 n2 c2, .slice A3 n3 c3, v4, v5, v6, v7, v8, v9, v10, v11, v12], .int .i64 x] w fun e w' => ∃ A c, e = .returned (.slice A (kids d x).length c) ∧ Rd I w' A (kids d x).length (kids d x) ∧ Below w.heap.size w w' := by
  have HC := Lib.hid hc
  have HN := Lib.hid hne
  have HM := Lib.hid hn
  have HK := Lib.hid (show (if isT n x = true then chain n d.ne n (at' d.ch x) else []) = kids d x by unfold kids Wd.n; rw [← hp.len])
  clear hp hc hne hn
  go_enter Try.func49, Try.ntmps49
  go_wp2_with (go_at_call 113; refine (children_r d.ch d.ne x _ (HC.out.alloc _) (HN.out.alloc _) HM.out).mono ?_; rintro e w1 ⟨v, rfl, hown, hb⟩)
  go_ret
  rw [HK.out] at hown
  obtain ⟨A, c, rfl, _, _⟩ := hown.shape
  exact ⟨A, c, rfl, hown.rd, ((Below.refl _ _).alloc (Nat.le_refl _) _).trans (hb.mono (by simp))⟩
theorem tr1 {v0 v4 v5 v6 v7 v8 v9 v10 v11 v12 : Value} {A1 A2 A3 : Option Addr} {n c1 n2 c2 n3 c3 : Nat} (d : Wd) (x : Int) (w : World) (hp : Rd I w A1 n d.pa) (hx : isT n x = true) (hn : n ≤ 60) :
    Calls Try.prog 65 #[.agg #[v0, .slice A1 n c1, .slice A2 n2 c2, .slice A3 n3 c3, v4, v5, v6, v7, v8, v9, v10, v11, v12], .int .i64 1, .int .i64 x] w fun e w' => e = .returned (.tuple #[.int .i64 (at' d.pa x), .int .i64 0]) ∧ Below w.heap.size w w' := by
  refine (tree1_i d x w hp).mono ?_
  rintro e w' ⟨rfl, hb⟩
  rw [wr_T hx hn, if_pos hx, if_pos hx]
  exact ⟨rfl, hb⟩
theorem tr2 {v0 v4 v5 v6 v7 v8 v9 v10 v11 v12 : Value} {A1 A2 A3 : Option Addr} {n c1 n2 c2 n3 c3 : Nat} (d : Wd) (G : NestP.Good d) (x : Int) (w : World) (hp : Rd I w A1 n d.pa) (hc : Rd I w A2 n2 d.ch) (hx : isT n x = true) (hn : n ≤ 60) :
    Calls Try.prog 65 #[.agg #[v0, .slice A1 n c1, .slice A2 n2 c2, .slice A3 n3 c3, v4, v5, v6, v7, v8, v9, v10, v11, v12], .int .i64 2, .int .i64 x] w fun e w' => e = .returned (.tuple #[.int .i64 ((kids d x).getD 0 0), .int .i64 0]) ∧ Below w.heap.size w w' := by
  have e1 : n = d.n := hp.len
  have e2 : n2 = d.n := hc.len.trans G.chl
  refine (tree2_i d x w hc (e1.trans e2.symm)).mono ?_
  rintro e w' ⟨rfl, hb⟩
  rw [wr_T hx hn, if_pos hx, if_pos hx, kid_first G (e1 ▸ hx)]
  exact ⟨rfl, hb⟩
theorem tr3 {v0 v4 v5 v6 v7 v8 v9 v10 v11 v12 : Value} {A1 A2 A3 : Option Addr} {n c1 n2 c2 n3 c3 : Nat} (d : Wd) (G : NestP.Good d) (x : Int) (j : Nat) (w : World) (hp : Rd I w A1 n d.pa) (hne : Rd I w A3 n3 d.ne) (hx : isT n x = true) (hj : j < (kids d x).length) (hn : n ≤ 60) :
    Calls Try.prog 65 #[.agg #[v0, .slice A1 n c1, .slice A2 n2 c2, .slice A3 n3 c3, v4, v5, v6, v7, v8, v9, v10, v11, v12], .int .i64 3, .int .i64 ((kids d x).getD j 0)] w fun e w' => e = .returned (.tuple #[.int .i64 ((kids d x).getD (j + 1) 0), .int .i64 0]) ∧ Below w.heap.size w w' := by
  have e1 : n = d.n := hp.len
  have e2 : n3 = d.n := hne.len.trans G.nel
  have hk : isT n ((kids d x).getD j 0) = true := by
    rw [List.getD_eq_getElem?_getD, List.getElem?_eq_getElem hj, e1]
    exact (G.kid_isT (List.getElem_mem hj)).2.1
  refine (tree3_i d _ w hne (e1.trans e2.symm)).mono ?_
  rintro e w' ⟨rfl, hb⟩
  rw [wr_T hk hn, if_pos hk, if_pos hk, kid_next G (e1 ▸ hx) hj]
  exact ⟨rfl, hb⟩
theorem bn {v0 v4 v5 v6 v7 v8 v9 v10 v11 v12 : Value} {A1 A2 A3 : Option Addr} {n c1 n2 c2 n3 c3 : Nat} (d : Wd) (z x : Int) (w : World) (hp : Rd I w A1 n d.pa) (hz : isT n z = true) (hx : isT n x = true) (hn : n ≤ 60) :
    Calls Try.prog 57 #[.agg #[v0, .slice A1 n c1, .slice A2 n2 c2, .slice A3 n3 c3, v4, v5, v6, v7, v8, v9, v10, v11, v12], .int .i64 9, .int .i64 z, .int .i64 x] w fun e w' => e = .returned (.tuple #[.int .i64 (tr (at' d.pa z == x)), .int .i64 0]) ∧ Below w.heap.size w w' := by
  refine (ValY.bin_i d 9 z x w hp).mono ?_
  rintro e w' ⟨rfl, hb⟩
  rw [wr_T hz hn, wr_T hx hn, hz]
  exact ⟨by simp [opV, opE], hb⟩
end Go.Proofs.Ytncdicagadbafaa.ValL
