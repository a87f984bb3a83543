/- nest.Right of any world of up to 60 things. Conditions: the lists of the world can be read. -/
import Derived.Test.YtncdicagadbafaaRgtR
import Derived.Test.YtncdicagadbafaaNestZ
import Derived.Test.YtncdicagadbafaaWorldD
namespace Go.Proofs.Ytncdicagadbafaa.RgtA
open Go Go.RowKit NestP NestW NestX NestY NestZ ValP ValW ValX ValR Sq WorldD RgtW RgtR MvR

theorem alloc3 {w W : World} {o1 o2 o3 : Obj} (h : ((w.alloc o1).alloc o2).alloc o3 = W) :
    W.heap.size = w.heap.size + 3 ∧ W.heap[w.heap.size]? = some o1 ∧ W.heap[w.heap.size + 1]? = some o2 ∧ W.heap[w.heap.size + 1 + 1]? = some o3 ∧ Below w.heap.size w W := by
  subst h
  have n1 := World.alloc_heap_new w o1
  have n2 := World.alloc_heap_new (w.alloc o1) o2
  have n3 := World.alloc_heap_new ((w.alloc o1).alloc o2) o3
  simp only [World.size_alloc] at n2 n3
  exact ⟨by simp, (Below.heap_alloc _ _ _ (by simp only [World.size_alloc]; omega)).trans ((Below.heap_alloc _ _ _ (by simp only [World.size_alloc]; omega)).trans n1), (Below.heap_alloc _ _ _ (by simp only [World.size_alloc]; omega)).trans n2, n3, ((((Below.refl _ w).alloc (Nat.le_refl _) _).alloc (by simp only [World.size_alloc]; omega) _).alloc (by simp only [World.size_alloc]; omega) _)⟩
theorem cell_of {w : World} {g i : Nat} {t : TypeId} {fr : Nat × Nat} {cs : Array Value} {v : Value} (h : w.heap[g]? = some (.cells cs t fr)) (hv : cs[i]? = some v) : w.cell? ⟨g, i, none⟩ = some v := by
  unfold World.cell?
  simp only [h]
  exact hv
def Kq (q1 q2 q3 : Bool) (k : Nat) : Prop := (1 ≤ k → q1 = false) ∧ (2 ≤ k → q2 = false) ∧ (3 ≤ k → q3 = false)
theorem outs {n : Nat} {l : List Int} : l.any (out n) = !inB n l := by
  unfold inB out
  rw [List.not_all_eq_any_not]
  congr 1
  funext x
  rw [Bool.eq_iff_iff]
  simp only [Bool.or_eq_true, decide_eq_true_eq, Bool.not_eq_true', Bool.and_eq_false_iff, decide_eq_false_iff_not]
  omega
theorem ends_eq {g : Wd} {n : Nat} (h : g.n = n) : endsB g.pa n = ends g := by unfold endsB ends; rw [h]
theorem inside_parts {g : Wd} {n : Nat} (h : g.n = n) : inside g = (!(g.pa.any (out n)) && !(g.ch.any (out n)) && !(g.ne.any (out n))) := by
  unfold inside
  rw [outs, outs, outs, h, Bool.not_not, Bool.not_not, Bool.not_not]

set_option maxRecDepth 100000 in
set_option maxHeartbeats 4000000 in
theorem right_i {v0 v4 v5 v6 v7 v8 v9 v10 v11 v12 : Value} {A1 A2 A3 : Option Addr} {n c1 n2 c2 n3 c3 : Nat} (d : Wd) (w : World) (hp : Rd I w A1 n d.pa) (hc : Rd I w A2 n2 d.ch) (hne : Rd I w A3 n3 d.ne) (hn : n ≤ 60) :
    Calls Try.prog 82 #[.agg #[v0, .slice A1 n c1, .slice A2 n2 c2, .slice A3 n3 c3, v4, v5, v6, v7, v8, v9, v10, v11, v12]] w fun e w' => e = .returned (.bool (right d)) ∧ Below w.heap.size w w' := by
  have HP := Lib.hid hp
  have HC := Lib.hid hc
  have HN := Lib.hid hne
  clear hp hc hne
  go_enter Try.func82, Try.ntmps82
  go_upto_region 2 with (fail)
  go_cut [45] (fun v wx => v = .bool (!head d) ∧ wx = (w.alloc (.cells #[v0, .slice A1 n c1, .slice A2 n2 c2, .slice A3 n3 c3, v4, v5, v6, v7, v8, v9, v10, v11, v12] 31)).alloc (.cells #[.int .i64 (n : Int)] 3))
  case first =>
    by_cases h0 : n = 0
    · have t0 : decide ((n : Int) < 1) = true := by simp [h0]
      have H := Lib.hid (show head d = false by unfold head Wd.n; rw [← HP.out.1, h0]; rfl)
      clear h0
      go_wp2_with fail
      go_meet
      exact ⟨by rw [H.out]; rfl, rfl⟩
    · have t0 : decide ((n : Int) < 1) = false := by simp; omega
      have n1 : ¬ (n : Int) < 1 := by omega
      by_cases h2 : n2 = n
      · by_cases h3 : n3 = n
        · obtain ⟨b1, o1, rfl, hb1, hl1, hc1⟩ := HP.out.at_ (show 0 < n by omega)
          obtain ⟨b2, o2, rfl, hb2, hl2, hc2⟩ := HC.out.at_ (show 0 < n2 by omega)
          obtain ⟨b3, o3, rfl, hb3, hl3, hc3⟩ := HN.out.at_ (show 0 < n3 by omega)
          have HH := Lib.hid (show head d = ((d.pa[0] == 0) && (d.ch[0] == 0) && (d.ne[0] == 0)) by
            have e1 := at_lt hl1
            have e2 := at_lt hl2
            have e3 := at_lt hl3
            have d1 : decide (d.n ≠ 0) = true := decide_eq_true (by unfold Wd.n; rw [← HP.out.1]; exact h0)
            have d2 : decide (d.ch.length = d.n) = true := decide_eq_true (by unfold Wd.n; rw [← HP.out.1, ← HC.out.1]; exact h2)
            have d3 : decide (d.ne.length = d.n) = true := decide_eq_true (by unfold Wd.n; rw [← HP.out.1, ← HN.out.1]; exact h3)
            unfold head
            rw [d1, d2, d3, show at' d.pa 0 = d.pa[0] from e1, show at' d.ch 0 = d.ch[0] from e2, show at' d.ne 0 = d.ne[0] from e3]
            simp only [Bool.true_and])
          obtain ⟨p, hp⟩ : ∃ p, d.pa[0] = p := ⟨_, rfl⟩
          obtain ⟨c, hc⟩ : ∃ c, d.ch[0] = c := ⟨_, rfl⟩
          obtain ⟨e, he⟩ : ∃ e, d.ne[0] = e := ⟨_, rfl⟩
          rw [hp] at hc1 HH
          rw [hc] at hc2 HH
          rw [he] at hc3 HH
          rw [Nat.add_zero] at hc1 hc2 hc3
          unfold I at hc1 hc2 hc3
          have q1 : ((n2 : Int) != (n : Int)) = false := by simp [h2]
          have q2 : ((n3 : Int) != (n : Int)) = false := by simp [h3]
          have z0 : (0 : Int) < (n : Int) := by omega
          have z2 : (0 : Int) < (n2 : Int) := by omega
          have z3 : (0 : Int) < (n3 : Int) := by omega
          have y0 : 0 < n := by omega
          have y2 : 0 < n2 := by omega
          have y3 : 0 < n3 := by omega
          clear hp hc he hl1 hl2 hl3 h2 h3 h0
          by_cases hp0 : p = 0
          · have r1 : (p != 0) = false := by simp [hp0]
            by_cases hc0 : c = 0
            · have r2 : (c != 0) = false := by simp [hc0]
              by_cases he0 : e = 0
              · have r3 : (e != 0) = false := by simp [he0]
                have H := Lib.hid (show head d = true by rw [HH.out, hp0, hc0, he0]; rfl)
                clear hp0 hc0 he0
                go_wp2_with fail
                go_meet
                exact ⟨by rw [H.out]; rfl, rfl⟩
              · have r3 : (e != 0) = true := by simp [he0]
                have H := Lib.hid (show head d = false by rw [HH.out, beq_eq_false_iff_ne.2 he0, Bool.and_false])
                clear hp0 hc0 he0
                go_wp2_with fail
                go_meet
                exact ⟨by rw [H.out]; rfl, rfl⟩
            · have r2 : (c != 0) = true := by simp [hc0]
              have H := Lib.hid (show head d = false by rw [HH.out, beq_eq_false_iff_ne.2 hc0, Bool.and_false, Bool.false_and])
              clear hp0 hc0
              go_wp2_with fail
              go_meet
              exact ⟨by rw [H.out]; rfl, rfl⟩
          · have r1 : (p != 0) = true := by simp [hp0]
            have H := Lib.hid (show head d = false by rw [HH.out, beq_eq_false_iff_ne.2 hp0, Bool.false_and, Bool.false_and])
            clear hp0
            go_wp2_with fail
            go_meet
            exact ⟨by rw [H.out]; rfl, rfl⟩
        · have q1 : ((n2 : Int) != (n : Int)) = false := by simp [h2]
          have q2 : ((n3 : Int) != (n : Int)) = true := by simp; omega
          have H := Lib.hid (show head d = false by
            have d3 : decide (d.ne.length = d.n) = false := decide_eq_false (by unfold Wd.n; rw [← HP.out.1, ← HN.out.1]; exact h3)
            unfold head
            rw [d3]; simp)
          clear h0 h2 h3
          go_wp2_with fail
          go_meet
          exact ⟨by rw [H.out]; rfl, rfl⟩
      · have q1 : ((n2 : Int) != (n : Int)) = true := by simp; omega
        have H := Lib.hid (show head d = false by
          have d3 : decide (d.ch.length = d.n) = false := decide_eq_false (by unfold Wd.n; rw [← HP.out.1, ← HC.out.1]; exact h2)
          unfold head
          rw [d3]; simp)
        clear h0 h2
        go_wp2_with fail
        go_meet
        exact ⟨by rw [H.out]; rfl, rfl⟩
  case rest =>
    obtain ⟨rfl, rfl⟩ := hcut
    by_cases hh : head d = true
    · have hdn : d.n = n := HP.out.1.symm
      obtain ⟨g0, g1, g2⟩ := head_parts hh
      obtain rfl : n = n2 := by rw [HC.out.1, g1, hdn]
      obtain rfl : n = n3 := by rw [HN.out.1, g2, hdn]
      have HDN := Lib.hid hdn
      have HH := Lib.hid hh
      rw [hh, Bool.not_true]
      have hn0 : 0 < n := by rw [← hdn]; omega
      clear hh g0 g1 g2 hdn
      obtain ⟨q1, hq1⟩ : ∃ q, d.pa.any (out n) = q := ⟨_, rfl⟩
      obtain ⟨q2, hq2⟩ : ∃ q, d.ch.any (out n) = q := ⟨_, rfl⟩
      obtain ⟨q3, hq3⟩ : ∃ q, d.ne.any (out n) = q := ⟨_, rfl⟩
      have HI := Lib.hid (show inside d = (!q1 && !q2 && !q3) by rw [inside_parts HDN.out, hq1, hq2, hq3])
      have HQ1 := Lib.hid hq1
      have HQ2 := Lib.hid hq2
      have HQ3 := Lib.hid hq3
      clear hq1 hq2 hq3
      go_wp2_with fail
      obtain ⟨W4, hW4⟩ : ∃ W4, ((w.alloc (.cells #[v0, .slice A1 n c1, .slice A2 n c2, .slice A3 n c3, v4, v5, v6, v7, v8, v9, v10, v11, v12] 31)).alloc (.cells #[.int .i64 (n : Int)] 3)).alloc (.cells #[.slice A1 n c1, .slice A2 n c2, .slice A3 n c3] 23) = W4 := ⟨_, rfl⟩
      rw [hW4]
      obtain ⟨s4, h0, h1, h2, hB⟩ := alloc3 hW4
      have R1 := Lib.hid (HP.out.below hB)
      have R2 := Lib.hid (HC.out.below hB)
      have R3 := Lib.hid (HN.out.below hB)
      have HB := Lib.hid hB
      clear hB hW4
      have hn1 : W4.cell? ⟨w.heap.size + 1, 0, none⟩ = some (.int .i64 (n : Int)) := cell_of h1 rfl
      have l0 : W4.cell? ⟨w.heap.size + 1 + 1, 0, none⟩ = some (.slice A1 n c1) := cell_of h2 rfl
      have l1 : W4.cell? ⟨w.heap.size + 1 + 1, 1, none⟩ = some (.slice A2 n c2) := cell_of h2 rfl
      have l2 : W4.cell? ⟨w.heap.size + 1 + 1, 2, none⟩ = some (.slice A3 n c3) := cell_of h2 rfl
      obtain ⟨x0, x1, x2, x3, x4, x5, x6, x7, x8, x9, x10, x11, x12, xf⟩ := cells13 h0
      go_loop [54] (fun i => ∃ k : Nat, k ≤ 3 ∧ i = .int .i64 (k : Int) ∧ Kq q1 q2 q3 k) (fun i => 3 - (intOf i).toNat)
      case atStart => exact ⟨0, by omega, rfl, ⟨fun h => by omega, fun h => by omega, fun h => by omega⟩⟩
      case round =>
        obtain ⟨k, hk, rfl, HK⟩ := hrel
        have hk' : k = 0 ∨ k = 1 ∨ k = 2 ∨ k = 3 := by omega
        rcases hk' with rfl | rfl | rfl | rfl
        · cases q1 with
          | false =>
            go_wp2_with (go_at_call 139; refine (ctf_i _ n _ n (w.heap.size + 1) _ _ R1.out (by omega) hn1).mono ?_; rintro e w9 ⟨rfl, rfl⟩; rw [HQ1.out])
            go_round
            case rel => exact ⟨1, by omega, rfl, ⟨fun h => rfl, fun h => by omega, fun h => by omega⟩⟩
            case measure => simp [intOf]
          | true =>
            have HF := Lib.hid (show right d = false by unfold right; rw [HI.out]; simp)
            go_wp2_with (go_at_call 139; refine (ctf_i _ n _ n (w.heap.size + 1) _ _ R1.out (by omega) hn1).mono ?_; rintro e w9 ⟨rfl, rfl⟩; rw [HQ1.out])
            go_ret
            exact ⟨by rw [HF.out]; rfl, HB.out⟩
        · cases q2 with
          | false =>
            go_wp2_with (go_at_call 139; refine (ctf_i _ n _ n (w.heap.size + 1) _ _ R2.out (by omega) hn1).mono ?_; rintro e w9 ⟨rfl, rfl⟩; rw [HQ2.out])
            go_round
            case rel => exact ⟨2, by omega, rfl, ⟨fun h => HK.1 (by omega), fun h => rfl, fun h => by omega⟩⟩
            case measure => simp [intOf]
          | true =>
            have HF := Lib.hid (show right d = false by unfold right; rw [HI.out]; simp)
            go_wp2_with (go_at_call 139; refine (ctf_i _ n _ n (w.heap.size + 1) _ _ R2.out (by omega) hn1).mono ?_; rintro e w9 ⟨rfl, rfl⟩; rw [HQ2.out])
            go_ret
            exact ⟨by rw [HF.out]; rfl, HB.out⟩
        · cases q3 with
          | false =>
            go_wp2_with (go_at_call 139; refine (ctf_i _ n _ n (w.heap.size + 1) _ _ R3.out (by omega) hn1).mono ?_; rintro e w9 ⟨rfl, rfl⟩; rw [HQ3.out])
            go_round
            case rel => exact ⟨3, by omega, rfl, ⟨fun h => HK.1 (by omega), fun h => HK.2.1 (by omega), fun h => rfl⟩⟩
            case measure => simp [intOf]
          | true =>
            have HF := Lib.hid (show right d = false by unfold right; rw [HI.out]; simp)
            go_wp2_with (go_at_call 139; refine (ctf_i _ n _ n (w.heap.size + 1) _ _ R3.out (by omega) hn1).mono ?_; rintro e w9 ⟨rfl, rfl⟩; rw [HQ3.out])
            go_ret
            exact ⟨by rw [HF.out]; rfl, HB.out⟩
        · have HI2 := Lib.hid (show inside d = true by rw [HI.out, HK.1 (by omega), HK.2.1 (by omega), HK.2.2 (by omega)]; rfl)
          have HE := Lib.hid (show right d = (rows d && endsB d.pa n) by unfold right; rw [HH.out, HI2.out, ends_eq HDN.out]; rfl)
          have HA := Lib.hid (show ∀ x, 0 ≤ at' d.pa x ∧ at' d.pa x < n by
            have h := HI2.out
            unfold inside at h
            simp only [Bool.and_eq_true, HDN.out] at h
            exact at_in h.1.1 hn0)
          obtain ⟨r1, hr1⟩ : ∃ r, rows d = r := ⟨_, rfl⟩
          obtain ⟨r2, hr2⟩ : ∃ r, endsB d.pa n = r := ⟨_, rfl⟩
          have HR1 := Lib.hid hr1
          have HR2 := Lib.hid hr2
          rw [hr1, hr2] at HE
          clear hr1 hr2
          cases r1 with
          | false =>
            go_wp2_with (go_at_call 141; refine (rows_i d _ HDN.out R1.out R2.out R3.out hn hn0 HI2.out).mono ?_; rintro e w9 ⟨rfl, hb9⟩; rw [HR1.out])
            go_ret
            exact ⟨by rw [HE.out]; rfl, HB.out.trans (hb9.mono (by omega))⟩
          | true =>
            go_wp2_with (first | (go_at_call 141; refine (rows_i d _ HDN.out R1.out R2.out R3.out hn hn0 HI2.out).mono ?_; rintro e w9 ⟨rfl, hb9⟩; rw [HR1.out]; have h9 := (hb9.block _ (by omega)).trans h0; clear x0 x1 x2 x3 x4 x5 x6 x7 x8 x9 x10 x11 x12 xf; obtain ⟨x0, x1, x2, x3, x4, x5, x6, x7, x8, x9, x10, x11, x12, xf⟩ := cells13 h9) | (go_at_call 142; refine (ends_i d.pa _ (R1.out.below hb9) (by omega) hn0 HA.out).mono ?_; rintro e w10 ⟨rfl, hb10⟩; rw [HR2.out]))
            go_ret
            exact ⟨by rw [HE.out]; rfl, (HB.out.trans (hb9.mono (by omega))).trans (hb10.mono (by have := hb9.size; omega))⟩
    · have HF := Lib.hid (show right d = false by unfold right; simp [hh])
      rw [show head d = false by simpa using hh]
      go_wp2_with fail
      go_ret
      exact ⟨by rw [HF.out]; rfl, by go_grown⟩
end Go.Proofs.Ytncdicagadbafaa.RgtA
