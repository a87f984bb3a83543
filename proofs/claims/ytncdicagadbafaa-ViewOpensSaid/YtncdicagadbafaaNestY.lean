/- The walk of the reference's check of one thing's children. -/
import Derived.Test.YtncdicagadbafaaNestX
import Derived.IntWalk
namespace Go.Proofs.Ytncdicagadbafaa.NestY
open Go Go.RowKit NestP Sq NestW NestX

theorem quiet_left {P : Program} {f : FuncId} {args : Array Value} {w : World} {n : Nat} {v : Value}
    (h : Calls P f args (w.drewN n) fun e w' => e = .returned v ∧ w.drewN n = w') : Calls P f args (w.drewN n) fun e w'' => e = .returned v ∧ ∃ m, w'' = w.drewN m :=
  h.mono fun _ _ ⟨he, hm⟩ => ⟨he, n, hm.symm⟩
theorem quiet_add_left {P : Program} {f : FuncId} {args : Array Value} {w : World} {a n : Nat} {v : Value}
    (h : Calls P f args (w.drewN (a + n)) fun e w' => e = .returned v ∧ w.drewN (a + n) = w') : Calls P f args (w.drewN (a + n)) fun e w'' => e = .returned v ∧ ∃ m, w'' = w.drewN (a + m) :=
  h.mono fun _ _ ⟨he, hm⟩ => ⟨he, n, hm.symm⟩

theorem kids_isT {d : Wd} {x e : Int} (h : e ∈ kids d x) : isT d.n e = true := by
  unfold kids at h
  split at h
  · exact chain_isT _ _ e h
  · simp at h
theorem kids_short (d : Wd) (x : Int) : (kids d x).length ≤ d.n := by
  unfold kids
  split
  · exact chain_len _ _
  · simp
/-- The part of the check that speaks of one child. -/
def okKid (d : Wd) (x e : Int) : Bool := (at' d.pa e == x) && ((kids d x).count e == 1)
theorem listed_no {d : Wd} {x : Int} {j : Nat} (hj : j < (kids d x).length) (h : okKid d x (kids d x)[j] = false) : listed d x = false := by
  unfold listed
  have : ((kids d x).all fun e => (at' d.pa e == x) && ((kids d x).count e == 1)) = false := by
    rw [List.all_eq_false]
    exact ⟨_, List.getElem_mem hj, by unfold okKid at h; simp only [h]; simp⟩
  rw [this, Bool.false_and]
theorem listed_yes {d : Wd} {x : Int} (h : ∀ j (hj : j < (kids d x).length), okKid d x (kids d x)[j] = true) : listed d x = (ended d x == 0) := by
  unfold listed
  have : ((kids d x).all fun e => (at' d.pa e == x) && ((kids d x).count e == 1)) = true := by
    rw [List.all_eq_true]
    intro e he
    obtain ⟨j, hj, rfl⟩ := List.getElem_of_mem he
    exact h j hj
  rw [this, Bool.true_and]

set_option maxRecDepth 100000 in
set_option maxHeartbeats 1000000 in
theorem listed_r {v0 v4 v5 v6 v7 v8 v9 v10 v11 v12 : Value} {A1 A2 A3 : Option Addr} {n c1 n2 c2 n3 c3 : Nat} (d : Wd) (x : Int) (w : World) (hp : Rd I w A1 n d.pa) (hc : Rd I w A2 n2 d.ch) (hne : Rd I w A3 n3 d.ne) (hn : n ≤ 17592186043904) (h2 : n = n2) (h3 : n = n3) (hx : isT d.n x = true) :
    Calls Try.prog 154 #[.agg #[v0, .slice A1 n c1, .slice A2 n2 c2, .slice A3 n3 c3, v4, v5, v6, v7, v8, v9, v10, v11, v12], .int .i64 x] w fun e w' => e = .returned (.bool (listed d x)) ∧ Below w.heap.size w w' := by
  subst h2 h3
  have HP := Lib.hid hp
  have HC := Lib.hid hc
  have HN := Lib.hid hne
  have hdn : d.n = n := hp.1.symm
  have HDN := Lib.hid hdn
  rw [hdn] at hx
  have HX := Lib.hid hx
  have HKI := Lib.hid (fun e (he : e ∈ kids d x) => hdn ▸ kids_isT he)
  have HKS := Lib.hid (show (kids d x).length ≤ n from hdn ▸ kids_short d x)
  have HKE := Lib.hid (show (if isT n x = true then chain n d.ne n (at' d.ch x) else []) = kids d x by unfold kids; rw [hdn])
  clear hp hc hne hdn hx
  go_enter Try.func154, Try.ntmps154
  go_wp2_with fail
  refine (children_r d.ch d.ne x _ (HC.out.alloc _) (HN.out.alloc _) hn).mono ?_
  rintro e w1 ⟨v, rfl, hown, hb1⟩
  rw [HKE.out] at hown
  obtain ⟨Al, cl, rfl, hlc, _⟩ := hown.shape
  have HR := Lib.hid hown.rd
  have hk1 := kept hb1
  have hs1 := hb1.size
  rw [World.size_alloc] at hs1
  have HB1 := Lib.hid (((Below.refl w.heap.size w).alloc (Nat.le_refl _) (.cells #[v0, .slice A1 n c1, .slice A2 n c2, .slice A3 n c3, v4, v5, v6, v7, v8, v9, v10, v11, v12] 31)).trans (hb1.mono (by simp)))
  have hml := HKS.out
  obtain ⟨m, hm⟩ : ∃ m, (kids d x).length = m := ⟨_, rfl⟩
  have HM := Lib.hid hm
  rw [hm] at HR hml ⊢
  clear hown hm hb1 hlc
  go_wp2_with fail
  go_loopw [6] (fun i wr => ∃ (j q : Nat), j ≤ m ∧ i = .int .i64 (j : Int) ∧ wr = w1.drewN q ∧ ∀ i (hi : i < (kids d x).length), i < j → okKid d x (kids d x)[i] = true) (fun i _ => m - (intOf i).toNat)
  case atStart => exact ⟨0, 0, Nat.zero_le _, rfl, rfl, fun i _ h => by omega⟩
  case round =>
    obtain ⟨j, q, hj, rfl, rfl, hall⟩ := hrel
    have HALL := Lib.hid hall
    clear hall
    by_cases hlt : j < m
    · obtain ⟨b, o, rfl, hb, hl, hcell⟩ := HR.out.at_ hlt
      have HT := HKI.out _ (List.getElem_mem hl)
      have HNO := Lib.hid (fun h => listed_no (d := d) (x := x) hl h)
      have HYES := Lib.hid (show okKid d x (kids d x)[j] = ((at' d.pa (kids d x)[j] == x) && ((kids d x).count (kids d x)[j] == 1)) from rfl)
      have HSTEP := Lib.hid (show okKid d x (kids d x)[j] = true → ∀ i (hi : i < (kids d x).length), i < j + 1 → okKid d x (kids d x)[i] = true from fun h i hi hij => by
        rcases Nat.lt_or_eq_of_le (Nat.le_of_lt_succ hij) with h' | rfl
        · exact HALL.out i hi h'
        · exact h)
      obtain ⟨e, he⟩ : ∃ e, (kids d x)[j] = e := ⟨_, rfl⟩
      rw [he] at hcell HT HNO HYES HSTEP
      obtain ⟨k, b', o', rfl, hk1', hk2', rfl, hb', hcell'⟩ := at_cell HP.out HT
      have j0 : (0 : Int) ≤ (j : Int) := by omega
      have j1 : (j : Int) < (m : Int) := by omega
      have k0 : (0 : Int) ≤ (k : Int) := by omega
      have k1 : (k : Int) < (n : Int) := by omega
      have hb1' : b' < w.heap.size + 1 := by omega
      clear he hl HT
      obtain ⟨p, hpe⟩ : ∃ p, at' d.pa (k : Int) = p := ⟨_, rfl⟩
      rw [hpe] at hcell' HYES
      clear hpe
      unfold I at hcell
      by_cases hpx : p = x
      · have t0 : (p != x) = false := by simp [hpx]
        have hcq : ∀ W : World, Rd I W (some ⟨b, o, none⟩) m (kids d x) → Calls Try.prog 155 #[.slice (some ⟨b, o, none⟩) m cl, .int .i64 (k : Int)] W fun e w' => e = .returned (.int .i64 ((kids d x).count (k : Int) : Int)) ∧ W = w' := fun W h => count_r _ m cl _ _ W h (by omega)
        obtain ⟨z, hz⟩ : ∃ z, (kids d x).count (k : Int) = z := ⟨_, rfl⟩
        rw [hz] at hcq HYES
        have HCQ := Lib.hid hcq
        clear hcq hz
        by_cases hz1 : z = 1
        · have t1 : ((z : Int) != 1) = false := by simp [hz1]
          have HOK := Lib.hid (HSTEP.out (by rw [HYES.out, hpx, hz1]; simp))
          clear hpx hz1
          go_wp2_with fail
          go_quiet ((go_at_call 155; first | exact quiet_left (HCQ.out _ (HR.out.drewN _)) | exact quiet_add_left (HCQ.out _ (HR.out.drewN _))))
          go_wp2_with fail
          go_roundw
          case rel => exact ⟨j + 1, _, by omega, by go_num, rfl, HOK.out⟩
          case measure => simp [intOf]; omega
        · have t1 : ((z : Int) != 1) = true := by simp; omega
          have HOK := Lib.hid (HNO.out (by rw [HYES.out]; simp [hz1]))
          clear hpx hz1
          go_wp2_with fail
          go_quiet ((go_at_call 155; first | exact quiet_left (HCQ.out _ (HR.out.drewN _)) | exact quiet_add_left (HCQ.out _ (HR.out.drewN _))))
          go_wp2_with fail
          go_ret
          exact ⟨by rw [HOK.out]; rfl, belowN (belowN HB1.out _) _⟩
      · have t0 : (p != x) = true := by simp [hpx]
        have HOK := Lib.hid (HNO.out (by rw [HYES.out, beq_eq_false_iff_ne.2 hpx, Bool.false_and]))
        clear hpx
        go_wp2_with fail
        go_quiet (fail)
        go_wp2_with fail
        go_ret
        exact ⟨by rw [HOK.out]; rfl, belowN (belowN HB1.out _) _⟩
    · have hjm : j = m := by omega
      have HL := Lib.hid (listed_yes (d := d) (x := x) fun i hi => HALL.out i hi (by have := HM.out; omega))
      have d0 : decide (j < m) = false := by simp; omega
      obtain ⟨kx, bx, ox, hkx, hkx1, hkx2, rfl, hbx, hcx⟩ := at_cell HC.out HX.out
      subst hkx
      have k0 : (0 : Int) ≤ (kx : Int) := by omega
      have k1 : (kx : Int) < (n : Int) := by omega
      have hbx1 : bx < w.heap.size + 1 := by omega
      clear hjm
      by_cases hm0 : m = 0
      · have HE := Lib.hid (show ended d (kx : Int) = at' d.ch (kx : Int) by
          unfold ended
          have : kids d (kx : Int) = [] := List.length_eq_zero_iff.1 (by rw [HM.out, hm0])
          rw [this]; rfl)
        have t1 : decide ((0 : Int) < (m : Int)) = false := by simp; omega
        have t2 : decide (0 < m) = false := by simp; omega
        clear hm0
        go_wp2_with fail
        go_ret
        exact ⟨by rw [HL.out, HE.out]; rfl, belowN HB1.out _⟩
      · have hml1 : m - 1 < m := by omega
        obtain ⟨b, o, rfl, hb, hl, hcell⟩ := HR.out.at_ hml1
        have HT := HKI.out _ (List.getElem_mem hl)
        have HE := Lib.hid (show ended d (kx : Int) = at' d.ne (kids d (kx : Int))[m - 1] by
          unfold ended
          rw [List.getLast?_eq_getElem?, List.getElem?_eq_getElem (by have := HM.out; omega)]
          have e : (kids d (kx : Int)).length - 1 = m - 1 := by have := HM.out; omega
          simp only [e])
        obtain ⟨e, he⟩ : ∃ e, (kids d (kx : Int))[m - 1] = e := ⟨_, rfl⟩
        rw [he] at hcell HT HE
        obtain ⟨k, b', o', rfl, hk1', hk2', rfl, hb', hcell'⟩ := at_cell HN.out HT
        have t1 : decide ((0 : Int) < (m : Int)) = true := by simp; omega
        have t2 : decide (0 < m) = true := by simp; omega
        have l0 : (0 : Int) ≤ (m : Int) - 1 := by omega
        have l1 : (m : Int) - 1 < (m : Int) := by omega
        have l2 : ((m : Int) - 1).toNat = m - 1 := by omega
        have l3 : IntKind.i64.wrap ((m : Int) - 1) = (m : Int) - 1 := IntWalk.i64_in _ (by omega)
        have j0 : (0 : Int) ≤ (k : Int) := by omega
        have j1 : (k : Int) < (n : Int) := by omega
        have hb1' : b' < w.heap.size + 1 := by omega
        clear he hl HT hm0 hml1
        unfold I at hcell
        go_wp2_with fail
        go_quiet (fail)
        go_wp2_with fail
        go_ret
        exact ⟨by rw [HL.out, HE.out]; rfl, belowN HB1.out _⟩
end Go.Proofs.Ytncdicagadbafaa.NestY
