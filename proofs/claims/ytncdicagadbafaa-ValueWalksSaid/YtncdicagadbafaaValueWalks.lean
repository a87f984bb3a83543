/- ValueWalks: the children one by one, and what is in a thing. Conditions: none beyond what every reading of the arguments gives. -/
import Derived.Test.YtncdicagadbafaaLaw
import Derived.Test.YtncdicagadbafaaValL
import Derived.Test.YtncdicagadbafaaSamW
namespace Go.Proofs.Ytncdicagadbafaa.valueWalks
open Go Go.ChangeShapes Go.WideShapes Go.ChangeAt Go.RowKit NestP NestW NestX NestY ValP ValW ValX ValR MixP Sq WorldD

open ValK ValL in
set_option maxRecDepth 100000 in
set_option maxHeartbeats 4000000 in
theorem walk (w : World) (v : Value) (g : Wd) (ho : Wo w v g) (x : Int) (_ : (Lit.int .i64 x).wf = true) :
    Calls Try.prog 14 #[v, .int .i64 x] w fun e w' => e = .returned (.bool true) ∧ Below w.heap.size w w' := by
  obtain ⟨A0, A1, A2, A3, A4, A5, A6, n0, c0, n, c1, n2, c2, n3, c3, n4, c4, n5, c5, n6, c6, rfl, ⟨r0, r1, r2, r3, r4, r5, r6⟩, hu, ⟨f8, f9, f10, f11, f12⟩, ⟨b0, b1, b2, b3, b4, b5, b6⟩⟩ := ho
  have HG := Lib.hid r0
  have HP := Lib.hid r1
  have HC := Lib.hid r2
  have HN := Lib.hid r3
  have HF := Lib.hid r4
  have HPR := Lib.hid r5
  have HT := Lib.hid r6
  have HU := Lib.hid hu
  have HM0 := Lib.hid b0
  have HM1 := Lib.hid b1
  have HM2 := Lib.hid b2
  have HM3 := Lib.hid b3
  have HM4 := Lib.hid b4
  have HM5 := Lib.hid b5
  have HM6 := Lib.hid b6
  clear r0 r1 r2 r3 r4 r5 r6 hu b0 b1 b2 b3 b4 b5 b6 f8 f9 f10 f11 f12
  by_cases hbig : 60 < n
  · have HB := Lib.hid ((Below.refl w.heap.size w).alloc (Nat.le_refl _) (.cells #[.slice A0 n0 c0, .slice A1 n c1, .slice A2 n2 c2, .slice A3 n3 c3, .slice A4 n4 c4, .slice A5 n5 c5, .slice A6 n6 c6, .int .u64 g.seed, .int .i64 g.sc, .int .i64 g.tu, .int .i64 g.ov, .int .i64 g.it, .int .i64 g.go] 31))
    have hn60 : (60 : Int) < (n : Int) := by omega
    go_enter Try.func14, Try.ntmps14
    go_wp2_with (go_at_call 56; refine (ValT.awake _).mono ?_; rintro e u7 ⟨rfl, hb⟩; have hz := HB.out.trans (hb.mono HB.out.size))
    go_ret
    exact ⟨rfl, hz⟩
  have h60 : n ≤ 60 := by omega
  have h61 : (n : Int) ≤ 60 := by omega
  clear hbig
  obtain ⟨q, hq⟩ : ∃ q, nested g = q := ⟨_, rfl⟩
  have HQ := Lib.hid hq
  clear hq
  cases q
  · go_enter Try.func14, Try.ntmps14
    go_wp2_with (first
        | (go_at_call 37; refine (ValV.right_r g _ (HP.out.alloc _) (HC.out.alloc _) (HN.out.alloc _) HM1.out HM2.out HM3.out).mono ?_; rintro e u1 ⟨rfl, hb⟩; rw [HQ.out]; have HB := Lib.hid (((Below.refl w.heap.size w).alloc (Nat.le_refl _) (.cells #[.slice A0 n0 c0, .slice A1 n c1, .slice A2 n2 c2, .slice A3 n3 c3, .slice A4 n4 c4, .slice A5 n5 c5, .slice A6 n6 c6, .int .u64 g.seed, .int .i64 g.sc, .int .i64 g.tu, .int .i64 g.ov, .int .i64 g.it, .int .i64 g.go] 31)).trans (hb.mono (by simp))); have h0 := (hb.block w.heap.size (by simp)).trans (heap_alloc_new _ _); have s0 : w.heap.size < u1.heap.size := (by have := hb.size; simp only [World.size_alloc] at this; omega); obtain ⟨x0, x1, x2, x3, x4, x5, x6, x7, x8, x9, x10, x11, x12, xf⟩ := cells13 h0; clear hb)
        | (go_at_call 56; refine (ValT.awake _).mono ?_; rintro e u7 ⟨rfl, hb⟩; have hz := HB.out.trans (hb.mono HB.out.size)))
    go_ret
    exact ⟨rfl, hz⟩
  obtain ⟨q, hq⟩ : ∃ q, isT n x = q := ⟨_, rfl⟩
  have HX := Lib.hid hq
  clear hq
  cases q
  · go_enter Try.func14, Try.ntmps14
    go_wp2_with (first
        | (go_at_call 37; refine (ValV.right_r g _ (HP.out.alloc _) (HC.out.alloc _) (HN.out.alloc _) HM1.out HM2.out HM3.out).mono ?_; rintro e u1 ⟨rfl, hb⟩; rw [HQ.out]; have HB := Lib.hid (((Below.refl w.heap.size w).alloc (Nat.le_refl _) (.cells #[.slice A0 n0 c0, .slice A1 n c1, .slice A2 n2 c2, .slice A3 n3 c3, .slice A4 n4 c4, .slice A5 n5 c5, .slice A6 n6 c6, .int .u64 g.seed, .int .i64 g.sc, .int .i64 g.tu, .int .i64 g.ov, .int .i64 g.it, .int .i64 g.go] 31)).trans (hb.mono (by simp))); have h0 := (hb.block w.heap.size (by simp)).trans (heap_alloc_new _ _); have s0 : w.heap.size < u1.heap.size := (by have := hb.size; simp only [World.size_alloc] at this; omega); obtain ⟨x0, x1, x2, x3, x4, x5, x6, x7, x8, x9, x10, x11, x12, xf⟩ := cells13 h0; clear hb)
        | (go_at_call 45; refine (is_o x _).mono ?_; rintro e u1 ⟨rfl, hb⟩; rw [HX.out]; have hz := HB.out.trans (hb.mono (Nat.le_of_lt s0)); clear HB; have HB := Lib.hid hz; have hz0 := (hb.block w.heap.size s0).trans h0; have hs0 := Nat.lt_of_lt_of_le s0 hb.size; clear h0 s0 x0 x1 x2 x3 x4 x5 x6 x7 x8 x9 x10 x11 x12 xf hb hz; have h0 := hz0; have s0 := hs0; clear hz0 hs0; obtain ⟨x0, x1, x2, x3, x4, x5, x6, x7, x8, x9, x10, x11, x12, xf⟩ := cells13 h0)
        | (go_at_call 56; refine (ValT.awake _).mono ?_; rintro e u7 ⟨rfl, hb⟩; have hz := HB.out.trans (hb.mono HB.out.size)))
    go_ret
    exact ⟨rfl, hz⟩
  have HGD := Lib.hid (good_of HQ.out)
  have HKL := Lib.hid (show (kids g x).length ≤ 60 from Nat.le_trans (HGD.out.kids_len x) (by have : n = g.n := HP.out.len; omega))
  obtain ⟨m, hm⟩ : ∃ m, (kids g x).length = m := ⟨_, rfl⟩
  have HM := Lib.hid hm
  have hm60 := HKL.out
  rw [hm] at hm60
  have hXT := isT_iff.1 HX.out
  have hn1 : 1 ≤ n := by omega
  clear hm hXT
  go_enter Try.func14, Try.ntmps14
  go_upto_region 5 with (first
    | (go_at_call 37; refine (ValV.right_r g _ (HP.out.alloc _) (HC.out.alloc _) (HN.out.alloc _) HM1.out HM2.out HM3.out).mono ?_; rintro e u1 ⟨rfl, hb⟩; rw [HQ.out]; have HB := Lib.hid (((Below.refl w.heap.size w).alloc (Nat.le_refl _) (.cells #[.slice A0 n0 c0, .slice A1 n c1, .slice A2 n2 c2, .slice A3 n3 c3, .slice A4 n4 c4, .slice A5 n5 c5, .slice A6 n6 c6, .int .u64 g.seed, .int .i64 g.sc, .int .i64 g.tu, .int .i64 g.ov, .int .i64 g.it, .int .i64 g.go] 31)).trans (hb.mono (by simp))); have h0 := (hb.block w.heap.size (by simp)).trans (heap_alloc_new _ _); have s0 : w.heap.size < u1.heap.size := (by have := hb.size; simp only [World.size_alloc] at this; omega); obtain ⟨x0, x1, x2, x3, x4, x5, x6, x7, x8, x9, x10, x11, x12, xf⟩ := cells13 h0; clear hb)
    | (go_at_call 45; refine (is_o x _).mono ?_; rintro e u2 ⟨rfl, hb⟩; rw [HX.out]; have hz := HB.out.trans (hb.mono (Nat.le_of_lt s0)); clear HB; have HB := Lib.hid hz; have hz0 := (hb.block w.heap.size s0).trans h0; have hs0 := Nat.lt_of_lt_of_le s0 hb.size; clear h0 s0 x0 x1 x2 x3 x4 x5 x6 x7 x8 x9 x10 x11 x12 xf hb hz; have h0 := hz0; have s0 := hs0; clear hz0 hs0; obtain ⟨x0, x1, x2, x3, x4, x5, x6, x7, x8, x9, x10, x11, x12, xf⟩ := cells13 h0)
    | (go_at_call 49; refine (children_o g x _ (HP.out.below HB.out) (HC.out.below HB.out) (HN.out.below HB.out) HM1.out).mono ?_; rintro e u3 ⟨Ak, ck, rfl, hk, hb⟩; rw [HM.out] at hk; rw [HM.out]; have HK := Lib.hid hk; clear hk; have hz := HB.out.trans (hb.mono (Nat.le_of_lt s0)); clear HB; have HB := Lib.hid hz; have hz0 := (hb.block w.heap.size s0).trans h0; have hs0 := Nat.lt_of_lt_of_le s0 hb.size; clear h0 s0 x0 x1 x2 x3 x4 x5 x6 x7 x8 x9 x10 x11 x12 xf hb hz; have h0 := hz0; have s0 := hs0; clear hz0 hs0; obtain ⟨x0, x1, x2, x3, x4, x5, x6, x7, x8, x9, x10, x11, x12, xf⟩ := cells13 h0)
    | (go_at_call 65; refine (tr2 g HGD.out x _ (HP.out.below HB.out) (HC.out.below HB.out) HX.out h60).mono ?_; rintro e u4 ⟨rfl, hb⟩; have hz := HB.out.trans (hb.mono (Nat.le_of_lt s0)); clear HB; have HB := Lib.hid hz; have hz0 := (hb.block w.heap.size s0).trans h0; have hs0 := Nat.lt_of_lt_of_le s0 hb.size; have hk9 := HK.out.below (hb.mono (Nat.le_refl _)); clear HK; have HK := Lib.hid hk9; clear hk9; clear h0 s0 x0 x1 x2 x3 x4 x5 x6 x7 x8 x9 x10 x11 x12 xf hb hz; have h0 := hz0; have s0 := hs0; clear hz0 hs0; obtain ⟨x0, x1, x2, x3, x4, x5, x6, x7, x8, x9, x10, x11, x12, xf⟩ := cells13 h0))
  go_wp2_with fail
  go_loopw [43, 6, 7] (fun i y e wr' => ∃ (j : Nat) (yv : Int), j ≤ m ∧ i = .int .i64 (j : Int) ∧ y = .int .i64 yv ∧ yv = (kids g x).getD j 0 ∧ e = .int .i64 0 ∧ Below w.heap.size w wr' ∧ w.heap.size < wr'.heap.size ∧ wr'.heap[w.heap.size]? = some (.cells #[.slice A0 n0 c0, .slice A1 n c1, .slice A2 n2 c2, .slice A3 n3 c3, .slice A4 n4 c4, .slice A5 n5 c5, .slice A6 n6 c6, .int .u64 g.seed, .int .i64 g.sc, .int .i64 g.tu, .int .i64 g.ov, .int .i64 g.it, .int .i64 g.go] 31 (0, 0)) ∧ Rd I wr' Ak m (kids g x)) (fun i _ _ _ => m - (intOf i).toNat)
  case atStart => exact ⟨0, _, Nat.zero_le _, rfl, rfl, rfl, rfl, HB.out, s0, h0, HK.out⟩
  case round =>
    clear HB s0 h0 HK x0 x1 x2 x3 x4 x5 x6 x7 x8 x9 x10 x11 x12 xf
    obtain ⟨j, yv, hj, rfl, rfl, hyv, rfl, hB, s0, h0, hK⟩ := hrel
    have HB := Lib.hid hB
    have HK := Lib.hid hK
    clear hB hK
    obtain ⟨x0, x1, x2, x3, x4, x5, x6, x7, x8, x9, x10, x11, x12, xf⟩ := cells13 h0
    by_cases hlt : j < m
    · obtain ⟨kb, ko, rfl, hkb, hkl, hkc⟩ := HK.out.at_ hlt
      have hke : (kids g x)[j] = yv := by rw [hyv, List.getD_eq_getElem?_getD, List.getElem?_eq_getElem hkl]; rfl
      rw [hke] at hkc
      unfold I at hkc
      have HYV := Lib.hid hyv
      have HLT := Lib.hid hkl
      have j0 : (0 : Int) ≤ (j : Int) := by omega
      have j1 : (j : Int) < (m : Int) := by omega
      clear hyv hke hkl
      go_wp2_with (go_at_call 65; rw [HYV.out]; refine (tr3 g HGD.out x j _ (HP.out.below HB.out) (HN.out.below HB.out) HX.out HLT.out h60).mono ?_; rintro e u5 ⟨rfl, hb⟩; have hz := HB.out.trans (hb.mono (Nat.le_of_lt s0)); clear HB; have HB := Lib.hid hz; have hz0 := (hb.block w.heap.size s0).trans h0; have hs0 := Nat.lt_of_lt_of_le s0 hb.size; have hk9 := HK.out.below (hb.mono (Nat.le_refl _)); clear HK; have HK := Lib.hid hk9; clear hk9; clear h0 s0 x0 x1 x2 x3 x4 x5 x6 x7 x8 x9 x10 x11 x12 xf hb hz; have h0 := hz0; have s0 := hs0; clear hz0 hs0; obtain ⟨x0, x1, x2, x3, x4, x5, x6, x7, x8, x9, x10, x11, x12, xf⟩ := cells13 h0)
      go_roundw
      case rel => exact ⟨j + 1, _, by omega, by go_num, rfl, rfl, rfl, HB.out, s0, h0, HK.out⟩
      case measure => simp [intOf]; omega
    · obtain rfl : m = j := by omega
      obtain rfl : yv = 0 := by
        rw [hyv, List.getD_eq_getElem?_getD, List.getElem?_eq_none (by rw [HM.out]; omega)]; rfl
      clear hyv
      go_wp2_with fail
      go_loopw [11, 10] (fun z acc wr' => ∃ (j : Nat) (av : Int), 1 ≤ j ∧ j ≤ n ∧ z = .int .i64 (j : Int) ∧ acc = .int .i64 av ∧ av = ((F g x j).length : Int) ∧ Below w.heap.size w wr' ∧ w.heap.size < wr'.heap.size ∧ wr'.heap[w.heap.size]? = some (.cells #[.slice A0 n0 c0, .slice A1 n c1, .slice A2 n2 c2, .slice A3 n3 c3, .slice A4 n4 c4, .slice A5 n5 c5, .slice A6 n6 c6, .int .u64 g.seed, .int .i64 g.sc, .int .i64 g.tu, .int .i64 g.ov, .int .i64 g.it, .int .i64 g.go] 31 (0, 0))) (fun z _ _ => n - (intOf z).toNat)
      case atStart => exact ⟨1, 0, by omega, hn1, rfl, rfl, by rw [F_one]; rfl, HB.out, s0, h0⟩
      case round =>
        clear HB s0 h0 HK x0 x1 x2 x3 x4 x5 x6 x7 x8 x9 x10 x11 x12 xf
        obtain ⟨z, av, hz1, hz, rfl, rfl, hav, hB, s0, h0⟩ := hrel
        have HB := Lib.hid hB
        clear hB
        obtain ⟨x0, x1, x2, x3, x4, x5, x6, x7, x8, x9, x10, x11, x12, xf⟩ := cells13 h0
        by_cases hlt : z < n
        · have HZT := Lib.hid (show isT n (z : Int) = true from isT_iff.2 (by omega))
          have HFS := Lib.hid (F_succ g x z)
          have HEN := Lib.hid (show n = g.n from HP.out.len)
          have z0 : (1 : Int) ≤ (z : Int) := by omega
          have z1 : (z : Int) < (n : Int) := by omega
          have hav2 : 0 ≤ av := by omega
          have hav3 : av ≤ 60 := by have := F_le g x z; omega
          by_cases hp : at' g.pa (z : Int) = x
          · have HP1 := Lib.hid hp
            have HF1 := Lib.hid (show av + 1 = ((F g x (z + 1)).length : Int) by
              have h := HFS.out
              rw [← HEN.out, HZT.out, hp] at h
              simp at h
              omega)
            clear hp hav
            go_wp2_with (first
              | (go_at_call 57; refine (bn g (z : Int) x _ (HP.out.below HB.out) HZT.out HX.out h60).mono ?_; rintro e u5 ⟨rfl, hb⟩; rw [HP1.out, show tr (x == x) = 1 by simp [tr]]; have hz := HB.out.trans (hb.mono (Nat.le_of_lt s0)); clear HB; have HB := Lib.hid hz; have hz0 := (hb.block w.heap.size s0).trans h0; have hs0 := Nat.lt_of_lt_of_le s0 hb.size; clear h0 s0 x0 x1 x2 x3 x4 x5 x6 x7 x8 x9 x10 x11 x12 xf hb hz; have h0 := hz0; have s0 := hs0; clear hz0 hs0; obtain ⟨x0, x1, x2, x3, x4, x5, x6, x7, x8, x9, x10, x11, x12, xf⟩ := cells13 h0)
              | (go_at_call 65; refine (tr1 g (z : Int) _ (HP.out.below HB.out) HZT.out h60).mono ?_; rintro e u6 ⟨rfl, hb⟩; rw [HP1.out]; have hz := HB.out.trans (hb.mono (Nat.le_of_lt s0)); clear HB; have HB := Lib.hid hz; have hz0 := (hb.block w.heap.size s0).trans h0; have hs0 := Nat.lt_of_lt_of_le s0 hb.size; clear h0 s0 x0 x1 x2 x3 x4 x5 x6 x7 x8 x9 x10 x11 x12 xf hb hz; have h0 := hz0; have s0 := hs0; clear hz0 hs0; obtain ⟨x0, x1, x2, x3, x4, x5, x6, x7, x8, x9, x10, x11, x12, xf⟩ := cells13 h0))
            go_roundw
            case rel => exact ⟨z + 1, _, by omega, by omega, by go_num, rfl, HF1.out, HB.out, s0, h0⟩
            case measure => simp [intOf]; omega
          · obtain ⟨p, hpp⟩ : ∃ p, at' g.pa (z : Int) = p := ⟨_, rfl⟩
            rw [hpp] at hp
            have hpx : (p == x) = false := by simp [hp]
            have HP1 := Lib.hid hpp
            have HP2 := Lib.hid (show tr (p == x) = 0 by rw [hpx]; rfl)
            have HF1 := Lib.hid (show av + 0 = ((F g x (z + 1)).length : Int) by
              have h := HFS.out
              rw [← HEN.out, HZT.out, hpp, hpx] at h
              simp at h
              omega)
            clear hpp hav
            go_wp2_with (first
              | (go_at_call 57; refine (bn g (z : Int) x _ (HP.out.below HB.out) HZT.out HX.out h60).mono ?_; rintro e u5 ⟨rfl, hb⟩; rw [HP1.out, HP2.out]; have hz := HB.out.trans (hb.mono (Nat.le_of_lt s0)); clear HB; have HB := Lib.hid hz; have hz0 := (hb.block w.heap.size s0).trans h0; have hs0 := Nat.lt_of_lt_of_le s0 hb.size; clear h0 s0 x0 x1 x2 x3 x4 x5 x6 x7 x8 x9 x10 x11 x12 xf hb hz; have h0 := hz0; have s0 := hs0; clear hz0 hs0; obtain ⟨x0, x1, x2, x3, x4, x5, x6, x7, x8, x9, x10, x11, x12, xf⟩ := cells13 h0)
              | (go_at_call 65; refine (tr1 g (z : Int) _ (HP.out.below HB.out) HZT.out h60).mono ?_; rintro e u6 ⟨rfl, hb⟩; rw [HP1.out]; have hz := HB.out.trans (hb.mono (Nat.le_of_lt s0)); clear HB; have HB := Lib.hid hz; have hz0 := (hb.block w.heap.size s0).trans h0; have hs0 := Nat.lt_of_lt_of_le s0 hb.size; clear h0 s0 x0 x1 x2 x3 x4 x5 x6 x7 x8 x9 x10 x11 x12 xf hb hz; have h0 := hz0; have s0 := hs0; clear hz0 hs0; obtain ⟨x0, x1, x2, x3, x4, x5, x6, x7, x8, x9, x10, x11, x12, xf⟩ := cells13 h0))
            go_roundw
            case rel => exact ⟨z + 1, _, by omega, by omega, by go_num, rfl, by simpa using HF1.out, HB.out, s0, h0⟩
            case measure => simp [intOf]; omega
        · obtain rfl : n = z := by omega
          obtain rfl : av = (m : Int) := by
            rw [hav, ← HM.out, ← F_all HGD.out (x := x) (by rw [show g.n = n from HP.out.len.symm]; exact HX.out), show g.n = n from HP.out.len.symm]
          clear hav
          go_wp2_with (go_at_call 56; refine (ValT.awake _).mono ?_; rintro e u7 ⟨rfl, hb⟩; have hz := HB.out.trans (hb.mono HB.out.size))
          go_ret
          exact ⟨rfl, hz⟩

theorem own : ownKnob Try.prog.godebug = none := by kernel_rfl

set_option maxRecDepth 100000 in
set_option maxHeartbeats 2000000 in
theorem lifted (os : Os) (started : os.Started) (H : Type) (enc : TypeId × Value → H) :
    ReturnsInHanded {} Try.checked os 14 .any (Rows.valueWalksSpec.pre6 enc Try.prog Try.f14 Rows.valueWalksRow.domain false) (Rows.valueWalksSpec.post enc Try.prog Try.f14 false true false false) := by
  refine returnsInHanded_of_change_sized (C := Try.checked) own started (by kernel_rfl) Try.func14
    (ChangeSpec.witness6 (enc := enc) (C := Try.checked) false ⟨#[], #[.agg #[.slice none 0 0, .slice none 0 0, .slice none 0 0, .slice none 0 0, .slice none 0 0, .slice none 0 0, .slice none 0 0, .int .u64 0, .int .i64 0, .int .i64 0, .int .i64 0, .int .i64 0, .int .i64 0], .int .i64 0], []⟩ 8 (by kernel_rfl) (by kernel_rfl) (by kernel_rfl) (by kernel_rfl)) ?_
  intro W base args ds gs before hval0 hW hcnd hsz0 _
  have hval : ∀ (j : Nat) t v, Try.f14.params[j]? = some t → args[j]? = some v → Value.okWide Try.prog W .any base t v := hval0
  have hW' := hW
  obtain ⟨p, q, hA0, hV, rfl, hfz, hnd⟩ := hW
  have hA : DataW.TrodAll enc Try.prog W 0 (fun _ => true) true Try.f14.params.toList args.toList ds p := hA0
  rw [Try.params14] at hA hval
  obtain ⟨v0, vs0, d0, ds0, p0, q0, hargs, rfl, rfl, h0, r0⟩ := trodAll_cons hA
  obtain ⟨v1, vs1, d1, ds1, p1, q1, rfl, rfl, rfl, h1, r1⟩ := trodAll_cons r0
  obtain ⟨rfl, rfl, rfl⟩ := trodAll_nil r1
  obtain rfl : args = #[v0, v1] := by cases args; simp_all
  clear hV
  have hsz : (DataW.weightsEach Try.prog (31 :: 3 :: _) (d0 :: d1 :: _)).all (· ≤ reachBytes) = true := hsz0
  have f0 : WorldD.Fitting d0 31 := by have z := hsz; simp only [DataW.weightsEach, List.all_append, Bool.and_eq_true] at z; exact z.1
  obtain ⟨g0, o0⟩ := WorldD.open_wo (hval 0 31 v0 rfl rfl) h0 f0
  obtain ⟨a1, rfl, rfl, rfl, w1⟩ := open_int Try.underlying3 (hval 1 3 v1 rfl rfl) h1
  clear hA0 hval0
  refine (walk W v0 g0 o0 a1 w1).mono fun e W' ⟨he, hg⟩ => ?_
  subst he
  exact ⟨_, rfl, Law.post (by kernel_rfl) (by kernel_rfl) Try.underlying4 rfl rfl hW' hg ⟨rfl, rfl, rfl⟩⟩

theorem over : Rows.valueWalksRow.holds Try.pinned (OpenSpec.ofChange Rows.valueWalksSpec) :=
  OpenClaim.holds_of_wide 14 Try.f14 rfl rfl rfl rfl rfl rfl rfl ⟨rfl, rfl, rfl, rfl, rfl⟩ rfl rfl rfl rfl rfl (by kernel_rfl) Try.func14 (by kernel_rfl)
    (of_decide_eq_true (by kernel_rfl)) (by unfold Func.isWrapper; first | (rw [if_pos (by decide +kernel)]; kernel_rfl) | (rw [if_neg (by decide +kernel)]; exact ⟨rfl, rfl⟩))
    (fun os started H enc _ => lifted os started H enc)

/-- The statement. -/
theorem proved : Rows.ValueWalksSaid := over
#print axioms proved
end Go.Proofs.Ytncdicagadbafaa.valueWalks
