/- clewref17.said: the texts that statements say, each once. Conditions: sizes within the reach. -/
import Derived.Test.YteibcfpepdbflaaBindJ
import Derived.Test.YteibcfpepdbflaaBindR
import Derived.Test.YteibcfpepdbflaaTxW
namespace Go.Proofs.Yteibcfpepdbflaa.TxS
open Go Go.RowKit BindP BindD BindO BindW BindS BindX BindT BindI BindJ BindG TxW
open Byt (str)

set_option maxRecDepth 100000 in
set_option maxHeartbeats 8000000 in
theorem said_r (w0 : World) : ∀ (N : Nat) (l : List St), nB (stPs l) ≤ N → nB (stPs l) ≤ 1048576 → SaidC w0 l := by
  intro N
  induction N using Nat.strongRecOn with
  | _ N ihN =>
    intro l hlN hnB A c v0 w out ho hlw hsl hlen
    have hl : l.length ≤ 1048576 := by
      have h1 := sum_len (m := fun x : St => nS x.p) (fun x => by cases x; unfold St.p nS; omega) l
      rw [← nB_sum] at h1
      omega
    have HIH := Lib.hid (show ∀ l' : List St, nB (stPs l') < N ∧ nB (stPs l') ≤ 1048576 → SaidC w0 l' from fun l' h => ihN _ h.1 l' (Nat.le_refl _) h.2)
    obtain ⟨m, hm⟩ : ∃ m, l.length = m := ⟨_, rfl⟩
    have HM := Lib.hid hm
    have HSL := Lib.hid hsl
    have HSZ := Lib.hid (And.intro hlN (And.intro hnB hlen))
    have HO0 := Lib.hid ho
    have HLW0 := Lib.hid hlw
    rw [hm] at hl ⊢
    clear hm ihN hsl hlN hnB hlen ho hlw
    go_enter Try.func34, Try.ntmps34
    go_wp2_with fail
    go_loopw [0, 5] (fun v iv wr => ∃ j : Nat, j ≤ m ∧ iv = .int .i64 (j : Int) ∧ Sq.Own sv 9 wr w0.heap.size v ((said (stPs (l.take j))).foldl wth out) ∧ Below w0.heap.size w0 wr ∧ Below w0.heap.size w wr) (fun _ iv _ => m - (intOf iv).toNat)
    case atStart => exact ⟨0, Nat.zero_le _, rfl, by simpa [stPs, said] using HO0.out, HLW0.out, Below.refl _ _⟩
    case round =>
      obtain ⟨j, hj, rfl, ho, hlw, hlw2⟩ := hrel
      obtain ⟨v5, rfl⟩ : ∃ q, q = u0 := ⟨_, rfl⟩
      have HO5 := Lib.hid ho
      have HB5 := Lib.hid hlw
      have HW5 := Lib.hid hlw2
      clear ho hlw hlw2
      by_cases hlt : j < m
      · have hjl : j < l.length := by rw [HM.out]; exact hlt
        obtain ⟨b1, o1, rfl, hb1, hc⟩ := Lg.at_ stE_len HSL.out hjl
        have htk := take_nB hjl
        have hnx := said_take hjl
        obtain ⟨⟨k, n, s, Ca, ca, ar, Cb, cb, bo, Ce, ce, el⟩, hy⟩ : ∃ y, l[j] = y := ⟨_, rfl⟩
        have HP := Lib.hid ((HSL.out.2 _ (hy ▸ List.getElem_mem hjl)).open_)
        rw [hy] at hc htk hnx
        unfold St.p nS at htk
        have HNX := Lib.hid (show said (stPs (l.take (j + 1))) = said (stPs (l.take j)) ++ (saidA (exPs ar) ++ (said (stPs bo) ++ said (stPs el))) from hnx)
        have hz := HSZ.out
        have HZ := Lib.hid (show (nB (stPs bo) < N ∧ nB (stPs bo) ≤ 1048576) ∧ (nB (stPs el) < N ∧ nB (stPs el) ≤ 1048576) by omega)
        have hl1 := wths_len (said (stPs (l.take j))) out
        have hl2 := said_le.2 (stPs (l.take j))
        have hl3 := saidA_len (exPs ar)
        have hl4 : (exPs ar).length = ar.length := by rw [exPs_map, List.length_map]
        have har : ar.length ≤ nEs (exPs ar) := by
          have h1 := sum_len (m := fun x : Ex => nE x.p) (fun x => nE_pos x.p) ar
          rw [← nEs_sum] at h1
          exact h1
        have zar : ar.length ≤ 1048576 := by omega
        have HLN := Lib.hid (show ((said (stPs (l.take j))).foldl wth out).length + ar.length + nB (stPs bo) + nB (stPs el) ≤ 4194304 by omega)
        have hcell : ∀ U, Below w0.heap.size w0 U → ∀ p, U.cell? ⟨b1, p, none⟩ = w0.cell? ⟨b1, p, none⟩ := fun U hU p => hU.cell (p := ⟨b1, p, none⟩) hb1
        obtain ⟨Sx, hSx⟩ : ∃ Sx : World → Prop, (fun U : World => U.cell? ⟨b1, o1 + j * 6 + 4, none⟩ = some (.slice Cb bo.length cb) ∧ U.cell? ⟨b1, o1 + j * 6 + 5, none⟩ = some (.slice Ce el.length ce)) = Sx := ⟨_, rfl⟩
        have HSB := Lib.hid (show ∀ U, Below w0.heap.size w0 U → Sx U from fun U hU => by
          rw [← hSx]
          exact ⟨(hcell U hU _).trans (hc 4 _ rfl), (hcell U hU _).trans (hc 5 _ rfl)⟩)
        have HSy := Lib.hid (show ∀ U, Sx U → U.cell? ⟨b1, o1 + j * 6 + 4, none⟩ = some (.slice Cb bo.length cb) ∧ U.cell? ⟨b1, o1 + j * 6 + 5, none⟩ = some (.slice Ce el.length ce) from fun U h => by rw [← hSx] at h; exact h)
        have HC3 := Lib.hid (show ∀ U, Below w0.heap.size w0 U → U.cell? ⟨b1, o1 + j * 6 + 3, none⟩ = some (.slice Ca ar.length ca) from fun U hU => (hcell U hU _).trans (hc 3 _ rfl))
        have k0 : (0 : Int) ≤ (j : Int) := by omega
        have k1 : (j : Int) < (m : Int) := by omega
        clear hc hcell hSx hnx htk hz hl1 hl2 hl3 hl4 har hy hjl
        go_wp2_with fail
        go_loopw [0, 6] (fun v iv wr => ∃ i : Nat, i ≤ ar.length ∧ iv = .int .i64 (i : Int) ∧ Sq.Own sv 9 wr w0.heap.size v ((saidA (exPs (ar.take i))).foldl wth ((said (stPs (l.take j))).foldl wth out)) ∧ Below w0.heap.size w0 wr ∧ Below w0.heap.size w wr) (fun _ iv _ => ar.length - (intOf iv).toNat)
        case atStart => exact ⟨0, Nat.zero_le _, rfl, by simpa [exPs, saidA] using HO5.out, HB5.out, HW5.out⟩
        case round =>
          obtain ⟨i, hi, rfl, ho, hlw, hlw2⟩ := hrel
          obtain ⟨v6, rfl⟩ : ∃ q, q = u0 := ⟨_, rfl⟩
          have HO6 := Lib.hid ho
          have HB6 := Lib.hid hlw
          have HW6 := Lib.hid hlw2
          have a3 := HC3.out _ hlw
          clear ho hlw hlw2
          by_cases hlt2 : i < ar.length
          · obtain ⟨b2, o2, rfl, hb2, hc⟩ := Lg.at_ exE_len (show Lx top wr Ca ca ar from Lg.keep stays_x (Keep.below HB6.out) HP.out.1) hlt2
            obtain ⟨⟨ek, ep, en, es, eA, ec, er⟩, hy⟩ : ∃ y, ar[i] = y := ⟨_, rfl⟩
            have HNY := Lib.hid (show saidA (exPs (ar.take (i + 1))) = saidA (exPs (ar.take i)) ++ saidA [(Ex.mk ek ep en es eA ec er).p] by
              rw [List.take_succ_eq_append_getElem hlt2, exPs_app, saidA_app, hy]; rfl)
            have hle : (saidA (exPs (ar.take i))).length ≤ i := by
              have := saidA_len (exPs (ar.take i))
              rw [exPs_map, List.length_map, List.length_take] at this
              rw [exPs_map]
              omega
            have hl1 := wths_len (saidA (exPs (ar.take i))) ((said (stPs (l.take j))).foldl wth out)
            have HLE := Lib.hid (show ((saidA (exPs (ar.take i))).foldl wth ((said (stPs (l.take j))).foldl wth out)).length ≤ 4194304 by have := HLN.out; omega)
            rw [hy] at hc
            have d0 : wr.cell? ⟨b2, o2 + i * 5, none⟩ = some (.int .i64 ek) := hc 0 _ rfl
            have d1 : wr.cell? ⟨b2, o2 + i * 5 + 1, none⟩ = some (.int .i64 ep) := hc 1 _ rfl
            have d2 : wr.cell? ⟨b2, o2 + i * 5 + 2, none⟩ = some (.int .i64 en) := hc 2 _ rfl
            have d3 : wr.cell? ⟨b2, o2 + i * 5 + 3, none⟩ = some (.string (str es)) := hc 3 _ rfl
            have d4 : wr.cell? ⟨b2, o2 + i * 5 + 4, none⟩ = some (.slice eA er.length ec) := hc 4 _ rfl
            have k2 : (0 : Int) ≤ (i : Int) := by omega
            have k3 : (i : Int) < (ar.length : Int) := by omega
            clear hc hy hle hl1
            by_cases hek : ek = 2
            · subst hek
              have HNZ := Lib.hid (HNY.out.trans (show saidA (exPs (ar.take i)) ++ saidA [(Ex.mk 2 ep en es eA ec er).p] = saidA (exPs (ar.take i)) ++ [es] from rfl))
              go_wp2_with fail
              refine (with_r es _ v6 wr w0.heap.size HO6.out HB6.out.size HLE.out).mono ?_
              rintro r w2 ⟨v7, rfl, ho, hb⟩
              have HO7 := Lib.hid ho
              have HB7 := Lib.hid hb
              clear ho hb
              go_wp2_with fail
              go_roundw
              case rel => exact ⟨i + 1, by omega, by go_num, by rw [HNZ.out, List.foldl_append]; exact HO7.out, HB6.out.trans HB7.out, HW6.out.trans HB7.out⟩
              case measure => simp [intOf]; omega
            · have q : (ek == 2) = false := beq_eq_false_iff_ne.2 hek
              have HNZ := Lib.hid (HNY.out.trans (show saidA (exPs (ar.take i)) ++ saidA [(Ex.mk ek ep en es eA ec er).p] = saidA (exPs (ar.take i)) by
                simp [saidA, Ex.p, hek]))
              clear hek
              go_wp2_with fail
              go_roundw
              case rel => exact ⟨i + 1, by omega, by go_num, by rw [HNZ.out]; exact HO6.out, HB6.out, HW6.out⟩
              case measure => simp [intOf]; omega
          · obtain rfl : i = ar.length := by omega
            have ho := HO6.out
            rw [List.take_length] at ho
            clear HO6
            have HO6 := Lib.hid ho
            clear ho
            have hl1 := wths_len (saidA (exPs ar)) ((said (stPs (l.take j))).foldl wth out)
            have hl3 := saidA_len (exPs ar)
            rw [show (exPs ar).length = ar.length by rw [exPs_map, List.length_map]] at hl3
            have hl4 := said_le.2 (stPs bo)
            have hl5 := wths_len (said (stPs bo)) ((saidA (exPs ar)).foldl wth ((said (stPs (l.take j))).foldl wth out))
            have HL6 := Lib.hid (show ((saidA (exPs ar)).foldl wth ((said (stPs (l.take j))).foldl wth out)).length + nB (stPs bo) ≤ 4194304 ∧ ((said (stPs bo)).foldl wth ((saidA (exPs ar)).foldl wth ((said (stPs (l.take j))).foldl wth out))).length + nB (stPs el) ≤ 4194304 by have := HLN.out; omega)
            clear hl1 hl3 hl4 hl5
            go_upto_region 9 with fail
            have hS0 : Sx wr.drew := HSB.out _ (Below.drew HB6.out)
            clear a3
            refine RgD.begin_ [] Sx (by kernel_rfl) hS0 (fun hHeld => ?_)
            refine RgD.take (i := 0) (t := 44) rfl rfl (by kernel_rfl) (by kernel_rfl) (by kernel_rfl) (by kernel_rfl) (fun _ _ _ h => h) (by rfl) (by intro w0 hSw; first | (go_simp; done) | (go_simp; with_reducible rfl) | (go_simp; intro hc; exfalso; omega)) (by assumption) ?_
            simp only [List.setIfInBounds_toArray, List.set_cons_zero, List.set_cons_succ]
            refine RgD.take (i := 1) (t := 45) rfl rfl (by kernel_rfl) (by kernel_rfl) (by kernel_rfl) (by kernel_rfl) (fun _ _ _ h => h) (by rfl) (by intro w0 hSw; first | (go_simp; done) | (go_simp; with_reducible rfl) | (go_simp; intro hc; exfalso; omega)) (by assumption) ?_
            simp only [List.setIfInBounds_toArray, List.set_cons_zero, List.set_cons_succ]
            refine RgD.take (i := 2) (t := 46) rfl rfl (by kernel_rfl) (by kernel_rfl) (by kernel_rfl) (by kernel_rfl) (fun _ _ _ h => h) (by rfl) (by intro w0 hSw; first | (go_simp; done) | (go_simp; with_reducible rfl) | (go_simp; intro hc; exfalso; omega)) (by assumption) ?_
            simp only [List.setIfInBounds_toArray, List.set_cons_zero, List.set_cons_succ]
            refine RgD.take (i := 3) (t := 47) rfl rfl (by kernel_rfl) (by kernel_rfl) (by kernel_rfl) (by kernel_rfl) (fun _ _ _ h => h) (by rfl) (by intro w0 hSw; first | (go_simp; done) | (go_simp; with_reducible rfl) | (go_simp; intro hc; exfalso; omega)) (by assumption) ?_
            simp only [List.setIfInBounds_toArray, List.set_cons_zero, List.set_cons_succ]
            refine RgD.take (i := 4) (t := 48) rfl rfl (by kernel_rfl) (by kernel_rfl) (by kernel_rfl) (by kernel_rfl) (fun _ _ _ h => h) (by rfl) (by intro w0 hSw; first | (go_simp; done) | (go_simp; with_reducible rfl) | (go_simp; intro hc; exfalso; omega)) (by assumption) ?_
            simp only [List.setIfInBounds_toArray, List.set_cons_zero, List.set_cons_succ]
            refine RgD.take (i := 5) (t := 49) (v := .slice Cb bo.length cb) rfl rfl (by kernel_rfl) (by kernel_rfl) (by kernel_rfl) (by kernel_rfl) (fun _ _ _ h => h) (by rfl) (by intro w0 hSw; obtain ⟨z4, z5⟩ := HSy.out _ hSw; first | (go_simp; done) | (go_simp; with_reducible rfl) | (go_simp; intro hc; exfalso; omega)) (by assumption) ?_
            simp only [List.setIfInBounds_toArray, List.set_cons_zero, List.set_cons_succ]
            refine RgD.take (i := 7) (t := 51) rfl rfl (by kernel_rfl) (by kernel_rfl) (by kernel_rfl) (by kernel_rfl) (fun _ _ _ h => h) (by rfl) (by intro w0 hSw; first | (go_simp; done) | (go_simp; with_reducible rfl) | (go_simp; intro hc; exfalso; omega)) (by assumption) ?_
            simp only [List.setIfInBounds_toArray, List.set_cons_zero, List.set_cons_succ]
            refine RgD.take (i := 8) (t := 52) rfl rfl (by kernel_rfl) (by kernel_rfl) (by kernel_rfl) (by kernel_rfl) (fun _ _ _ h => h) (by rfl) (by intro w0 hSw; first | (go_simp; done) | (go_simp; with_reducible rfl) | (go_simp; intro hc; exfalso; omega)) (by assumption) ?_
            simp only [List.setIfInBounds_toArray, List.set_cons_zero, List.set_cons_succ]
            refine RgD.take (i := 9) (t := 53) rfl rfl (by kernel_rfl) (by kernel_rfl) (by kernel_rfl) (by kernel_rfl) (fun _ _ _ h => h) (by rfl) (by intro w0 hSw; first | (go_simp; done) | (go_simp; with_reducible rfl) | (go_simp; intro hc; exfalso; omega)) (by assumption) ?_
            simp only [List.setIfInBounds_toArray, List.set_cons_zero, List.set_cons_succ]
            refine RgD.take (i := 10) (t := 54) rfl rfl (by kernel_rfl) (by kernel_rfl) (by kernel_rfl) (by kernel_rfl) (fun _ _ _ h => h) (by rfl) (by intro w0 hSw; first | (go_simp; done) | (go_simp; with_reducible rfl) | (go_simp; intro hc; exfalso; omega)) (by assumption) ?_
            simp only [List.setIfInBounds_toArray, List.set_cons_zero, List.set_cons_succ]
            refine RgD.take (i := 11) (t := 55) (v := .slice Ce el.length ce) rfl rfl (by kernel_rfl) (by kernel_rfl) (by kernel_rfl) (by kernel_rfl) (fun _ _ _ h => h) (by rfl) (by intro w0 hSw; obtain ⟨z4, z5⟩ := HSy.out _ hSw; first | (go_simp; done) | (go_simp; with_reducible rfl) | (go_simp; intro hc; exfalso; omega)) (by assumption) ?_
            simp only [List.setIfInBounds_toArray, List.set_cons_zero, List.set_cons_succ]
            refine RgD.one (i := 6) (by kernel_rfl) ?_
            refine RgD.call (i := 6) (t := 50) rfl rfl (by rfl) (by go_simp; exact ⟨rfl, rfl⟩) ?_
            refine (HIH.out bo HZ.out.1 Cb cb v6 wr.drew _ HO6.out.drew (Below.drew HB6.out) HP.out.2.1 HL6.out.1).mono ?_
            rintro r w2 ⟨v7, rfl, ho, hb⟩
            have HO7 := Lib.hid ho
            have HB7 := Lib.hid ((Below.drew HB6.out).trans hb)
            have HW7 := Lib.hid ((Below.drew HW6.out).trans hb)
            have gS2 := HSB.out _ HB7.out
            clear hb ho
            refine ⟨_, rfl, gS2, ?_⟩
            simp only [List.setIfInBounds_toArray, List.set_cons_zero, List.set_cons_succ]
            refine RgD.one (i := 12) (by kernel_rfl) ?_
            refine RgD.call (i := 12) (t := 56) rfl rfl (by rfl) (by go_simp; exact ⟨rfl, rfl⟩) ?_
            refine (HIH.out el HZ.out.2 Ce ce v7 w2 _ HO7.out HB7.out HP.out.2.2 HL6.out.2).mono ?_
            rintro r w3 ⟨v8, rfl, ho, hb⟩
            have HO8 := Lib.hid ho
            have HB8 := Lib.hid (HB7.out.trans hb)
            have HW8 := Lib.hid (HW7.out.trans hb)
            have gS3 := HSB.out _ HB8.out
            clear hb ho
            refine ⟨_, rfl, gS3, ?_⟩
            simp only [List.setIfInBounds_toArray, List.set_cons_zero, List.set_cons_succ]
            refine RgD.take (i := 13) (t := 0) rfl rfl (by kernel_rfl) (by kernel_rfl) (by kernel_rfl) (by kernel_rfl) (fun _ _ _ h => h) (by rfl) (by intro w0 hSw; first | (go_simp; done) | (go_simp; with_reducible rfl) | (go_simp; intro hc; exfalso; omega)) (by assumption) ?_
            simp only [List.setIfInBounds_toArray, List.set_cons_zero]
            refine RgD.done (by kernel_rfl) ?_ _
            clear gS2 gS3 hS0
            go_wp2_with fail
            go_roundw
            case rel => exact ⟨j + 1, by omega, by go_num, by rw [HNX.out, List.foldl_append, List.foldl_append, List.foldl_append]; exact HO8.out, HB8.out, HW8.out⟩
            case measure => simp [intOf]; omega
      · obtain rfl : m = j := by omega
        have HTK := Lib.hid (show l.take m = l from List.take_of_length_le (by rw [HM.out]; exact Nat.le_refl _))
        go_wp2_with fail
        go_ret
        have h := HO5.out
        rw [HTK.out] at h
        exact ⟨_, rfl, h, HW5.out⟩
end Go.Proofs.Yteibcfpepdbflaa.TxS
