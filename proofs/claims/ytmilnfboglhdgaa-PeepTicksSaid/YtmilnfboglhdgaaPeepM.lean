/- awake of chapter 29's statements; how a list of instructions among the arguments opens. Conditions: none. -/
import Derived.Test.YtmilnfboglhdgaaPeepL
import Derived.Test.YtmilnfboglhdgaaLaw
namespace Go.Proofs.Ytmilnfboglhdgaa.PeepM
open Go.ChangeShapes Go.WideShapes Go.ChangeAt Go.Deep
open Go Go.RowKit NestP NestW Sq ValP ValW PeepP PeepW PeepX PeepY PeepZ PeepC PeepD PeepF PeepG PeepH PeepJ PeepK PeepL WorldD

theorem cellsI : Try.prog.cellsOf 30 = 2 := by kernel_rfl
section
variable {H : Type} {enc : TypeId × Value → H} {w : World} {base : Nat} {spare : Nat → Bool} {held : Bool}
theorem open_ins {v : Value} {d : DataW H} {p : List MemPlace} {r : Reach} {b0 : Nat} (hv : Value.okWide Try.prog w r b0 22 v) (h : DataW.Trod enc Try.prog w base spare held 22 v d p) :
    ∃ (A : Option Addr) (n c : Nat) (l : List Ins), v = .slice A n c ∧ n ≤ c ∧ c ≤ maxLen ∧ RdI w A n l := by
  obtain ⟨a0, len, cap, rfl⟩ := okWide_slice Try.underlying22 hv
  obtain ⟨fuel, hf⟩ := h
  obtain ⟨l, A, n, c, e, h1, h2, h3⟩ := Sk.trod_rv InsE_len (by omega) Try.underlying22 cellsI (fun n cs y hl h => by
    obtain ⟨xs, m, _, hx, _, hlen, hg⟩ := DataW.trod_struct Try.underlying30 h
    match cs, hl with
    | [c0, c1], _ =>
      match xs, hlen with
      | [y0, y1], _ =>
        have e0 : DataW.trod enc Try.prog w base spare held m 3 [c0] = some y0 := by simpa [cells_int] using hg 0 _ rfl
        have e1 : DataW.trod enc Try.prog w base spare held m 3 [c1] = some y1 := by simpa [cells_int] using hg 1 _ rfl
        obtain ⟨x0, rfl, _⟩ := int_of e0
        obtain ⟨x1, rfl, _⟩ := int_of e1
        exact ⟨(x0, x1), rfl⟩) hf
  exact ⟨A, n, c, l, e, h1, h2, h3⟩
end
set_option maxRecDepth 100000 in
set_option maxHeartbeats 2000000 in
theorem awake (w : World) : Calls Try.prog 7 #[] w fun e w' => e = .returned (.bool true) ∧ Below w.heap.size w w' := by
  have HB := Lib.hid (Below.refl w.heap.size w)
  obtain ⟨w1, hw1⟩ : ∃ W, w.alloc (.cells #[.int .i64 1, .int .i64 2, .int .i64 1, .int .i64 3, .int .i64 8, .int .i64 10] 30) = W := ⟨_, rfl⟩
  have HL1 := Lib.hid (show RdI w1 (some ⟨w.heap.size, 0, none⟩) 3 [(1, 2), (1, 3), (8, 10)] by rw [← hw1]; exact Sk.rd_lit w 30 [(1, 2), (1, 3), (8, 10)] #[.int .i64 1, .int .i64 2, .int .i64 1, .int .i64 3, .int .i64 8, .int .i64 10] rfl 3 rfl)
  have HG1 := Lib.hid (show Below w.heap.size w w1 by rw [← hw1]; exact (Below.refl _ _).alloc (Nat.le_refl _) _)
  have HB1 := Lib.hid (HB.out.trans (HG1.out.mono HB.out.size))
  obtain ⟨w2, hw2⟩ : ∃ W, w1.alloc (.cells #[.int .i64 1, .int .i64 0, .int .i64 25, .int .i64 1, .int .i64 37, .int .i64 0, .int .i64 38, .int .i64 1] 30) = W := ⟨_, rfl⟩
  have HL2 := Lib.hid (show RdI w2 (some ⟨w1.heap.size, 0, none⟩) 4 [(1, 0), (25, 1), (37, 0), (38, 1)] by rw [← hw2]; exact Sk.rd_lit w1 30 [(1, 0), (25, 1), (37, 0), (38, 1)] #[.int .i64 1, .int .i64 0, .int .i64 25, .int .i64 1, .int .i64 37, .int .i64 0, .int .i64 38, .int .i64 1] rfl 4 rfl)
  have HG2 := Lib.hid (show Below w1.heap.size w1 w2 by rw [← hw2]; exact (Below.refl _ _).alloc (Nat.le_refl _) _)
  have HB2 := Lib.hid (HB1.out.trans (HG2.out.mono HB1.out.size))
  go_enter Try.func7, Try.ntmps7
  go_wp2_with fail
  refine (Once_i (c := 3) [(1, 2), (1, 3), (8, 10)] w2 (HL1.out.below HG2.out) (by omega) (by omega)).mono ?_
  rintro e w3 ⟨v, rfl, ho, hb⟩
  rw [ex1] at ho
  obtain ⟨A3, c3, rfl, _, _, hr3⟩ := own_ex ho
  have HR3 := Lib.hid hr3
  have HB3 := Lib.hid (HB2.out.trans (hb.mono HB2.out.size))
  have HM3 := Lib.hid (HL2.out.below hb)
  clear ho hb hr3
  obtain ⟨w4, hw4⟩ : ∃ W, w3.alloc (.cells #[.int .i64 1, .int .i64 5] 30) = W := ⟨_, rfl⟩
  have HL4 := Lib.hid (show RdI w4 (some ⟨w3.heap.size, 0, none⟩) 1 [(1, 5)] by rw [← hw4]; exact Sk.rd_lit w3 30 [(1, 5)] #[.int .i64 1, .int .i64 5] rfl 1 rfl)
  have HG4 := Lib.hid (show Below w3.heap.size w3 w4 by rw [← hw4]; exact (Below.refl _ _).alloc (Nat.le_refl _) _)
  have HB4 := Lib.hid (HB3.out.trans (HG4.out.mono HB3.out.size))
  have HM4 := Lib.hid (HM3.out.below HG4.out)
  go_wp2_with fail
  refine (same_r [(1, 5)] [(1, 5)] w4 (HR3.out.below HG4.out) HL4.out (by simp) (by simp)).mono ?_
  rintro e w5 ⟨rfl, hb⟩
  rw [show decide (([(1, 5)] : List Ins) = [(1, 5)]) = true from decide_eq_true rfl]
  have HB5 := Lib.hid (HB4.out.trans (hb.mono HB4.out.size))
  have HM5 := Lib.hid (HM4.out.below hb)
  clear hb
  go_wp2_with fail
  with_reducible refine (Once_i (c := 4) [(1, 0), (25, 1), (37, 0), (38, 1)] w5 HM5.out (by omega) (by omega)).mono ?_
  rintro e w6 ⟨v, rfl, ho, hb⟩
  rw [ex2] at ho
  obtain ⟨A6, c6, rfl, _, _, hr6⟩ := own_ex ho
  have HR6 := Lib.hid hr6
  have HB6 := Lib.hid (HB5.out.trans (hb.mono HB5.out.size))
  have HM6 := Lib.hid (HM5.out.below hb)
  clear ho hb hr6
  obtain ⟨w7, hw7⟩ : ∃ W, w6.alloc (.cells #[.int .i64 24, .int .i64 1, .int .i64 37, .int .i64 0, .int .i64 38, .int .i64 1] 30) = W := ⟨_, rfl⟩
  have HL7 := Lib.hid (show RdI w7 (some ⟨w6.heap.size, 0, none⟩) 3 [(24, 1), (37, 0), (38, 1)] by rw [← hw7]; exact Sk.rd_lit w6 30 [(24, 1), (37, 0), (38, 1)] #[.int .i64 24, .int .i64 1, .int .i64 37, .int .i64 0, .int .i64 38, .int .i64 1] rfl 3 rfl)
  have HG7 := Lib.hid (show Below w6.heap.size w6 w7 by rw [← hw7]; exact (Below.refl _ _).alloc (Nat.le_refl _) _)
  have HB7 := Lib.hid (HB6.out.trans (HG7.out.mono HB6.out.size))
  have HM7 := Lib.hid (HM6.out.below HG7.out)
  go_wp2_with fail
  refine (same_r [(24, 1), (37, 0), (38, 1)] [(24, 1), (37, 0), (38, 1)] w7 (HR6.out.below HG7.out) HL7.out (by simp) (by simp)).mono ?_
  rintro e w8 ⟨rfl, hb⟩
  rw [show decide (([(24, 1), (37, 0), (38, 1)] : List Ins) = [(24, 1), (37, 0), (38, 1)]) = true from decide_eq_true rfl]
  have HB8 := Lib.hid (HB7.out.trans (hb.mono HB7.out.size))
  have HM8 := Lib.hid (HM7.out.below hb)
  clear hb
  go_wp2_with fail
  refine (All_i (c := 4) [(1, 0), (25, 1), (37, 0), (38, 1)] w8 HM8.out (by omega) (by unfold maxLen; omega) (by omega)).mono ?_
  rintro e w9 ⟨v, rfl, ho, hb⟩
  rw [show 16 * ([(1, 0), (25, 1), (37, 0), (38, 1)] : List Ins).length = 64 from rfl, ex3] at ho
  obtain ⟨A9, c9, rfl, _, _, _⟩ := own_ex ho
  have HB9 := Lib.hid (HB8.out.trans (hb.mono HB8.out.size))
  have HM9 := Lib.hid (HM8.out.below hb)
  clear ho hb
  go_wp2_with fail
  refine (Best_i (A := none) (n := 0) (c := 0) [] w9 (Sk.Rd.nil _ none) (by omega) (by omega)).mono ?_
  rintro e w10 ⟨rfl, hb⟩
  rw [show decide (([] : List Ins) = onceL []) = true from decide_eq_true rfl]
  have HB10 := Lib.hid (HB9.out.trans (hb.mono HB9.out.size))
  have HM10 := Lib.hid (HM9.out.below hb)
  clear hb
  go_wp2_with fail
  refine (Best_i (c := 4) [(1, 0), (25, 1), (37, 0), (38, 1)] w10 HM10.out (by omega) (by omega)).mono ?_
  rintro e w11 ⟨rfl, hb⟩
  rw [ex2, show decide (([(1, 0), (25, 1), (37, 0), (38, 1)] : List Ins) = [(24, 1), (37, 0), (38, 1)]) = false from by decide +kernel]
  have HB11 := Lib.hid (HB10.out.trans (hb.mono HB10.out.size))
  clear hb
  go_wp2_with fail
  go_ret
  exact ⟨rfl, HB11.out⟩
end Go.Proofs.Ytmilnfboglhdgaa.PeepM
