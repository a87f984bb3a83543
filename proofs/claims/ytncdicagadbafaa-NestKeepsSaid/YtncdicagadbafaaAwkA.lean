/- clewlaw20.awake: chapter 20's example. Conditions: none. -/
import Derived.Test.YtncdicagadbafaaWoC
import Derived.Test.YtncdicagadbafaaSamW
namespace Go.Proofs.Ytncdicagadbafaa.AwkA
open Go Go.RowKit NestP NestW NestX NestY ValP ValW ValX ValR Sq Rng RngU RngT RngC RngD RgIn WorldD CopP CopW MoveP LvP LvA MvW MvX MvA MixP Awk AwkP WoC

def ga : Wd := mvG (zeroW 5) 3 2
def gb : Wd := mvG ga 4 2
def gc : Wd := mvG gb 2 3
theorem ga_good : NestP.Good ga := mvG_good (zero_good (by omega)) _ _
theorem gb_good : NestP.Good gb := mvG_good ga_good _ _
theorem ea : mvE (zeroW 5) 3 2 = 0 := by decide
theorem eb : mvE ga 4 2 = 0 := by decide
theorem ec : mvE gb 2 3 = 18 := by decide
theorem kb : kids gb 2 = [4, 3] := by decide
theorem tb : top gb 4 = 2 := by decide
theorem wb13 {b : Nat} {w : World} {v : Value} {g : Wd} {a0 a1 a2 a3 a4 a5 a6 a7 a8 a9 a10 a11 a12 : Value} (h : Wb b w v g) : Wb b (set13w w b a0 a1 a2 a3 a4 a5 a6 a7 a8 a9 a10 a11 a12) v g := h.on (by unfold set13w; simp) fun k _ hne => set13_other _ _ hne
theorem size13 {b : Nat} {w : World} {a0 a1 a2 a3 a4 a5 a6 a7 a8 a9 a10 a11 a12 : Value} : (set13w w b a0 a1 a2 a3 a4 a5 a6 a7 a8 a9 a10 a11 a12).heap.size = w.heap.size := by unfold set13w; simp

set_option maxRecDepth 100000 in
set_option maxHeartbeats 8000000 in
theorem awake (w : World) : Calls Try.prog 38 #[] w fun e w' => e = .returned (.bool true) ∧ Below w.heap.size w w' := by
  go_enter Try.func38, Try.ntmps38
  go_wp2_with (first
    | (go_at_call 44; refine (empty_i 5 (by omega) _).mono ?_; rintro e w1 ⟨v0, rfl, ho1, hb1⟩)
    | (go_at_call 39; refine (move_i (zeroW 5) (zero_good (by omega)) 3 2 _ ho1).mono ?_; clear ho1; rintro e w2 ⟨v1, rfl, ho2, hb2⟩; rw [ea]; have hx := ho2; obtain ⟨aA0, aA1, aA2, aA3, aA4, aA5, aA6, an0, ac0, an1, ac1, an2, ac2, an3, ac3, an4, ac4, an5, ac5, an6, ac6, rfl, _⟩ := hx; have HO2 := Lib.hid ho2; have HB2 := Lib.hid (hb1.trans (hb2.mono hb1.size)); clear ho2 hb1 hb2))
  go_wp2_with (go_at_call 39; refine (move_b w2.heap.size ga ga_good 4 2 _ (by simp) (wb_new HO2.out _)).mono ?_; clear HO2; rintro e w3 ⟨v2, rfl, ho3, hb3⟩; rw [eb]; have hx := ho3.wo; obtain ⟨bA0, bA1, bA2, bA3, bA4, bA5, bA6, bn0, bc0, bn1, bc1, bn2, bc2, bn3, bc3, bn4, bc4, bn5, bc5, bn6, bc6, rfl, _⟩ := hx; have h3 := (hb3.block _ (by simp)).trans (World.alloc_heap_new _ _); obtain ⟨x0, x1, x2, x3, x4, x5, x6, x7, x8, x9, x10, x11, x12, xf⟩ := cells13 h3; have HO3 := Lib.hid ho3; have hz := hb3.size; rw [World.size_alloc] at hz; have HB3 := Lib.hid (((HB2.out.alloc HB2.out.size _).trans (hb3.mono (by simp; have := HB2.out.size; omega)))); clear ho3 hb3)
  refine (move_b w2.heap.size gb gb_good 2 3 _ ?hs (show Wb w2.heap.size _ _ gb from wb13 HO3.out)).mono ?_
  case hs => first | (rw [size13]; omega) | (simp; omega)
  rintro e w4 ⟨v3, rfl, ho4, hb4⟩
  rw [ec]
  have hx := ho4.wo
  obtain ⟨dA0, dA1, dA2, dA3, dA4, dA5, dA6, dn0, dc0, dn1, dc1, dn2, dc2, dn3, dc3, dn4, dc4, dn5, dc5, dn6, dc6, rfl, _⟩ := hx
  have h4 := (hb4.block w2.heap.size (by first | (rw [size13]; omega) | (simp; omega))).trans (set13 h3)
  have HO4 := Lib.hid ((wb13 HO3.out).below hb4)
  have s4 : w2.heap.size < w4.heap.size := Nat.lt_of_lt_of_le (by first | (rw [size13]; omega) | (simp; omega)) hb4.size
  have HB4 := Lib.hid ((set13_below HB3.out HB2.out.size (Nat.zero_le _)).trans (hb4.mono (by first | (rw [size13]; exact HB3.out.size) | (simp; exact HB3.out.size))))
  clear HO3 hb4 ho4 x0 x1 x2 x3 x4 x5 x6 x7 x8 x9 x10 x11 x12 xf
  obtain ⟨x0, x1, x2, x3, x4, x5, x6, x7, x8, x9, x10, x11, x12, xf⟩ := cells13 h4
  have e4 : w2.heap.size ≠ w4.heap.size := by omega
  go_wp2_with (first
    | (go_at_call 48; refine (children_w gb gb_good 2 (HO4.out.below ((Below.refl _ _).alloc (Nat.le_refl _) _)).wo).mono ?_; rintro e w5 ⟨Ak, ck, rfl, hk, hb5⟩; rw [kb] at hk ⊢; have hb45 := ((Below.refl w4.heap.size w4).alloc (Nat.le_refl _) _).trans (hb5.mono (by simp)); have h5 := (hb45.block _ s4).trans h4; have HO5 := Lib.hid (HO4.out.below hb45); have HB5 := Lib.hid (HB4.out.trans (hb45.mono HB4.out.size)); have HK := Lib.hid hk; have s5 := Nat.lt_of_lt_of_le s4 hb45.size; clear HO4 hb5 hb45 hk x0 x1 x2 x3 x4 x5 x6 x7 x8 x9 x10 x11 x12 xf; obtain ⟨x0, x1, x2, x3, x4, x5, x6, x7, x8, x9, x10, x11, x12, xf⟩ := cells13 h5; have e5 : w2.heap.size ≠ w5.heap.size := (Nat.ne_of_lt s5))
    | (go_at_call 47; refine (SamW.same_t [4, 3] _ (HK.out.alloc _) (rd_lit w5 3 [4, 3] #[.int .i64 4, .int .i64 3] rfl 2 rfl) (by simp)).mono ?_; rintro e w6 ⟨rfl, q, rfl⟩)
    | (go_at_call 54; refine (top_w gb 4 (HO5.out.below (belowN ((Below.refl _ _).alloc (Nat.le_refl _) _) q)).wo).mono ?_; rintro e w7 ⟨rfl, hb7⟩; rw [tb]; have hfin := (belowN (HB5.out.alloc HB5.out.size (.cells #[.int .i64 4, .int .i64 3] 3)) q).trans (hb7.mono (show w.heap.size ≤ (w5.alloc _).heap.size from Nat.le_trans HB5.out.size (by simp)))))
  go_ret
  exact ⟨rfl, hfin⟩
end Go.Proofs.Ytncdicagadbafaa.AwkA
