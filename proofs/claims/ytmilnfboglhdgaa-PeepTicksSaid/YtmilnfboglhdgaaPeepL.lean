/- straight, ticks of chapter 29's statements. Conditions: lengths of 1048576 at most. -/
import Derived.Test.YtmilnfboglhdgaaPeepK
import Derived.Laws.Rows
namespace Go.Proofs.Ytmilnfboglhdgaa.PeepL
open Go Go.RowKit NestP NestW Sq ValP ValW PeepP PeepW PeepX PeepY PeepZ PeepC PeepD PeepF PeepG PeepJ PeepK

set_option maxRecDepth 100000 in
set_option maxHeartbeats 2000000 in
theorem straight_i {A : Option Addr} {n c : Nat} (l : List Ins) (w : World) (hr : RdI w A n l) (hn : n ≤ 1048576) :
    Calls Try.prog 15 #[.slice A n c] w fun e w' => e = .returned (.bool (straight l)) ∧ w = w' := by
  have HR := Lib.hid hr
  have HL := Lib.hid (show l.length = n from hr.1.symm)
  clear hr
  go_enter Try.func15, Try.ntmps15
  go_wp2_with fail
  go_loop [3] (fun iv => ∃ j : Nat, j ≤ n ∧ iv = .int .i64 (j : Int) ∧ Hid (straight (l.take j) = true)) (fun iv => n - (intOf iv).toNat)
  case atStart => exact ⟨0, Nat.zero_le _, rfl, Lib.hid (by simp [straight])⟩
  case round =>
    obtain ⟨j, hj, rfl, HT⟩ := hrel
    by_cases hlt : j < n
    · obtain ⟨b2, o2, rfl, hb2, hl2, hc2⟩ := HR.out.at_ InsE_len hlt
      have HP := Lib.hid (show (plainO l[j].1 = false → straight l = false) ∧ (plainO l[j].1 = true → straight (l.take (j + 1)) = true) from ⟨fun h => by
        unfold straight
        rw [List.all_eq_false]
        exact ⟨_, List.getElem_mem hl2, by rw [h]; simp⟩, fun h => by
        have h0 := HT.out
        unfold straight at h0 ⊢
        rw [List.take_succ_eq_append_getElem hl2, List.all_append, h0]
        simp [h]⟩)
      have c0 : w.cell? ⟨b2, o2 + j * 2, none⟩ = some (.int .i64 l[j].1) := hc2 0 _ rfl
      obtain ⟨z, hz⟩ : ∃ z, l[j].1 = z := ⟨_, rfl⟩
      rw [hz] at c0 HP
      have k0 : (0 : Int) ≤ (j : Int) := by omega
      have k1 : (j : Int) < (n : Int) := by omega
      clear hz hc2 hl2
      by_cases h24 : z = 24
      · subst h24; have HF := Lib.hid (HP.out.1 rfl); go_wp2_with fail; go_ret; exact ⟨by rw [HF.out] <;> rfl, rfl⟩
      by_cases h25 : z = 25
      · subst h25; have HF := Lib.hid (HP.out.1 rfl); go_wp2_with fail; go_ret; exact ⟨by rw [HF.out] <;> rfl, rfl⟩
      by_cases h38 : z = 38
      · subst h38; have HF := Lib.hid (HP.out.1 rfl); go_wp2_with fail; go_ret; exact ⟨by rw [HF.out] <;> rfl, rfl⟩
      by_cases h27 : z = 27
      · subst h27; have HF := Lib.hid (HP.out.1 rfl); go_wp2_with fail; go_ret; exact ⟨by rw [HF.out] <;> rfl, rfl⟩
      by_cases h28 : z = 28
      · subst h28; have HF := Lib.hid (HP.out.1 rfl); go_wp2_with fail; go_ret; exact ⟨by rw [HF.out] <;> rfl, rfl⟩
      by_cases h29 : z = 29
      · subst h29; have HF := Lib.hid (HP.out.1 rfl); go_wp2_with fail; go_ret; exact ⟨by rw [HF.out] <;> rfl, rfl⟩
      by_cases h30 : z = 30
      · subst h30; have HF := Lib.hid (HP.out.1 rfl); go_wp2_with fail; go_ret; exact ⟨by rw [HF.out] <;> rfl, rfl⟩
      have HT2 := Lib.hid (HP.out.2 (by unfold plainO; simp [h24, h25, h38, h27, h28, h29, h30]))
      have s1 : (z == 24) = false := by simpa using h24
      have s2 : (z == 25) = false := by simpa using h25
      have s3 : (z == 38) = false := by simpa using h38
      have s4 : (z == 27) = false := by simpa using h27
      have s5 : (z == 28) = false := by simpa using h28
      have s6 : (z == 29) = false := by simpa using h29
      have s7 : (z == 30) = false := by simpa using h30
      clear h24 h25 h38 h27 h28 h29 h30
      go_wp2_with fail
      go_round
      case rel => exact ⟨j + 1, by omega, by go_num, HT2⟩
      case measure => simp [intOf]; omega
    · have HF := Lib.hid (show straight l = true by
        have h := HT.out
        rw [List.take_of_length_le (by rw [HL.out]; omega)] at h
        exact h)
      have t1 : decide ((j : Int) < (n : Int)) = false := decide_eq_false (by omega)
      go_wp2_with fail
      go_ret
      exact ⟨by rw [HF.out] <;> rfl, rfl⟩
theorem tick_step {l : List Ins} {j : Nat} (hl : j < l.length) : nTick (l.take (j + 1)) = nTick (l.take j) + (if l[j].1 = 37 then 1 else 0) ∧ nRest (l.take (j + 1)) = nRest (l.take j) + (if l[j].1 = 37 ∨ reckons l[j].1 = true then 0 else 1) := by
  rw [List.take_succ_eq_append_getElem hl]
  unfold nTick nRest
  rw [List.countP_append, List.countP_append]
  constructor
  · congr 1
    by_cases h : l[j].1 = 37 <;> simp [h]
  · congr 1
    by_cases h : l[j].1 = 37
    · simp [h]
    · cases hr : reckons l[j].1 <;> simp [h, hr]
theorem tick_le (l : List Ins) (j : Nat) : nTick (l.take j) ≤ j ∧ nRest (l.take j) ≤ j :=
  ⟨Nat.le_trans List.countP_le_length (by rw [List.length_take]; omega), Nat.le_trans List.countP_le_length (by rw [List.length_take]; omega)⟩
theorem ret_a {P : Program} {fn : Func} {Q : Ending → World → Prop} {a : Act} {w : World} {p : Tmp} {ty : TypeId} {g : Nat} {t' : TypeId} {cs : Array Value} {fr : Nat × Nat} {d : TypeDesc} (hg : w.heap[g]? = some (.cells cs t' fr))
    (h : fn.results = #[.cell p ty]) (hp : a.tmps.getD p undef = .pointer (some ⟨g, 0, none⟩)) (hu : P.underlying ty = some d) (hd : (match d with | .struct _ | .array _ _ => true | _ => false) = true) (hi : (P.info? ty).map (·.size) = some cs.size) (hdf : a.defers = [])
    (hq : Q (.returned (.agg cs)) w) : bodyPost P fn Q .ret a w := by
  refine bodyPost_ret ?_ hdf hq
  have hp' : a.tmps[p]?.getD undef = .pointer (some ⟨g, 0, none⟩) := by simpa using hp
  simp [results, h, hp', asAddr, run_loadVar_row w g t' ty cs fr _ hg hu hd hi]
/-- The two blocks of ticks. -/
structure Tk (w wr : World) (a b : Int) : Prop where
  res : wr.heap[w.heap.size]? = some (.cells #[.int .i64 0, .int .i64 0] 27 (0, 0))
  cnt : wr.heap[w.heap.size + 1]? = some (.cells #[.int .i64 a, .int .i64 b] 27 (0, 0))
  low : Below w.heap.size w wr
theorem tk_new (w : World) : Tk w ((w.alloc (.cells #[.int .i64 0, .int .i64 0] 27)).alloc (.cells #[.int .i64 0, .int .i64 0] 27)) (nTick ([] : List Ins) : Int) (nRest ([] : List Ins) : Int) := by
  obtain ⟨_, h1, h2, h3⟩ := MvR.alloc2 (w := w) (o1 := .cells #[.int .i64 0, .int .i64 0] 27) (o2 := .cells #[.int .i64 0, .int .i64 0] 27) rfl
  exact ⟨h1, h2, h3⟩
theorem Tk.cells {w wr : World} {a b : Int} (h : Tk w wr a b) : wr.cell? ⟨w.heap.size + 1, 0, none⟩ = some (.int .i64 a) ∧ wr.cell? ⟨w.heap.size + 1, 1, none⟩ = some (.int .i64 b) ∧ wr.cell? ⟨w.heap.size, 0, none⟩ = some (.int .i64 0) ∧ wr.cell? ⟨w.heap.size, 1, none⟩ = some (.int .i64 0) ∧ (∀ o, wr.frozen? ⟨w.heap.size + 1, o, none⟩ = false) ∧ (∀ o, wr.frozen? ⟨w.heap.size, o, none⟩ = false) := by
  refine ⟨?_, ?_, ?_, ?_, ?_, ?_⟩
  · simp [World.cell?, h.cnt]
  · simp [World.cell?, h.cnt]
  · simp [World.cell?, h.res]
  · simp [World.cell?, h.res]
  · intro o; simp [World.frozen?, h.cnt]
  · intro o; simp [World.frozen?, h.res]
theorem Tk.set0 {w wr : World} {a b : Int} (h : Tk w wr a b) (x : Int) : Tk w (wr.setCell ⟨w.heap.size + 1, 0, none⟩ (.int .i64 x)) x b :=
  ⟨(Below.heap_setCell _ _ _ _ (by simp)).trans h.res, by simp [World.setCell, Array.getElem?_modify, h.cnt], h.low.setCell (p := ⟨w.heap.size + 1, 0, none⟩) (by simp) _⟩
theorem Tk.set1 {w wr : World} {a b : Int} (h : Tk w wr a b) (x : Int) : Tk w (wr.setCell ⟨w.heap.size + 1, 1, none⟩ (.int .i64 x)) a x :=
  ⟨(Below.heap_setCell _ _ _ _ (by simp)).trans h.res, by simp [World.setCell, Array.getElem?_modify, h.cnt], h.low.setCell (p := ⟨w.heap.size + 1, 1, none⟩) (by simp) _⟩
set_option maxRecDepth 100000 in
set_option maxHeartbeats 2000000 in
theorem ticks_i {A : Option Addr} {n c : Nat} (l : List Ins) (w : World) (hr : RdI w A n l) (hn : n ≤ 1048576) :
    Calls Try.prog 16 #[.slice A n c] w fun e w' => e = .returned (.agg #[.int .i64 (nTick l : Int), .int .i64 (nRest l : Int)]) ∧ Below w.heap.size w w' := by
  have HR := Lib.hid hr
  have HL := Lib.hid (show l.length = n from hr.1.symm)
  clear hr
  go_enter Try.func16, Try.ntmps16
  go_wp2_with fail
  go_loopw [4] (fun iv wr => ∃ j : Nat, j ≤ n ∧ iv = .int .i64 (j : Int) ∧ Tk w wr (nTick (l.take j) : Int) (nRest (l.take j) : Int)) (fun iv _ => n - (intOf iv).toNat)
  case atStart => exact ⟨0, Nat.zero_le _, rfl, tk_new w⟩
  case round =>
    obtain ⟨j, hj, rfl, hk⟩ := hrel
    have HK := Lib.hid hk
    have HJ := Lib.hid (tick_le l j)
    obtain ⟨x0, x1, y0, y1, xf, yf⟩ := hk.cells
    clear hk
    by_cases hlt : j < n
    · obtain ⟨b2, o2, rfl, hb2, hl2, hc2⟩ := (HR.out.below HK.out.low).at_ InsE_len hlt
      have HS := Lib.hid (tick_step hl2)
      have c0 : wr.cell? ⟨b2, o2 + j * 2, none⟩ = some (.int .i64 l[j].1) := hc2 0 _ rfl
      obtain ⟨z, hz⟩ : ∃ z, l[j].1 = z := ⟨_, rfl⟩
      rw [hz] at c0 HS
      have k0 : (0 : Int) ≤ (j : Int) := by omega
      have k1 : (j : Int) < (n : Int) := by omega
      obtain ⟨a, ha⟩ : ∃ a, nTick (l.take j) = a := ⟨_, rfl⟩
      obtain ⟨r, hra⟩ : ∃ r, nRest (l.take j) = r := ⟨_, rfl⟩
      rw [ha, hra] at HK HJ HS
      rw [ha] at x0
      rw [hra] at x1
      have hw1 := i64w (x := (a : Int) + 1) (by omega) (by have := HJ.out.1; omega)
      have hw2 := i64w (x := (r : Int) + 1) (by omega) (by have := HJ.out.2; omega)
      clear hz hc2 hl2 ha hra hb2
      by_cases h37 : z = 37
      · subst h37
        have HT := Lib.hid (show nTick (l.take (j + 1)) = a + 1 ∧ nRest (l.take (j + 1)) = r from ⟨HS.out.1, by rw [HS.out.2]; rfl⟩)
        clear HS
        go_wp2_with fail
        go_roundw
        case rel => exact ⟨j + 1, by omega, by go_num, by rw [HT.out.1, HT.out.2]; exact HK.out.set0 _⟩
        case measure => simp [intOf]; omega
      have s0 : (z == 37) = false := by simpa using h37
      by_cases h1 : z = 1
      · subst h1
        have HT := Lib.hid (show nTick (l.take (j + 1)) = a ∧ nRest (l.take (j + 1)) = r from ⟨by rw [HS.out.1]; rfl, by rw [HS.out.2]; rfl⟩)
        clear HS h37
        go_wp2_with fail
        go_roundw
        case rel => exact ⟨j + 1, by omega, by go_num, by rw [HT.out.1, HT.out.2]; exact HK.out⟩
        case measure => simp [intOf]; omega
      by_cases h2 : z = 2
      · subst h2
        have HT := Lib.hid (show nTick (l.take (j + 1)) = a ∧ nRest (l.take (j + 1)) = r from ⟨by rw [HS.out.1]; rfl, by rw [HS.out.2]; rfl⟩)
        clear HS h37
        go_wp2_with fail
        go_roundw
        case rel => exact ⟨j + 1, by omega, by go_num, by rw [HT.out.1, HT.out.2]; exact HK.out⟩
        case measure => simp [intOf]; omega
      by_cases h8 : z = 8
      · subst h8
        have HT := Lib.hid (show nTick (l.take (j + 1)) = a ∧ nRest (l.take (j + 1)) = r from ⟨by rw [HS.out.1]; rfl, by rw [HS.out.2]; rfl⟩)
        clear HS h37
        go_wp2_with fail
        go_roundw
        case rel => exact ⟨j + 1, by omega, by go_num, by rw [HT.out.1, HT.out.2]; exact HK.out⟩
        case measure => simp [intOf]; omega
      by_cases h9 : z = 9
      · subst h9
        have HT := Lib.hid (show nTick (l.take (j + 1)) = a ∧ nRest (l.take (j + 1)) = r from ⟨by rw [HS.out.1]; rfl, by rw [HS.out.2]; rfl⟩)
        clear HS h37
        go_wp2_with fail
        go_roundw
        case rel => exact ⟨j + 1, by omega, by go_num, by rw [HT.out.1, HT.out.2]; exact HK.out⟩
        case measure => simp [intOf]; omega
      by_cases h10 : z = 10
      · subst h10
        have HT := Lib.hid (show nTick (l.take (j + 1)) = a ∧ nRest (l.take (j + 1)) = r from ⟨by rw [HS.out.1]; rfl, by rw [HS.out.2]; rfl⟩)
        clear HS h37
        go_wp2_with fail
        go_roundw
        case rel => exact ⟨j + 1, by omega, by go_num, by rw [HT.out.1, HT.out.2]; exact HK.out⟩
        case measure => simp [intOf]; omega
      by_cases h11 : z = 11
      · subst h11
        have HT := Lib.hid (show nTick (l.take (j + 1)) = a ∧ nRest (l.take (j + 1)) = r from ⟨by rw [HS.out.1]; rfl, by rw [HS.out.2]; rfl⟩)
        clear HS h37
        go_wp2_with fail
        go_roundw
        case rel => exact ⟨j + 1, by omega, by go_num, by rw [HT.out.1, HT.out.2]; exact HK.out⟩
        case measure => simp [intOf]; omega
      have s1 : (z == 1) = false := by simpa using h1
      have s2 : (z == 2) = false := by simpa using h2
      have s8 : (z == 8) = false := by simpa using h8
      have s9 : (z == 9) = false := by simpa using h9
      have s10 : (z == 10) = false := by simpa using h10
      have s11 : (z == 11) = false := by simpa using h11
      have HT := Lib.hid (show nTick (l.take (j + 1)) = a ∧ nRest (l.take (j + 1)) = r + 1 from ⟨by rw [HS.out.1, if_neg h37, Nat.add_zero], by rw [HS.out.2, if_neg (by unfold reckons; simp [h37, h1, h2, h8, h9, h10, h11])]⟩)
      clear HS h37 h1 h2 h8 h9 h10 h11
      go_wp2_with fail
      go_roundw
      case rel => exact ⟨j + 1, by omega, by go_num, by rw [HT.out.1, HT.out.2]; exact HK.out.set1 _⟩
      case measure => simp [intOf]; omega
    · have HF := Lib.hid (show l.take j = l from List.take_of_length_le (by rw [HL.out]; omega))
      have t1 : decide ((j : Int) < (n : Int)) = false := decide_eq_false (by omega)
      rw [HF.out] at x0 x1 HK
      go_wp2_with fail
      refine ret_a (d := _) (cs := #[.int .i64 (nTick l : Int), .int .i64 (nRest l : Int)]) (t' := 27) (fr := (0, 0)) ?_ rfl rfl Try.underlying27 rfl (by kernel_rfl) rfl ?_
      · simp [World.setCell, Array.getElem?_modify, HK.out.res]
      · exact ⟨rfl, (HK.out.low.setCell (p := ⟨w.heap.size, 0, none⟩) (Nat.le_refl _) _).setCell (p := ⟨w.heap.size, 1, none⟩) (Nat.le_refl _) _⟩
end Go.Proofs.Ytmilnfboglhdgaa.PeepL
