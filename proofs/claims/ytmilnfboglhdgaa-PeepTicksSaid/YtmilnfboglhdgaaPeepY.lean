/- 'with', push, known, reckoned, turned, never of chapter 29. Conditions: lengths of 1048576 at most. -/
import Derived.Test.YtmilnfboglhdgaaPeepX
import Derived.Test.YtmilnfboglhdgaaValY
import Derived.Test.YtmilnfboglhdgaaReg
namespace Go.Proofs.Ytmilnfboglhdgaa.PeepY
open Go Go.RowKit NestP NestW Sq ValP ValW ValY PeepP PeepW PeepX

/-- A slice of instructions, opened. -/
theorem rd_open {w : World} {A : Option Addr} {n : Nat} {l : List Ins} (h : RdI w A n l) (h0 : 0 < n) : ∃ b o, A = some ⟨b, o, none⟩ ∧ b < w.heap.size ∧ ∀ k, k < n → w.cell? ⟨b, o + k * 2, none⟩ = some (.int .i64 (op l k)) ∧ w.cell? ⟨b, o + k * 2 + 1, none⟩ = some (.int .i64 (ar l k)) := by
  obtain ⟨b, o, rfl, hb, hl, _⟩ := h.at_ InsE_len h0
  refine ⟨b, o, rfl, hb, fun k hk => ?_⟩
  obtain ⟨b', o', e, _, hlk, hc⟩ := h.at_ InsE_len hk
  injection e with e
  injection e with e1 e2
  subst e1 e2
  rw [op_lt hlk, ar_lt hlk]
  exact ⟨hc 0 _ rfl, hc 1 _ rfl⟩
theorem own_ex {w : World} {B : Nat} {v : Value} {l : List Ins} (h : OwnI w B v l) : ∃ A c, v = .slice A l.length c ∧ l.length ≤ c ∧ c ≤ maxLen ∧ RdI w A l.length l := by
  obtain ⟨A, c, rfl, h1, h2⟩ := h.shape
  exact ⟨A, c, rfl, h1, h2, h.rd⟩
set_option maxRecDepth 100000 in
theorem with_i {A B : Option Addr} {n c m d : Nat} (l b : List Ins) (i k : Nat) (w : World) (hr : RdI w A n l) (hb : RdI w B m b) (hc : n ≤ c) (hi : i + k ≤ n) (hn : n ≤ 1048576) (hm : m ≤ 1048576) :
    Calls Try.prog 25 #[.slice A n c, .int .i64 (i : Int), .int .i64 (k : Int), .slice B m d] w fun e w' => ∃ v, e = .returned v ∧ OwnI w' w.heap.size v (swap l i k b) ∧ Below w.heap.size w w' := by
  have HR := Lib.hid hr
  have HB := Lib.hid hb
  have hic : i ≤ c := by omega
  have hwr : IntKind.i64.wrap ((i : Int) + (k : Int)) = (i : Int) + (k : Int) := by rw [IntKind.wrap_i64]; omega
  have hcast : ((i + k : Nat) : Int) = (i : Int) + (k : Int) := by omega
  clear hr hb
  go_enter Try.func25, Try.ntmps25
  go_wp2_with fail
  refine wp_region_held_drew (S := (fun _ => True)) (by kernel_rfl) trivial (fun hHeld => ?_)
  refine Rg.take (i := 0) (t := 9) (v := .slice A n c) rfl rfl (by kernel_rfl) (by kernel_rfl) (by kernel_rfl) (fun _ _ _ h => h) (by rfl) (by intro w0 hSw; first | (go_simp; done) | (go_simp; with_reducible rfl)) (by assumption) ?_
  simp only [List.setIfInBounds_toArray, List.set_cons_zero, List.set_cons_succ]
  refine Rg.take (i := 1) (t := 10) (v := .int .i64 (i : Int)) rfl rfl (by kernel_rfl) (by kernel_rfl) (by kernel_rfl) (fun _ _ _ h => h) (by rfl) (by intro w0 hSw; first | (go_simp; done) | (go_simp; with_reducible rfl)) (by assumption) ?_
  simp only [List.setIfInBounds_toArray, List.set_cons_zero, List.set_cons_succ]
  refine Rg.take (i := 2) (t := 11) (v := .slice A i c) rfl rfl (by kernel_rfl) (by kernel_rfl) (by kernel_rfl) (fun _ _ _ h => h) (by rfl) (by intro w0 hSw; have hq := Slic.run_high 31 30 2 Try.underlying31 (by kernel_rfl) A n c i hic w0; first | (go_simp; done) | (go_simp; with_reducible rfl)) (by assumption) ?_
  simp only [List.setIfInBounds_toArray, List.set_cons_zero, List.set_cons_succ]
  refine Rg.take (i := 3) (t := 12) (v := .slice B m d) rfl rfl (by kernel_rfl) (by kernel_rfl) (by kernel_rfl) (fun _ _ _ h => h) (by rfl) (by intro w0 hSw; first | (go_simp; done) | (go_simp; with_reducible rfl)) (by assumption) ?_
  simp only [List.setIfInBounds_toArray, List.set_cons_zero, List.set_cons_succ]
  refine Rg.take (i := 4) (t := 13) (v := .slice A n c) rfl rfl (by kernel_rfl) (by kernel_rfl) (by kernel_rfl) (fun _ _ _ h => h) (by rfl) (by intro w0 hSw; first | (go_simp; done) | (go_simp; with_reducible rfl)) (by assumption) ?_
  simp only [List.setIfInBounds_toArray, List.set_cons_zero, List.set_cons_succ]
  refine Rg.take (i := 5) (t := 14) (v := .int .i64 (i : Int)) rfl rfl (by kernel_rfl) (by kernel_rfl) (by kernel_rfl) (fun _ _ _ h => h) (by rfl) (by intro w0 hSw; first | (go_simp; done) | (go_simp; with_reducible rfl)) (by assumption) ?_
  simp only [List.setIfInBounds_toArray, List.set_cons_zero, List.set_cons_succ]
  refine Rg.take (i := 6) (t := 15) (v := .int .i64 (k : Int)) rfl rfl (by kernel_rfl) (by kernel_rfl) (by kernel_rfl) (fun _ _ _ h => h) (by rfl) (by intro w0 hSw; first | (go_simp; done) | (go_simp; with_reducible rfl)) (by assumption) ?_
  simp only [List.setIfInBounds_toArray, List.set_cons_zero, List.set_cons_succ]
  refine Rg.take (i := 7) (t := 16) (v := .int .i64 ((i : Int) + (k : Int))) rfl rfl (by kernel_rfl) (by kernel_rfl) (by kernel_rfl) (fun _ _ _ h => h) (by rfl) (by intro w0 hSw; have hq := hwr; first | (go_simp; done) | (go_simp; with_reducible rfl)) (by assumption) ?_
  simp only [List.setIfInBounds_toArray, List.set_cons_zero, List.set_cons_succ]
  refine Rg.take (i := 8) (t := 17) (v := .slice (Slic.cutAt A c (i + k) 2) (n - (i + k)) (c - (i + k))) rfl rfl (by kernel_rfl) (by kernel_rfl) (by kernel_rfl) (fun _ _ _ h => h) (by rfl) (by intro w0 hSw; have hq := Slic.run_low 31 30 2 Try.underlying31 (by kernel_rfl) A n c (i + k) hi w0; rw [hcast] at hq; first | (go_simp; done) | (go_simp; with_reducible rfl)) (by assumption) ?_
  simp only [List.setIfInBounds_toArray, List.set_cons_zero, List.set_cons_succ]
  refine Rg.one (i := 9) (by kernel_rfl) ?_
  refine Rg.eff (i := 9) (t := 18) rfl rfl (by rfl) (by go_simp; first | exact ⟨rfl, rfl⟩ | exact rfl) ((fun _ => True)) (fun _ _ => trivial) trivial ?_
  simp only [List.setIfInBounds_toArray, List.set_cons_zero, List.set_cons_succ]
  obtain ⟨w1, hw1⟩ : ∃ w1, (w.alloc (.cells #[.slice A i c, .slice B m d, .slice (Slic.cutAt A c (i + k) 2) (n - (i + k)) (c - (i + k))] 31)).drew = w1 := ⟨_, rfl⟩
  have hb1 : Below w.heap.size w w1 := by rw [← hw1]; exact ((Below.refl _ _).alloc (Nat.le_refl _) _).drew
  have hs1 : w1.heap[w.heap.size]? = some (.cells #[.slice A i c, .slice B m d, .slice (Slic.cutAt A c (i + k) 2) (n - (i + k)) (c - (i + k))] 31 (0, 0)) := by rw [← hw1]; exact World.alloc_heap_new w _
  have hz1 : w.heap.size < w1.heap.size := by rw [← hw1]; simp
  rw [hw1]
  refine Rg.one (i := 10) (by kernel_rfl) ?_
  refine Rg.call (i := 10) (t := 19) rfl rfl (by rfl) (by go_simp; exact ⟨rfl, rfl⟩) ?_
  refine (concat3 w.heap.size A B (Slic.cutAt A c (i + k) 2) i c m d (n - (i + k)) (c - (i + k)) (l.take i) b (l.drop (i + k)) w1 hz1 (by simp [World.cell?, hs1]) (by simp [World.cell?, hs1]) (by simp [World.cell?, hs1]) ((HR.out.below hb1).high i (by omega)) (HB.out.below hb1) ((HR.out.below hb1).low InsE_len (i + k) c hi hc) (by omega) hm (by omega)).mono ?_
  rintro e w2 ⟨v, rfl, ho, hb2⟩
  have HO := Lib.hid (ho.lower hb1.size)
  have HB2 := Lib.hid (hb1.trans (hb2.mono hb1.size))
  clear ho hb2 hs1 hz1 hw1 hb1
  refine ⟨_, rfl, (fun _ => True), fun _ h => h, trivial, ?_⟩
  simp only [List.setIfInBounds_toArray, List.set_cons_zero, List.set_cons_succ]
  refine Rg.take (i := 11) (t := 8) (v := v) rfl rfl (by kernel_rfl) (by kernel_rfl) (by kernel_rfl) (fun _ _ _ h => h) (by rfl) (by intro w0 hSw; first | (go_simp; done) | (go_simp; with_reducible rfl)) (by assumption) ?_
  simp only [List.setIfInBounds_toArray, List.set_cons_zero, List.set_cons_succ]
  refine wpAnyH_done (by kernel_rfl) ?_ _
  go_wp2_with fail
  go_ret
  exact ⟨v, rfl, HO.out, HB2.out⟩
/-- What a way gives: the better list, or nothing and false. -/
def WayP (o : Option (List Ins)) (w : World) (e : Ending) (w' : World) : Prop := ∃ v, e = .returned (.tuple #[v, .bool o.isSome]) ∧ (∀ m, o = some m → OwnI w' w.heap.size v m) ∧ Below w.heap.size w w'
theorem WayP.yes {w w' : World} {v : Value} {m : List Ins} (h : OwnI w' w.heap.size v m) (hb : Below w.heap.size w w') : WayP (some m) w (.returned (.tuple #[v, .bool true])) w' := ⟨v, rfl, fun _ e => (Option.some.inj e) ▸ h, hb⟩
theorem WayP.no {w w' : World} {v : Value} (hb : Below w.heap.size w w') : WayP none w (.returned (.tuple #[v, .bool false])) w' := ⟨v, rfl, (fun _ e => by cases e), hb⟩
set_option maxRecDepth 100000 in
theorem push_i {A : Option Addr} {n c : Nat} (l : List Ins) (i k : Nat) (x : Int) (w : World) (hr : RdI w A n l) (hc : n ≤ c) (hi : i + k ≤ n) (hn : n ≤ 1048576) :
    Calls Try.prog 42 #[.slice A n c, .int .i64 (i : Int), .int .i64 (k : Int), .int .i64 x] w (WayP (some (swap l i k [(1, x)])) w) := by
  have HR := Lib.hid hr
  clear hr
  go_enter Try.func42, Try.ntmps42
  obtain ⟨w1, hw1⟩ : ∃ w1, w.alloc (.cells #[.int .i64 1, .int .i64 x] 30) = w1 := ⟨_, rfl⟩
  have hb1 : Below w.heap.size w w1 := by rw [← hw1]; exact (Below.refl _ _).alloc (Nat.le_refl _) _
  have hR1 : RdI w1 (some ⟨w.heap.size, 0, none⟩) 1 [(1, x)] := by rw [← hw1]; exact Sk.rd_lit w 30 [(1, x)] #[.int .i64 1, .int .i64 x] rfl 1 rfl
  go_wp2_with (go_at_call 25; (refine (with_i l [(1, x)] i k w1 (HR.out.below hb1) hR1 hc hi hn (by omega)).mono ?_; rintro e w2 ⟨v, rfl, ho, hb2⟩; have HO := Lib.hid (ho.lower hb1.size); have HB2 := Lib.hid (hb1.trans (hb2.mono hb1.size)); clear ho hb2 hb1 hR1 hw1))
  go_ret2
  exact WayP.yes HO.out HB2.out
/-- Bin in a world of nothing. -/
theorem bin_o (k a b : Int) (w : World) :
    Calls Try.prog 41 #[.agg #[.slice none 0 0, .slice none 0 0, .slice none 0 0, .slice none 0 0, .slice none 0 0, .slice none 0 0, .slice none 0 0, .int .u64 0, .int .i64 0, .int .i64 0, .int .i64 0, .int .i64 0, .int .i64 0], .int .i64 k, .int .i64 a, .int .i64 b] w fun e w' => e = .returned (.tuple #[.int .i64 (bz k a b), .int .i64 (be k b)]) ∧ Below w.heap.size w w' := by
  have h := bin_i (v0 := .slice none 0 0) (v4 := .slice none 0 0) (v5 := .slice none 0 0) (v6 := .slice none 0 0) (v7 := .int .u64 0) (v8 := .int .i64 0) (v9 := .int .i64 0) (v10 := .int .i64 0) (v11 := .int .i64 0) (v12 := .int .i64 0) (A1 := none) (A2 := none) (A3 := none) (n := 0) (c1 := 0) (n2 := 0) (c2 := 0) (n3 := 0) (c3 := 0) ⟨[], [], [], [], [], [], [], 0, 0, 0, 0, 0, 0⟩ k a b w (Sq.Rd.nil w none)
  have e1 : at' [] (wr a) = 0 := by unfold at'; simp
  have e2 : isT 0 (wr a) = false := by unfold isT; simp; omega
  refine h.mono fun e w' ⟨h1, h2⟩ => ⟨?_, h2⟩
  rw [h1]
  show Ending.returned (.tuple #[.int .i64 (opV (at' [] (wr a)) (isT 0 (wr a)) k (wr a) (wr b)), .int .i64 (opE (isT 0 (wr a)) k (wr b))]) = _
  rw [e1, e2]
  rfl
set_option maxRecDepth 100000 in
theorem known_i (o n : Int) (w : World) :
    Calls Try.prog 43 #[.int .i64 o, .int .i64 n] w fun e w' => e = .returned (.tuple #[.int .i64 ((knownV o n).getD 0), .bool (knownV o n).isSome]) ∧ Below w.heap.size w w' := by
  have CB := Lib.hid (fun w => bin_o 11 0 n w)
  have CN := Lib.hid (fun w => not_i n w)
  by_cases h9 : o = 9
  · subst h9
    go_enter Try.func43, Try.ntmps43
    go_wp2_with (go_at_call 41; refine (CB.out _).mono ?_; rintro e w1 ⟨rfl, hb⟩; have HB := Lib.hid hb; clear hb)
    go_ret2
    exact ⟨rfl, HB.out⟩
  by_cases h10 : o = 10
  · subst h10
    go_enter Try.func43, Try.ntmps43
    go_wp2_with (go_at_call 45; refine (CN.out _).mono ?_; rintro e w1 ⟨rfl, rfl⟩)
    go_ret2
    exact ⟨rfl, Below.refl _ _⟩
  by_cases h11 : o = 11
  · subst h11
    have HW := Lib.hid (show IntKind.i64.wrap (1 - tr (wr n == 0)) = 1 - tr (wr n == 0) by rcases tr_cases (wr n == 0) with h | h <;> rw [h] <;> rfl)
    obtain ⟨q, hq⟩ : ∃ q, tr (wr n == 0) = q := ⟨_, rfl⟩
    have hq2 : q = 0 ∨ q = 1 := hq ▸ tr_cases _
    have HV := Lib.hid (show knownV 11 n = some (1 - q) by rw [← hq]; rfl)
    rw [hq] at CN HW
    go_enter Try.func43, Try.ntmps43
    rcases hq2 with rfl | rfl
    · go_wp2_with (go_at_call 45; refine (CN.out _).mono ?_; rintro e w1 ⟨rfl, rfl⟩)
      go_ret2
      exact ⟨by rw [HV.out] <;> rfl, Below.refl _ _⟩
    · go_wp2_with (go_at_call 45; refine (CN.out _).mono ?_; rintro e w1 ⟨rfl, rfl⟩)
      go_ret2
      exact ⟨by rw [HV.out] <;> rfl, Below.refl _ _⟩
  have HV := Lib.hid (show knownV o n = none by unfold knownV; rw [if_neg h9, if_neg h10, if_neg h11])
  go_enter Try.func43, Try.ntmps43
  go_wp2_with fail
  go_ret2
  exact ⟨by rw [HV.out] <;> rfl, Below.refl _ _⟩
end Go.Proofs.Ytmilnfboglhdgaa.PeepY
