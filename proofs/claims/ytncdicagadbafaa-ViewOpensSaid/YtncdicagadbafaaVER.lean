/- slices.Index, Contains at ints; slices.IndexFunc, DeleteFunc at the test for the player. Conditions: lengths within the reach. clewlaw23.sameInts, hasInts, hidden; clewref19.copied, Copy. Conditions: lengths within the reach; the world reads. -/
import Derived.Test.YtncdicagadbafaaVB
import Derived.Test.YtncdicagadbafaaNestY
import Derived.Lib.SliceRun
import Derived.Test.YtncdicagadbafaaViewW
namespace Go.Proofs.Ytncdicagadbafaa.ViewE
open Go Go.RowKit NestP NestW NestX NestY Sq

/-- Some number that is not below 0 just where b. -/
def SomeAt (b : Bool) (w : World) (e : Ending) (w' : World) : Prop := ∃ k : Int, e = .returned (.int .i64 k) ∧ decide (0 ≤ k) = b ∧ w = w'
theorem mem_take {l : List Int} {x : Int} {j : Nat} (hl : j < l.length) (h : x ∉ l.take j) (hne : x ≠ l[j]) : x ∉ l.take (j + 1) := by
  rw [List.take_succ_eq_append_getElem hl, List.mem_append, List.mem_singleton]
  rintro (h' | h')
  · exact h h'
  · exact hne h'
set_option maxRecDepth 100000 in
theorem index_v {A : Option Addr} {n c : Nat} (x : Int) (l : List Int) (q : Bool) (HQ : Hid (l.contains x = q)) (w : World) (hr : Rd I w A n l) (hn : n ≤ 17592186043904) :
    Calls Try.prog 172 #[.slice A n c, .int .i64 x] w (SomeAt q w) := by
  have HR := Lib.hid hr
  have HLN := Lib.hid hr.len
  clear hr
  go_enter Try.func172, Try.ntmps172
  go_wp2_with fail
  go_loop [8] (fun i => ∃ j : Nat, j ≤ n ∧ i = .int .i64 (j : Int) ∧ Hid (x ∉ l.take j)) (fun i => n - (intOf i).toNat)
  case atStart => exact ⟨0, Nat.zero_le _, rfl, Lib.hid (by simp)⟩
  case round =>
    obtain ⟨j, hj, rfl, HT⟩ := hrel
    by_cases hlt : j < n
    · obtain ⟨b, o, rfl, hb, hl, hc⟩ := HR.out.at_ hlt
      have k0 : (0 : Int) ≤ (j : Int) := by omega
      have k1 : (j : Int) < (n : Int) := by omega
      obtain ⟨y, hy⟩ : ∃ y, l[j] = y := ⟨_, rfl⟩
      have HF0 := Lib.hid (show x = y → q = true from fun h => by rw [← HQ.out, List.contains_iff_mem, h, ← hy]; exact List.getElem_mem hl)
      have HT0 := Lib.hid (show x ≠ y → x ∉ l.take (j + 1) from fun h => mem_take hl HT.out (by rw [hy]; exact h))
      rw [hy] at hc
      unfold I at hc
      clear hy hl
      by_cases hxy : x = y
      · have HF := Lib.hid (HF0.out hxy)
        go_wp2_with fail
        go_ret
        exact ⟨_, rfl, by rw [HF.out]; simp, rfl⟩
      · have HT2 := Lib.hid (HT0.out hxy)
        clear HF0 HT0
        go_wp2_with fail
        go_round
        case rel => exact ⟨j + 1, by omega, by go_num, HT2⟩
        case measure => simp [intOf]; omega
    · have HF := Lib.hid (show q = false by
        rw [← HQ.out]
        have h := HT.out
        rw [List.take_of_length_le (by rw [← HLN.out]; omega)] at h
        simpa using h)
      go_wp2_with fail
      go_ret
      exact ⟨-1, rfl, by rw [HF.out]; rfl, rfl⟩
set_option maxRecDepth 100000 in
theorem contains_v {A : Option Addr} {n c : Nat} (x : Int) (l : List Int) (w : World) (hr : Rd I w A n l) (hn : n ≤ 17592186043904) :
    Calls Try.prog 137 #[.slice A n c, .int .i64 x] w fun e w' => e = .returned (.bool (l.contains x)) ∧ w = w' := by
  obtain ⟨q, hq⟩ : ∃ q, l.contains x = q := ⟨_, rfl⟩
  have HQ := Lib.hid hq
  have HR := Lib.hid hr
  clear hq hr
  go_enter Try.func137, Try.ntmps137
  go_wp2_with (go_at_call 172; (with_reducible refine (index_v x l q HQ w HR.out hn).mono ?_); rintro e w' ⟨k, rfl, hk, rfl⟩)
  go_ret
  exact ⟨by rw [HQ.out] <;> rfl, rfl⟩

/-- The test for the player. -/
theorem one_v (x : Int) (w : World) : Calls Try.prog 136 #[.int .i64 x] w fun e w' => e = .returned (.bool (x == 1)) ∧ w = w' := by
  go_enter Try.func136, Try.ntmps136
  go_wp2
  go_ret
  exact ⟨rfl, rfl⟩
/-- The first place of the player, or -1. -/
def AtOne (l : List Int) (w : World) (e : Ending) (w' : World) : Prop := ∃ k : Int, e = .returned (.int .i64 k) ∧ ((k = -1 ∧ (1 : Int) ∉ l) ∨ ∃ (j : Nat) (h : j < l.length), k = (j : Int) ∧ l[j] = 1 ∧ (1 : Int) ∉ l.take j) ∧ w = w'
set_option maxRecDepth 100000 in
theorem indexFunc_v {A : Option Addr} {n c : Nat} (l : List Int) (w : World) (hr : Rd I w A n l) (hn : n ≤ 17592186043904) :
    Calls Try.prog 171 #[.slice A n c, .func (.func 136) #[] #[]] w (AtOne l w) := by
  have HR := Lib.hid hr
  have HLN := Lib.hid hr.len
  clear hr
  go_enter Try.func171, Try.ntmps171
  go_wp2_with fail
  go_loop [8] (fun i => ∃ j : Nat, j ≤ n ∧ i = .int .i64 (j : Int) ∧ Hid ((1 : Int) ∉ l.take j)) (fun i => n - (intOf i).toNat)
  case atStart => exact ⟨0, Nat.zero_le _, rfl, Lib.hid (by simp)⟩
  case round =>
    obtain ⟨j, hj, rfl, HT⟩ := hrel
    by_cases hlt : j < n
    · obtain ⟨b, o, rfl, hb, hl, hc⟩ := HR.out.at_ hlt
      have k0 : (0 : Int) ≤ (j : Int) := by omega
      have k1 : (j : Int) < (n : Int) := by omega
      obtain ⟨y, hy⟩ : ∃ y, l[j] = y := ⟨_, rfl⟩
      have HT0 := Lib.hid (show y ≠ 1 → (1 : Int) ∉ l.take (j + 1) from fun h => mem_take hl HT.out (by rw [hy]; exact fun e => h e.symm))
      have HF0 := Lib.hid (show y = 1 → ∃ h : j < l.length, l[j] = 1 from fun h => ⟨hl, hy.trans h⟩)
      rw [hy] at hc
      unfold I at hc
      clear hy hl
      obtain ⟨q, hq⟩ : ∃ q, (y == 1) = q := ⟨_, rfl⟩
      have HQ := Lib.hid hq
      clear hq
      cases q with
      | true =>
        have HY1 := Lib.hid (show y = 1 by have := HQ.out; simpa using this)
        go_wp2_with (go_at_call 136; (with_reducible refine (one_v y w).mono ?_); rintro e w' ⟨rfl, rfl⟩; rw [HQ.out])
        go_ret
        obtain ⟨h1, h2⟩ := HF0.out HY1.out
        exact ⟨_, rfl, .inr ⟨j, h1, rfl, h2, HT.out⟩, rfl⟩
      | false =>
        have HT2 := Lib.hid (HT0.out (by have := HQ.out; simp at this; omega))
        go_wp2_with (go_at_call 136; (with_reducible refine (one_v y w).mono ?_); rintro e w' ⟨rfl, rfl⟩; rw [HQ.out])
        go_round
        case rel => exact ⟨j + 1, by omega, by go_num, HT2⟩
        case measure => simp [intOf]; omega
    · have HF := Lib.hid (show (1 : Int) ∉ l by
        have h := HT.out
        rwa [List.take_of_length_le (by rw [← HLN.out]; omega)] at h)
      go_wp2_with fail
      go_ret
      exact ⟨_, rfl, .inl ⟨rfl, HF.out⟩, rfl⟩

section
variable {α : Type} {enc : α → Value} {E : TypeId}
theorem own_high {w : World} {B n cap : Nat} {A : Option Addr} {l : List α} (h : Sq.Own enc E w B (.slice A n cap) l) {m : Nat} (hm : m ≤ n) : Sq.Own enc E w B (.slice A m cap) (l.take m) := by
  obtain ⟨hl, h⟩ := h
  have hml : (l.take m).length = m := by
    rw [List.length_take]
    rcases h with ⟨hv, hn⟩ | ⟨g, cap', cur, hv, _⟩
    · injection hv with _ e _; omega
    · injection hv with _ e _; omega
  refine ⟨by rw [List.length_map, hml, Nat.mul_one], ?_⟩
  rcases h with ⟨hv, hn⟩ | ⟨g, cap', cur, hv, hB, hh, hc, hmx, hs, ht⟩
  · injection hv with e1 e2 e3
    left
    exact ⟨by rw [e1, e3, show m = 0 by omega], by rw [hml]; omega⟩
  · injection hv with e1 e2 e3
    refine .inr ⟨g, cap', cur, by rw [e1, e3, hml], hB, hh, by rw [hml]; omega, hmx, hs, ?_⟩
    have := congrArg (List.take m) ht
    rw [List.take_take, Nat.mul_one, Nat.min_eq_left (by omega), ← List.map_take] at this
    rw [hml, Nat.mul_one]
    exact this
theorem own_sets {B g cap n : Nat} : ∀ (vs : List α) (o : Nat) (w : World) (l : List α), Sq.Own enc E w B (.slice (some ⟨g, 0, none⟩) n cap) l → B ≤ g →
    ∃ l' : List α, l'.length = l.length ∧ l'.take o = l.take o ∧ Sq.Own enc E (w.setCells g o (vs.map enc)) B (.slice (some ⟨g, 0, none⟩) n cap) l' ∧ Below B w (w.setCells g o (vs.map enc))
  | [], o, w, l, h, _ => ⟨l, rfl, rfl, h, Below.refl _ _⟩
  | v :: vs, o, w, l, h, hB => by
    obtain ⟨l', h1, h2, h3, h4⟩ := own_sets vs (o + 1) (w.setCell ⟨g, o, none⟩ (enc v)) (l.set o v) (h.store o v) hB
    refine ⟨l', by rw [h1, List.length_set], ?_, h3, ((Below.refl B w).setCell (p := ⟨g, o, none⟩) hB _).trans h4⟩
    have := congrArg (List.take o) h2
    rw [List.take_take, List.take_take, Nat.min_eq_left (by omega), List.take_set_of_le (Nat.le_refl _)] at this
    exact this
end
/-- What is left without the player. -/
def noOne (l : List Int) : List Int := l.filter (fun e => e != 1)
theorem noOne_all {l : List Int} (h : (1 : Int) ∉ l) : noOne l = l := by
  unfold noOne
  rw [List.filter_eq_self]
  intro a ha
  simp only [bne_iff_ne, ne_eq]
  rintro rfl
  exact h ha
theorem noOne_snoc (l : List Int) (y : Int) : noOne (l ++ [y]) = noOne l ++ (if y = 1 then [] else [y]) := by
  unfold noOne
  rw [List.filter_append]
  by_cases h : y = 1
  · simp [h]
  · simp [h]
theorem noOne_len (l : List Int) : (noOne l).length ≤ l.length := List.length_filter_le ..
/-- A row in which the first ones that are left stand in front, and those from j on as they stood. -/
def Mid (l R : List Int) (i j : Nat) : Prop := R.length = l.length ∧ i < j ∧ j ≤ l.length ∧ R.take i = noOne (l.take j) ∧ R.drop j = l.drop j
theorem Mid.skip {l R : List Int} {i j : Nat} (h : Mid l R i j) (hj : j < l.length) (h1 : l[j] = 1) : Mid l R i (j + 1) := by
  obtain ⟨a, b, c, d, e⟩ := h
  refine ⟨a, by omega, hj, ?_, ?_⟩
  · rw [List.take_succ_eq_append_getElem hj, noOne_snoc, if_pos h1, List.append_nil]; exact d
  · rw [← List.drop_drop, e, List.drop_drop]
theorem Mid.move {l R : List Int} {i j : Nat} (h : Mid l R i j) (hj : j < l.length) (h1 : l[j] ≠ 1) : Mid l (R.set i l[j]) (i + 1) (j + 1) := by
  obtain ⟨a, b, c, d, e⟩ := h
  refine ⟨by rw [List.length_set]; exact a, by omega, hj, ?_, ?_⟩
  · rw [List.take_succ_eq_append_getElem hj, noOne_snoc, if_neg h1, ← d, List.take_succ_eq_append_getElem (by rw [List.length_set, a]; omega), List.getElem_set_self, List.take_set_of_le (Nat.le_refl _)]
  · rw [List.drop_set_of_lt (by omega), ← List.drop_drop, e, List.drop_drop]
theorem Mid.at_ {l R : List Int} {i j : Nat} (h : Mid l R i j) (hj : j < l.length) (hr : j < R.length) : R[j] = l[j] := by
  have := congrArg (fun t => t[0]?) h.2.2.2.2
  simp only [List.getElem?_drop, Nat.add_zero, List.getElem?_eq_getElem hr, List.getElem?_eq_getElem hj, Option.some.injEq] at this
  exact this
theorem zero_int : ∀ w, (zeroValue 3).run Try.prog w = .ok (.int .i64 0) w := fun w => by kernel_rfl
set_option maxRecDepth 100000 in
set_option maxHeartbeats 4000000 in
theorem deleteFunc_v {B n c : Nat} {A : Option Addr} (l : List Int) (w : World) (ho : Sq.Own I 3 w B (.slice A n c) l) (hn : n ≤ 1024) :
    Calls Try.prog 135 #[.slice A n c, .func (.func 136) #[] #[]] w fun e w' => ∃ u, e = .returned u ∧ Sq.Own I 3 w' B u (noOne l) ∧ Below B w w' := by
  have HLN := Lib.hid ho.rd.len
  have HO := Lib.hid ho
  have HRD := Lib.hid ho.rd
  have hcap : n ≤ c := by
    obtain ⟨A', c', hv, h1, _⟩ := ho.shape
    injection hv with _ e1 e2
    omega
  clear ho
  by_cases hmem : (1 : Int) ∈ l
  · go_enter Try.func135, Try.ntmps135
    go_wp2_with fail
    refine (indexFunc_v l w HRD.out (by omega)).mono ?_
    rintro e w' ⟨k, rfl, (⟨hk, hk2⟩ | ⟨j0, hj0, rfl, h1, h2⟩), rfl⟩
    · exact absurd hmem hk2
    have hjn : j0 < n := by rw [HLN.out]; exact hj0
    have HM := Lib.hid (show Mid l l j0 (j0 + 1) from ⟨rfl, by omega, hj0, by rw [List.take_succ_eq_append_getElem hj0, noOne_snoc, if_pos h1, List.append_nil, noOne_all h2], rfl⟩)
    have hne : ((j0 : Int) == -1) = false := by rw [beq_eq_false_iff_ne]; omega
    clear h1 h2 hj0
    go_wp2_with fail
    obtain ⟨g, rfl, hBg, hlt, _⟩ := HO.out.at_ (show 0 < n by omega)
    go_loopw [5, 6] (fun iv jv wr => ∃ (i j : Nat) (R : List Int), iv = .int .i64 (i : Int) ∧ jv = .int .i64 (j : Int) ∧ i < j ∧ j ≤ n ∧ Hid (Mid l R i j) ∧ Sq.Own I 3 wr B (.slice (some ⟨g, 0, none⟩) n c) R ∧ Below B w wr) (fun _ jv _ => n - (intOf jv).toNat)
    case atStart => exact ⟨j0, j0 + 1, l, rfl, by go_num, by omega, by omega, HM, HO.out, Below.refl _ _⟩
    case round =>
      obtain ⟨i, j, R, rfl, rfl, hij, hjn2, HMI, hO, hBw⟩ := hrel
      have HOR := Lib.hid hO
      have HBw := Lib.hid hBw
      by_cases hjl : j < n
      · obtain ⟨g', e', hB', hlt', hcell, hfro⟩ := hO.at_ (show 0 < n by omega)
        obtain rfl : g = g' := by injection e' with e'; injection e'
        have hjl2 : j < l.length := by rw [← HLN.out]; exact hjl
        have hjR : j < R.length := by rw [HMI.out.1]; exact hjl2
        have hiR : i < R.length := by omega
        have hc := hcell j hjR
        have hci := hcell i hiR
        have hf := hfro i
        rw [HMI.out.at_ hjl2 hjR] at hc
        obtain ⟨y, hy⟩ : ∃ y, l[j] = y := ⟨_, rfl⟩
        have HSK := Lib.hid (show y = 1 → Mid l R i (j + 1) from fun h => HMI.out.skip hjl2 (hy.trans h))
        have HMV := Lib.hid (show y ≠ 1 → Mid l (R.set i y) (i + 1) (j + 1) from fun h => by have h2 := HMI.out.move hjl2 (by rw [hy]; exact h); rw [hy] at h2; exact h2)
        rw [hy] at hc
        obtain ⟨z, hz⟩ : ∃ z, R[i] = z := ⟨_, rfl⟩
        rw [hz] at hci
        clear hz
        unfold I at hc hci
        obtain ⟨q, hq⟩ : ∃ q, (y == 1) = q := ⟨_, rfl⟩
        have HQ := Lib.hid hq
        have k0 : (0 : Int) ≤ (j : Int) := by omega
        have k1 : (j : Int) < (n : Int) := by omega
        have k2 : (0 : Int) ≤ (i : Int) := by omega
        have k3 : (i : Int) < (n : Int) := by omega
        clear hy hq hcell hfro hjl2 hO hBw hjR hiR
        cases q with
        | true =>
          have HM2 := Lib.hid (HSK.out (by simpa using HQ.out))
          go_wp2_with (go_at_call 136; (with_reducible refine (one_v y wr).mono ?_); rintro e w' ⟨rfl, rfl⟩; rw [HQ.out])
          go_roundw
          case rel => exact ⟨i, j + 1, R, rfl, by go_num, by omega, by omega, HM2, HOR.out, HBw.out⟩
          case measure => simp [intOf]; omega
        | false =>
          have HM2 := Lib.hid (HMV.out (by simpa using HQ.out))
          go_wp2_with (go_at_call 136; (with_reducible refine (one_v y wr).mono ?_); rintro e w' ⟨rfl, rfl⟩; rw [HQ.out])
          go_roundw
          case rel => exact ⟨i + 1, j + 1, _, by go_num, by go_num, by omega, by omega, HM2, HOR.out.store i y, HBw.out.setCell (p := ⟨g, i, none⟩) hBg _⟩
          case measure => simp [intOf]; omega
      · obtain rfl : n = j := by omega
        obtain ⟨g', e', hB', hlt', hcell, hfro⟩ := hO.at_ (show 0 < n by omega)
        obtain rfl : g = g' := by injection e' with e'; injection e'
        have hRn : R.length = n := HMI.out.1.trans HLN.out.symm
        have hcl : ∀ ty, (Builtin.clear_ #[23] ty #[.slice (some ⟨g, i, none⟩) (n - i) (c - i)]).run Try.prog wr = .ok (.tuple #[]) (wr.setCells g i (List.replicate (n - i) (.int .i64 0))) :=
          fun ty => Lib.run_clear_slice wr _ _ ty _ Try.underlying23 zero_int rfl rfl g i (n - i) (c - i) (by omega) (fun t ht => by rw [hcell (i + t) (by omega)]; rfl) (fun t ht => hfro _)
        obtain ⟨R', hR1, hR2, hR3, hR4⟩ := own_sets (enc := I) (List.replicate (n - i) 0) i wr R hO hBg
        rw [List.map_replicate] at hR3 hR4
        have HR2 := Lib.hid (show R'.take i = noOne l by rw [hR2, HMI.out.2.2.2.1, List.take_of_length_le (by rw [← HLN.out]; exact Nat.le_refl _)])
        have HR3 := Lib.hid hR3
        have HR4 := Lib.hid (hBw.trans hR4)
        have k2 : (0 : Int) ≤ (i : Int) := by omega
        have k3 : (i : Int) ≤ (n : Int) := by omega
        have k4 : (i : Int) ≤ (c : Int) := by omega
        have hci : ¬ c = i := by omega
        clear hcell hfro hR1 hR2 hR3 hR4 hO hBw hRn
        go_wp2_with fail
        go_ret
        exact ⟨_, rfl, by rw [← HR2.out]; exact own_high HR3.out (by omega), HR4.out⟩
  · go_enter Try.func135, Try.ntmps135
    go_wp2_with fail
    refine (indexFunc_v l w HRD.out (by omega)).mono ?_
    rintro e w' ⟨k, rfl, (⟨rfl, hk2⟩ | ⟨j0, hj0, rfl, h1, h2⟩), rfl⟩
    rotate_left
    · exact absurd (h1 ▸ List.getElem_mem hj0) hmem
    go_wp2_with fail
    go_ret
    exact ⟨_, rfl, by rw [noOne_all hmem]; exact HO.out, Below.refl _ _⟩
end Go.Proofs.Ytncdicagadbafaa.ViewE

namespace Go.Proofs.Ytncdicagadbafaa.ViewR
open Go Go.RowKit NestP NestW NestX NestY ValP ValW ValX ValR Sq WorldD CopP MoveP LvP MvA AttrP AttrW AttrX AttrY AttrZ AttrU AttrV AttrQ TabD TabW TabX TabB TabR MixP AwkP WoC ViewP ViewW

set_option maxRecDepth 100000 in
theorem sameInts_t {A B : Option Addr} {n m ca cb : Nat} (l : List Int) (w : World) (ha : Sq.Rd I w A n l) (hb : Sq.Rd I w B m l) (hn : n ≤ 17592186043904) :
    Calls Try.prog 72 #[.slice A n ca, .slice B m cb] w fun e w' => e = .returned (.bool true) ∧ Below w.heap.size w w' := by
  obtain rfl : n = m := ha.len.trans hb.len.symm
  have HA := Lib.hid ha
  have HB := Lib.hid hb
  clear ha hb
  go_enter Try.func72, Try.ntmps72
  go_wp2_with fail
  go_loopw [13] (fun i wr => ∃ k q : Nat, k ≤ n ∧ i = .int .i64 (k : Int) ∧ wr = w.drewN q) (fun i _ => n - (intOf i).toNat)
  case atStart => exact ⟨0, 0, Nat.zero_le _, rfl, rfl⟩
  case round =>
    obtain ⟨k, q, hk, rfl, rfl⟩ := hrel
    by_cases hlt : k < n
    · obtain ⟨b, o, rfl, hb, hl, hc⟩ := HA.out.at_ hlt
      obtain ⟨b', o', rfl, hb', hl', hc'⟩ := HB.out.at_ hlt
      have k0 : (0 : Int) ≤ (k : Int) := by omega
      have k1 : (k : Int) < (n : Int) := by omega
      obtain ⟨x, hx⟩ : ∃ x, l[k] = x := ⟨_, rfl⟩
      rw [hx] at hc hc'
      unfold I at hc hc'
      clear hx hl hl'
      go_wp2_with fail
      go_quiet (fail)
      go_wp2_with fail
      go_roundw
      case rel => exact ⟨k + 1, _, by omega, by go_num, rfl⟩
      case measure => simp [intOf]; omega
    · have hkn : k = n := by omega
      go_wp2_with fail
      go_ret
      exact ⟨rfl, belowN (Below.refl _ _) _⟩
theorem mem_take {l : List Int} {x : Int} {j : Nat} (hl : j < l.length) (h : x ∉ l.take j) (hne : x ≠ l[j]) : x ∉ l.take (j + 1) := by
  rw [List.take_succ_eq_append_getElem hl, List.mem_append, List.mem_singleton]
  rintro (h' | h')
  · exact h h'
  · exact hne h'
set_option maxRecDepth 100000 in
theorem hasInts_v {A : Option Addr} {n c : Nat} (x : Int) (l : List Int) (q : Bool) (HQ : Hid (l.contains x = q)) (w : World) (hr : Sq.Rd I w A n l) (hn : n ≤ 17592186043904) :
    Calls Try.prog 79 #[.slice A n c, .int .i64 x] w fun e w' => e = .returned (.bool q) ∧ w = w' := by
  have HR := Lib.hid hr
  have HLN := Lib.hid hr.len
  clear hr
  go_enter Try.func79, Try.ntmps79
  go_wp2_with fail
  go_loop [9] (fun i => ∃ j : Nat, j ≤ n ∧ i = .int .i64 (j : Int) ∧ Hid (x ∉ l.take j)) (fun i => n - (intOf i).toNat)
  case atStart => exact ⟨0, Nat.zero_le _, rfl, Lib.hid (by simp)⟩
  case round =>
    obtain ⟨j, hj, rfl, HT⟩ := hrel
    by_cases hlt : j < n
    · obtain ⟨b, o, rfl, hb, hl, hc⟩ := HR.out.at_ hlt
      have k0 : (0 : Int) ≤ (j : Int) := by omega
      have k1 : (j : Int) < (n : Int) := by omega
      obtain ⟨y, hy⟩ : ∃ y, l[j] = y := ⟨_, rfl⟩
      have HF0 := Lib.hid (show x = y → q = true from fun h => by rw [← HQ.out, List.contains_iff_mem, h, ← hy]; exact List.getElem_mem hl)
      have HT0 := Lib.hid (show x ≠ y → x ∉ l.take (j + 1) from fun h => mem_take hl HT.out (by rw [hy]; exact h))
      rw [hy] at hc
      unfold I at hc
      clear hy hl
      by_cases hxy : x = y
      · have HF := Lib.hid (HF0.out hxy)
        go_wp2_with fail
        go_ret
        exact ⟨by rw [HF.out] <;> rfl, rfl⟩
      · have HT2 := Lib.hid (HT0.out hxy)
        clear HF0 HT0
        go_wp2_with fail
        go_round
        case rel => exact ⟨j + 1, by omega, by go_num, HT2⟩
        case measure => simp [intOf]; omega
    · have HF := Lib.hid (show q = false by
        rw [← HQ.out]
        have h := HT.out
        rw [List.take_of_length_le (by rw [← HLN.out]; omega)] at h
        simpa using h)
      go_wp2_with fail
      go_ret
      exact ⟨by rw [HF.out] <;> rfl, rfl⟩

set_option maxRecDepth 100000 in
set_option maxHeartbeats 4000000 in
theorem hidden_t {v : Value} (g : Wd) (x : Int) (w : World) (ho : Wo w v g) (hF : Fl g) (hx : isT g.n x = true) :
    Calls Try.prog 80 #[v, .int .i64 x] w fun e w' => e = .returned (.bool (hasB g x 3)) ∧ Below w.heap.size w w' := by
  obtain ⟨A0, A1, A2, A3, A4, A5, A6, n0, c0, n, c1, n2, c2, n3, c3, n4, c4, n5, c5, n6, c6, rfl, ⟨r0, r1, r2, r3, r4, r5, r6⟩, hu, hw, hb⟩ := ho
  have hg : g.n = n := r1.len.symm
  have hn4 : n4 = n := by rw [r4.len, hF.1, hg]
  have hb4 : n4 ≤ 17592186043904 := hb.2.2.2.2.1
  obtain ⟨w0, hW⟩ : ∃ w0, w.alloc (.cells #[.slice A0 n0 c0, .slice A1 n c1, .slice A2 n2 c2, .slice A3 n3 c3, .slice A4 n4 c4, .slice A5 n5 c5, .slice A6 n6 c6, .int .u64 g.seed, .int .i64 g.sc, .int .i64 g.tu, .int .i64 g.ov, .int .i64 g.it, .int .i64 g.go] 31) = w0 := ⟨_, rfl⟩
  have HA : w0.heap[w.heap.size]? = some (.cells #[.slice A0 n0 c0, .slice A1 n c1, .slice A2 n2 c2, .slice A3 n3 c3, .slice A4 n4 c4, .slice A5 n5 c5, .slice A6 n6 c6, .int .u64 g.seed, .int .i64 g.sc, .int .i64 g.tu, .int .i64 g.ov, .int .i64 g.it, .int .i64 g.go] 31 (0, 0)) := by rw [← hW]; exact World.alloc_heap_new w _
  have hB : Below w.heap.size w w0 := by rw [← hW]; exact (Below.refl _ _).alloc (Nat.le_refl _) _
  have HB := Lib.hid hB
  have hx2 := isT_iff.1 hx
  obtain ⟨k, rfl⟩ := Int.eq_ofNat_of_zero_le (show 0 ≤ x by omega)
  obtain ⟨b, o, rfl, hbb, hl, hcell⟩ := r4.at_ (show k < n4 by omega)
  have hfl := hF.2 _ (List.getElem_mem hl)
  have hat : at' g.fl (k : Int) = g.fl[k] := at_lt hl
  have hh : hasB g (k : Int) 3 = flB g.fl[k] 3 := by unfold hasB; rw [ask_ok.2 ⟨hx, by omega, by omega⟩, hat]; simp
  generalize g.fl[k] = m at hcell hfl hh hat
  unfold I at hcell
  have hcell2 := (hB.cell (p := ⟨b, o + k, none⟩) hbb).trans hcell
  have hfb : flB m 3 = (m / 8 % 2 == 1) := rfl
  have hd : 0 ≤ m / 8 := Int.ediv_nonneg hfl.1 (by omega)
  have hd2 : m / 8 ≤ 65535 := Int.le_trans (Int.ediv_le_self 8 hfl.1) hfl.2
  obtain ⟨d, hdd⟩ : ∃ d, m / 8 = d := ⟨_, rfl⟩
  rw [hdd] at hd hd2 hfb
  have ht : d.tmod 2 = d % 2 := Int.tmod_eq_emod_of_nonneg hd
  obtain ⟨q, hq3⟩ : ∃ q, (d % 2 == 1) = q := ⟨_, rfl⟩
  have HH := Lib.hid (show hasB g (k : Int) 3 = q by rw [hh, hfb, hq3])
  have k0 : (0 : Int) ≤ (k : Int) := by omega
  have k1 : (k : Int) < (n4 : Int) := by omega
  have k2 : decide ((k : Int) < 1) = false := decide_eq_false (by omega)
  have k3 : decide ((n4 : Int) ≤ (k : Int)) = false := decide_eq_false (by omega)
  have k4 : decide (n4 ≤ k) = false := decide_eq_false (by omega)
  obtain ⟨m0, m1⟩ := hfl
  clear r0 r1 r2 r3 r4 r5 r6 hu hw hb hB hg hx hx2 hcell hh hfb hat hF hl hn4
  obtain ⟨x0, x1, x2, x3, x4, x5, x6, x7, x8, x9, x10, x11, x12, xf⟩ := cells13 HA
  go_enter Try.func80, Try.ntmps80
  go_wp2_with fail
  go_ret
  exact ⟨by rw [HH.out] <;> rfl, HB.out⟩

set_option maxRecDepth 100000 in
theorem copied_r {A : Option Addr} {n c : Nat} (l : List Int) (w : World) (hr : Sq.Rd I w A n l) (hn : n ≤ 17592186043904) :
    Calls Try.prog 138 #[.slice A n c] w fun e w' => ∃ A' c', e = .returned (.slice A' n c') ∧ Sq.Own I 3 w' w.heap.size (.slice A' n c') l ∧ Below w.heap.size w w' := by
  have HR := Lib.hid hr
  have HLN := Lib.hid hr.len
  clear hr
  go_enter Try.func138, Try.ntmps138
  go_wp2_with (at_builtin; refine wpList_append elI rfl _ _ rfl rfl (own_lit elI w [] #[] rfl (by unfold maxLen; simp) (Nat.le_refl _) 0 rfl) A n c l rfl (HR.out.alloc _) (by unfold maxLen; simp; omega) (by simp; omega) (by simp) ?_; rintro v5 w5 O5 b5 _ _)
  go_ret
  obtain ⟨A', c', rfl, _, _⟩ := O5.shape
  rw [List.nil_append, ← HLN.out] at *
  exact ⟨A', c', rfl, O5, ((Below.refl _ _).alloc (Nat.le_refl _) _).trans b5⟩
end Go.Proofs.Ytncdicagadbafaa.ViewR
