/- view.walk. Conditions: the world reads, things are within things as they must be, at most 128 of them; a flag for each thing, from 0 to 65535. -/
import Derived.Test.YtncdicagadbafaaVB
import Derived.Test.YtncdicagadbafaaVKC
namespace Go.Proofs.Ytncdicagadbafaa.ViewZ
open Go Go.RowKit NestP NestW NestX NestY ValP ValW ValX ValR Sq WorldD CopP MoveP LvP MvA AttrP AttrW AttrX AttrY AttrZ AttrU AttrV AttrQ TabD TabW TabX TabB TabR MixP AwkP WoC ViewP ViewW Rng RngU RngT RngC RngD RngB ViewK
attribute [local go_sem] Oper.semAt_some

set_option maxRecDepth 100000 in
set_option maxHeartbeats 8000000 in
theorem walk_y {v : Value} (g : Wd) (hG : NestP.Good g) (hF : Fl g) (hn : g.n ≤ 128) (wb : World) (hw : Wo wb v g) (l ob N : Nat) (J Jx : List Int → World → Prop) (B : Nat) (hJ : AbidesFrom B J)
    (hY : ∀ pre x W1, J pre W1 → pre.length < N → YieldAt Fence.wide 1 Try.prog l #[.int .i64 x] W1 fun e W' => (e = .returned (.bool true) ∧ J (pre ++ [x]) W' ∧ KeptR ob W1 W') ∨ (e = .returned (.bool false) ∧ Jx (pre ++ [x]) W')) :
    ∀ (k : Nat) (x : Int) (W : World) (pre : List Int), g.n ≤ k + (ups g x).length → LowC wb W → wb.heap.size ≤ ob → ob < W.heap.size → InRow ob wb.heap.size W → J pre W → pre.length + (reach g k x).length ≤ N →
    Calls Try.prog 169 #[v, .int .i64 x, .func (.yield l) #[] #[]] W fun e W' =>
      (e = .returned (.bool true) ∧ J (pre ++ reach g k x) W' ∧ KeptR ob W W') ∨ (e = .returned (.bool false) ∧ ∃ p, p <+: reach g k x ∧ Jx (pre ++ p) W') := by
  intro k
  induction k with
  | zero =>
    intro x W pre hx _ _ _ _ _ _
    have := hG.ups_len x
    have := hG.pos
    omega
  | succ k ih =>
    intro x W pre hx hl q1 q2 q3 hJ0 hN
    have HIH := Lib.hid ih
    have HF := Lib.hid hF
    have HJ := Lib.hid hJ
    have HY := Lib.hid hY
    have HW := Lib.hid hw
    have HL0 := Lib.hid hl
    have HQ := Lib.hid q3
    have HJ0 := Lib.hid hJ0
    have HKL := Lib.hid (show (kids g x).length ≤ g.n from kids_short g x)
    have HBL := Lib.hid (show ∀ c ∈ kids g x, g.n ≤ k + (ups g c).length from fun c hc => by rw [hG.depth_kid hc]; omega)
    have HBE := Lib.hid (show reach g (k + 1) x = fore g k (kids g x) from rfl)
    have HN := Lib.hid hN
    have hs0 := hl.1
    obtain ⟨a0, a1, a2, a3, a4, a5, a6, a7, a8, a9, a10, a11, a12, rfl⟩ := wo_agg hw
    clear ih hx hF hJ hY hl q3 hJ0 hN
    obtain ⟨L, hL⟩ : ∃ L, kids g x = L := ⟨_, rfl⟩
    obtain ⟨m, hm⟩ : ∃ m, L.length = m := ⟨_, rfl⟩
    have HL := Lib.hid hL
    have HM := Lib.hid hm
    have hm128 : m ≤ 128 := Nat.le_trans (by have := HKL.out; rw [hL, hm] at this; exact this) hn
    have HRE := Lib.hid (show fore g k L = reach g (k + 1) x by rw [HBE.out, hL])
    have HNF := Lib.hid (show pre.length + (fore g k L).length ≤ N by rw [HRE.out]; exact HN.out)
    clear HN HBE
    clear hL hm
    refine (callsIn_wide (n := 2)).1 ?_
    refine callsIn_of_wp Try.func169 rfl trivial ?_ rfl
    simp only [Try.ntmps169, List.size_toArray, List.length_cons, List.length_nil, Nat.reduceAdd, Nat.reduceSub, Array.replicate_succ, Array.replicate_zero, List.push_toArray, List.append_toArray, List.nil_append, List.cons_append]
    obtain ⟨w0, hW⟩ : ∃ w0, W.alloc (.cells #[a0, a1, a2, a3, a4, a5, a6, a7, a8, a9, a10, a11, a12] 31) = w0 := ⟨_, rfl⟩
    have HA0 : w0.heap[W.heap.size]? = some (.cells #[a0, a1, a2, a3, a4, a5, a6, a7, a8, a9, a10, a11, a12] 31 (0, 0)) := by rw [← hW]; exact World.alloc_heap_new W _
    have LA : W.heap.size < w0.heap.size := by rw [← hW]; simp
    have hB : Below W.heap.size W w0 := by rw [← hW]; exact (Below.refl _ _).alloc (Nat.le_refl _) _
    have HB0 := Lib.hid hB
    clear hB
    obtain ⟨x0, x1, x2, x3, x4, x5, x6, x7, x8, x9, x10, x11, x12, xf⟩ := cells13 HA0
    gi_wp2_with (refine ⟨trivial, ?_⟩; gi_at_call 48; refine (callsIn_wide.2 (children_own g hG x ((HL0.out.below HB0.out).wo HW.out))).mono ?_; rintro e w1 ⟨Ak, ck, rfl, hr, hb⟩; rw [HL.out, HM.out] at hr; rw [HL.out, HM.out]; have HR := Lib.hid hr; have hB1 := HB0.out.trans (hb.mono HB0.out.size); have HA := (hb.block _ LA).trans HA0; have L1 := Nat.lt_of_lt_of_le LA hb.size; clear x0 x1 x2 x3 x4 x5 x6 x7 x8 x9 x10 x11 x12 xf hW HA0 hr)
    have HB1 := Lib.hid hB1
    have q2' : ob < w1.heap.size := Nat.lt_of_lt_of_le q2 hB1.size
    have hrow : boxRow ob w1 = boxRow ob W := boxRow_same (hB1.block ob q2)
    have HQ1 := Lib.hid (show ∀ r, boxRow ob w1 = some r → wb.heap.size ≤ r ∧ r < W.heap.size from fun r hr => HQ.out r (hrow ▸ hr))
    have HIN := Lib.hid (HQ.out.on hs0 (KeptR.below q2 hB1))
    have HL1 := Lib.hid (HL0.out.below hB1)
    have HJ1 := Lib.hid (abides HJ.out HJ0.out hB1)
    have h01 : W.heap.size < w0.heap.size := LA
    clear hrow hB1 HJ0 HQ
    gi_loopw [13] (fun iv wr => ∃ j : Nat, j ≤ m ∧ iv = .int .i64 (j : Int) ∧ J (pre ++ fore g k (L.take j)) wr ∧ KeptR ob w1 wr) (fun iv _ => m - (intOf iv).toNat)
    case atStart => exact ⟨0, Nat.zero_le _, rfl, by rw [show pre ++ fore g k (L.take 0) = pre by simp [fore]]; exact HJ1.out, KeptR.below q2' (Below.refl _ _)⟩
    case round =>
      obtain ⟨j, hj, rfl, hJr, hK⟩ := hrel
      have HJr := Lib.hid hJr
      have HK := Lib.hid hK
      by_cases hlt : j < m
      · have hO := own_keptR HR.out hK (Nat.lt_trans q2 h01) (fun r hr => Nat.lt_trans (HQ1.out r hr).2 h01)
        have HAr := hK.keep _ _ HA rfl (Nat.ne_of_gt q2) (fun e => Nat.lt_irrefl _ (HQ1.out _ e).2)
        have LAr := Nat.lt_of_lt_of_le L1 hK.size
        have HWr := Lib.hid ((HL1.out.kept hK q1 HIN.out).wo HW.out)
        obtain ⟨b, o, rfl, hbb, hl, hcell⟩ := hO.rd.at_ hlt
        obtain ⟨c, hc⟩ : ∃ c, L[j] = c := ⟨_, rfl⟩
        have HC := Lib.hid (HBL.out c (by rw [HL.out, ← hc]; exact List.getElem_mem hl))
        obtain ⟨q3, hq3⟩ : ∃ q, hasB g c 3 = q := ⟨_, rfl⟩
        obtain ⟨q4, hq4⟩ : ∃ q, showsB g c = q := ⟨_, rfl⟩
        have HV := Lib.hid (visit g k hl hc hq3 hq4 (HNF.out))
        rw [hc] at hcell
        unfold I at hcell
        have HQ3 := Lib.hid hq3
        have HQ4 := Lib.hid hq4
        obtain ⟨k0, k1, hwk, hms⟩ := rnd hlt hm128
        have HMS := Lib.hid hms
        have hj1 : j + 1 ≤ m := hlt
        clear hJr hK hl hc hq3 hq4 hO hms
        obtain ⟨x0, x1, x2, x3, x4, x5, x6, x7, x8, x9, x10, x11, x12, xf⟩ := cells13 HAr
        have hobr : ob < wr.heap.size := Nat.lt_of_lt_of_le q2' HK.out.size
        cases q3 with
        | true => as_aux_lemma =>
          have HT2 := Lib.hid (HV.out.1 rfl)
          clear HV
          gi_wp2_with (refine ⟨trivial, ?_⟩; gi_at_call 131; refine (callsIn_wide.2 (has_v g c 3 wr HWr.out HF.out)).mono ?_; rintro e w2 ⟨rfl, hb2⟩; rw [HQ3.out])
          exact ⟨⟨j + 1, hj1, by rw [hwk], by rw [HT2.out]; exact abides HJ.out HJr.out hb2, HK.out.t (KeptR.below hobr hb2)⟩, HMS.out⟩
        | false =>
          have HLN := Lib.hid (HV.out.2 rfl).1
          have HPF := Lib.hid (HV.out.2 rfl).2.1
          have HTn := Lib.hid (HV.out.2 rfl).2.2.1
          have HTy := Lib.hid (HV.out.2 rfl).2.2.2
          clear HV
          gi_wp2_with (refine ⟨trivial, ?_⟩; gi_at_call 131; refine (callsIn_wide.2 (has_v g c 3 wr HWr.out HF.out)).mono ?_; rintro e w2 ⟨rfl, hb2⟩; rw [HQ3.out]; obtain ⟨fn, tmps, assign, body, hy, hR⟩ := HY.out (pre ++ fore g k (L.take j)) c w2 (abides HJ.out HJr.out hb2) HLN.out)
          refine hR.mono ?_
          rintro e W3 (⟨rfl, hJ3, hk3⟩ | ⟨rfl, hJx3⟩)
          · clear HLN HPF
            have hk13 := (HK.out.t (KeptR.below hobr hb2)).t hk3
            have HK3 := Lib.hid hk13
            have HJ3 := Lib.hid hJ3
            have HA3 := hk13.keep _ _ HA rfl (Nat.ne_of_gt q2) (fun e => Nat.lt_irrefl _ (HQ1.out _ e).2)
            have HW3 := Lib.hid (HL1.out.kept hk13 q1 HIN.out)
            have hob3 : ob < W3.heap.size := Nat.lt_of_lt_of_le q2' hk13.size
            clear x0 x1 x2 x3 x4 x5 x6 x7 x8 x9 x10 x11 x12 xf hk3 hk13 hJ3 hR hy
            obtain ⟨x0, x1, x2, x3, x4, x5, x6, x7, x8, x9, x10, x11, x12, xf⟩ := cells13 HA3
            have hs3 := HW3.out.1
            have hs1 := HL1.out.1
            cases q4 with
            | false => as_aux_lemma =>
              have HTn2 := HTn.out rfl
              clear HTy HTn
              gi_wp2_with (refine ⟨trivial, ?_⟩; gi_at_call 177; refine (callsIn_wide.2 (shows_v g c W3 (HW3.out.wo HW.out) HF.out)).mono ?_; rintro e w4 ⟨rfl, hb4⟩; rw [HQ4.out])
              all_goals
                refine ⟨trivial, ?_⟩
                gi_wp2
                exact ⟨⟨j + 1, hj1, by rw [hwk], by rw [HTn2, ← List.append_assoc]; exact abides HJ.out HJ3.out hb4, HK3.out.t (KeptR.below hob3 hb4)⟩, HMS.out⟩
            | true => as_aux_lemma =>
              obtain ⟨HTy2, HLy2, HPy2⟩ := HTy.out rfl
              have HPy2 := Lib.hid HPy2
              clear HTy HTn
              gi_wp2_with (first
                | (refine ⟨trivial, ?_⟩; gi_at_call 177; refine (callsIn_wide.2 (shows_v g c W3 (HW3.out.wo HW.out) HF.out)).mono ?_; rintro e w4 ⟨rfl, hb4⟩; rw [HQ4.out]; have HA4 := (hb4.block _ (Nat.lt_of_lt_of_le L1 HK3.out.size)).trans HA3; clear x0 x1 x2 x3 x4 x5 x6 x7 x8 x9 x10 x11 x12 xf; obtain ⟨x0, x1, x2, x3, x4, x5, x6, x7, x8, x9, x10, x11, x12, xf⟩ := cells13 HA4)
                | (refine ⟨trivial, ?_⟩; gi_at_call 169; refine (callsIn_wide.2 (HIH.out c w4 _ HC.out (HW3.out.below hb4) q1 (Nat.lt_of_lt_of_le hob3 hb4.size) ((HIN.out.on hs1 HK3.out).on hs3 (KeptR.below hob3 hb4)) (abides HJ.out HJ3.out hb4) HLy2)).mono ?_; rintro e w5 (⟨rfl, hJ5, hk5⟩ | ⟨rfl, p, hp, hJx5⟩)))
              · exact ⟨⟨j + 1, hj1, by rw [hwk], by rw [HTy2]; simpa [List.append_assoc] using hJ5, (HK3.out.t (KeptR.below hob3 hb4)).t hk5⟩, HMS.out⟩
              · refine bodyPost_ret (results_tmp rfl _ _ _) rfl ?_
                exact .inr ⟨rfl, _, HRE.out ▸ HPy2.out p hp, by simpa [List.append_assoc] using hJx5⟩
          · clear HTy HTn
            gi_wp2
            refine ⟨trivial, ?_⟩
            gi_wp2
            any_goals exact (undef_no ‹some undef = some (Value.bool _)›).elim
            refine ⟨trivial, ?_⟩
            gi_wp2
            refine bodyPost_ret (results_tmp rfl _ _ _) rfl ?_
            exact .inr ⟨rfl, fore g k (L.take j) ++ [c], HRE.out ▸ HPF.out, by rw [← List.append_assoc]; exact hJx3⟩
      · have hjm : m = j := Nat.le_antisymm (Nat.le_of_not_lt hlt) hj
        subst hjm
        have HE := Lib.hid (show fore g k (L.take m) = reach g (k + 1) x by rw [← HRE.out, List.take_of_length_le (by rw [HM.out]; exact Nat.le_refl _)])
        gi_wp2
        refine bodyPost_ret (results_tmp rfl _ _ _) rfl ?_
        exact .inl ⟨rfl, by rw [← HE.out]; exact HJr.out, (KeptR.below q2 HB1.out).t HK.out⟩
end Go.Proofs.Ytncdicagadbafaa.ViewZ
