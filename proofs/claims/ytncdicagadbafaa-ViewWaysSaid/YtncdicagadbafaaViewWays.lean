/- ViewWays: what is reached is within what is reached, or stands in the room, or with the player; what is around it shows it. Conditions: none beyond what every reading of the arguments gives. -/
import Derived.Test.YtncdicagadbafaaVB
import Derived.Test.YtncdicagadbafaaLaw
import Derived.Test.YtncdicagadbafaaViewF
import Derived.Test.YtncdicagadbafaaViewY
import Derived.Test.YtncdicagadbafaaVER
import Derived.Test.YtncdicagadbafaaVOU
import Derived.Test.YtncdicagadbafaaViewV
import Derived.Test.YtncdicagadbafaaVNA
import Derived.Laws.Rows
namespace Go.Proofs.Ytncdicagadbafaa.viewWays
open Go.ChangeShapes Go.WideShapes Go.ChangeAt
open Go Go.RowKit NestP NestW NestX NestY ValP ValW ValX ValR Sq WorldD CopP MoveP LvP MvA AttrP AttrW AttrX AttrY AttrZ AttrU AttrV AttrQ TabD TabW TabX TabB TabR MixP AwkP WoC ViewP ViewW ViewK ViewC ViewS ViewD ViewE ViewF ViewY ViewR ViewU ViewQ

theorem hasInts_b {A : Option Addr} {n c : Nat} (x : Int) (l : List Int) (q : Bool) (HQ : Hid (l.contains x = q)) (w : World) (hr : Sq.Rd I w A n l) (hn : n ≤ 17592186043904) :
    Calls Try.prog 79 #[.slice A n c, .int .i64 x] w fun e w' => e = .returned (.bool q) ∧ Below w.heap.size w w' :=
  (hasInts_v x l q HQ w hr hn).mono fun _ _ ⟨h, k⟩ => ⟨h, k ▸ Below.refl _ _⟩
theorem idx {x : Int} {n : Nat} (h : isT n x = true) : ∃ k : Nat, x = (k : Int) ∧ k < n ∧ (0 : Int) ≤ (k : Int) ∧ (k : Int) < (n : Int) ∧ decide ((k : Int) < 1) = false ∧ decide ((n : Int) ≤ (k : Int)) = false := by
  have h2 := isT_iff.1 h
  obtain ⟨k, rfl⟩ := Int.eq_ofNat_of_zero_le (show 0 ≤ x by omega)
  exact ⟨k, rfl, by omega, by omega, by omega, decide_eq_false (by omega), decide_eq_false (by omega)⟩
/-- What the two tests of a flag come to. -/
theorem shows_q {g : Wd} (hF : Fl g) {k : Nat} (hx : isT g.n (k : Int) = true) (hl : k < g.fl.length) : ∃ (m d2 d1 : Int) (q2 q1 : Bool), g.fl[k] = m ∧ 0 ≤ m ∧ m ≤ 65535 ∧ m / 4 = d2 ∧ m / 2 = d1 ∧ d2.tmod 2 = d2 % 2 ∧ d1.tmod 2 = d1 % 2 ∧ (d2 % 2 == 0) = q2 ∧ (d1 % 2 == 1) = q1 ∧ showsB g (k : Int) = (q2 || q1) := by
  have hm := hF.2 _ (List.getElem_mem hl)
  refine ⟨g.fl[k], _, _, _, _, rfl, hm.1, hm.2, rfl, rfl, Int.tmod_eq_emod_of_nonneg (Int.ediv_nonneg hm.1 (by omega)), Int.tmod_eq_emod_of_nonneg (Int.ediv_nonneg hm.1 (by omega)), rfl, rfl, ?_⟩
  have e : ∀ f : Int, 0 ≤ f → f ≤ 15 → hasB g (k : Int) f = flB g.fl[k] f := fun f h0 h1 => by unfold hasB; rw [ask_ok.2 ⟨hx, h0, h1⟩, at_lt hl]; simp
  unfold showsB
  rw [e 2 (by omega) (by omega), e 1 (by omega) (by omega)]
  show (!(g.fl[k] / 4 % 2 == 1) || (g.fl[k] / 2 % 2 == 1)) = _
  congr 1
  have h2 : g.fl[k] / 4 % 2 = 0 ∨ g.fl[k] / 4 % 2 = 1 := by omega
  rcases h2 with h | h <;> rw [h] <;> rfl
set_option maxRecDepth 100000 in
set_option maxHeartbeats 16000000 in
theorem walk (w : World) (t : TbV) (rt : TbR w t) (cs : List Value) (g : Wd) (ho : Wo w (.agg cs.toArray) g)  :
    Calls Try.prog 18 #[ScE t cs] w fun e w' => e = .returned (.bool true) ∧ Below w.heap.size w w' := by
  have ho2 := ho
  obtain ⟨A0, A1, A2, A3, A4, A5, A6, n0, c0, n, c1, n2, c2, n3, c3, n4, c4, n5, c5, n6, c6, he, ⟨hj0, hrp, hj2, hj3, hrf, hj5⟩, hj6, hj7, hnb⟩ := ho2
  obtain rfl : cs = [.slice A0 n0 c0, .slice A1 n c1, .slice A2 n2 c2, .slice A3 n3 c3, .slice A4 n4 c4, .slice A5 n5 c5, .slice A6 n6 c6, .int .u64 g.seed, .int .i64 g.sc, .int .i64 g.tu, .int .i64 g.ov, .int .i64 g.it, .int .i64 g.go] := by
    have h2 : cs.toArray = #[.slice A0 n0 c0, .slice A1 n c1, .slice A2 n2 c2, .slice A3 n3 c3, .slice A4 n4 c4, .slice A5 n5 c5, .slice A6 n6 c6, .int .u64 g.seed, .int .i64 g.sc, .int .i64 g.tu, .int .i64 g.ov, .int .i64 g.it, .int .i64 g.go] := by injection he
    exact congrArg Array.toList h2
  clear he
  have HRP := Lib.hid hrp
  have HRF := Lib.hid hrf
  have HNB := Lib.hid (show n ≤ 17592186043904 ∧ n4 ≤ 17592186043904 from ⟨hnb.2.1, hnb.2.2.2.2.1⟩)
  clear hrp hrf hnb hj0 hj2 hj3 hj5 hj6 hj7
  show Calls Try.prog 18 #[.agg #[.int .i64 t.ti, .int .i64 t.au, .int .i64 t.rl, .int .i64 t.mx, .slice t.tx.a t.tx.n t.tx.c, .int .i64 t.fl, .slice t.pr.a t.pr.n t.pr.c, .slice t.gl.a t.gl.n t.gl.c, .slice t.th.a t.th.n t.th.c, .slice t.ac.a t.ac.n t.ac.c, .slice t.de.a t.de.n t.de.c, .slice t.fu.a t.fu.n t.fu.c, .slice t.da.a t.da.n t.da.c, .slice t.pm.a t.pm.n t.pm.c, .slice t.lo.a t.lo.n t.lo.c, .slice A0 n0 c0, .slice A1 n c1, .slice A2 n2 c2, .slice A3 n3 c3, .slice A4 n4 c4, .slice A5 n5 c5, .slice A6 n6 c6, .int .u64 g.seed, .int .i64 g.sc, .int .i64 g.tu, .int .i64 g.ov, .int .i64 g.it, .int .i64 g.go]] w _
  go_enter Try.func18, Try.ntmps18
  obtain ⟨w00, hW⟩ : ∃ w0, w.alloc (.cells #[.int .i64 t.ti, .int .i64 t.au, .int .i64 t.rl, .int .i64 t.mx, .slice t.tx.a t.tx.n t.tx.c, .int .i64 t.fl, .slice t.pr.a t.pr.n t.pr.c, .slice t.gl.a t.gl.n t.gl.c, .slice t.th.a t.th.n t.th.c, .slice t.ac.a t.ac.n t.ac.c, .slice t.de.a t.de.n t.de.c, .slice t.fu.a t.fu.n t.fu.c, .slice t.da.a t.da.n t.da.c, .slice t.pm.a t.pm.n t.pm.c, .slice t.lo.a t.lo.n t.lo.c, .slice A0 n0 c0, .slice A1 n c1, .slice A2 n2 c2, .slice A3 n3 c3, .slice A4 n4 c4, .slice A5 n5 c5, .slice A6 n6 c6, .int .u64 g.seed, .int .i64 g.sc, .int .i64 g.tu, .int .i64 g.ov, .int .i64 g.it, .int .i64 g.go] 69) = w0 := ⟨_, rfl⟩
  have HA0 : w00.heap[w.heap.size]? = some (.cells #[.int .i64 t.ti, .int .i64 t.au, .int .i64 t.rl, .int .i64 t.mx, .slice t.tx.a t.tx.n t.tx.c, .int .i64 t.fl, .slice t.pr.a t.pr.n t.pr.c, .slice t.gl.a t.gl.n t.gl.c, .slice t.th.a t.th.n t.th.c, .slice t.ac.a t.ac.n t.ac.c, .slice t.de.a t.de.n t.de.c, .slice t.fu.a t.fu.n t.fu.c, .slice t.da.a t.da.n t.da.c, .slice t.pm.a t.pm.n t.pm.c, .slice t.lo.a t.lo.n t.lo.c, .slice A0 n0 c0, .slice A1 n c1, .slice A2 n2 c2, .slice A3 n3 c3, .slice A4 n4 c4, .slice A5 n5 c5, .slice A6 n6 c6, .int .u64 g.seed, .int .i64 g.sc, .int .i64 g.tu, .int .i64 g.ov, .int .i64 g.it, .int .i64 g.go] 69 (0, 0)) := by rw [← hW]; exact World.alloc_heap_new w _
  have LA0 : w.heap.size < w00.heap.size := by rw [← hW]; simp
  have hB : Below w.heap.size w w00 := by rw [← hW]; exact (Below.refl _ _).alloc (Nat.le_refl _) _
  have HB0 := Lib.hid hB
  have HT0 := Lib.hid rt
  have HO0 := Lib.hid ho
  clear hB rt ho
  go_upto_region 1 with (fail)
  generalize hX : (.agg #[.int .i64 t.ti, .int .i64 t.au, .int .i64 t.rl, .int .i64 t.mx, .slice t.tx.a t.tx.n t.tx.c, .int .i64 t.fl, .slice t.pr.a t.pr.n t.pr.c, .slice t.gl.a t.gl.n t.gl.c, .slice t.th.a t.th.n t.th.c, .slice t.ac.a t.ac.n t.ac.c, .slice t.de.a t.de.n t.de.c, .slice t.fu.a t.fu.n t.fu.c, .slice t.da.a t.da.n t.da.c, .slice t.pm.a t.pm.n t.pm.c, .slice t.lo.a t.lo.n t.lo.c, .slice A0 n0 c0, .slice A1 n c1, .slice A2 n2 c2, .slice A3 n3 c3, .slice A4 n4 c4, .slice A5 n5 c5, .slice A6 n6 c6, .int .u64 g.seed, .int .i64 g.sc, .int .i64 g.tu, .int .i64 g.ov, .int .i64 g.it, .int .i64 g.go] : Value) = X0
  generalize hT : (.agg #[.int .i64 t.ti, .int .i64 t.au, .int .i64 t.rl, .int .i64 t.mx, .slice t.tx.a t.tx.n t.tx.c, .int .i64 t.fl, .slice t.pr.a t.pr.n t.pr.c, .slice t.gl.a t.gl.n t.gl.c, .slice t.th.a t.th.n t.th.c, .slice t.ac.a t.ac.n t.ac.c, .slice t.de.a t.de.n t.de.c, .slice t.fu.a t.fu.n t.fu.c, .slice t.da.a t.da.n t.da.c, .slice t.pm.a t.pm.n t.pm.c, .slice t.lo.a t.lo.n t.lo.c] : Value) = T
  generalize hV : (.agg #[.slice A0 n0 c0, .slice A1 n c1, .slice A2 n2 c2, .slice A3 n3 c3, .slice A4 n4 c4, .slice A5 n5 c5, .slice A6 n6 c6, .int .u64 g.seed, .int .i64 g.sc, .int .i64 g.tu, .int .i64 g.ov, .int .i64 g.it, .int .i64 g.go] : Value) = V at HO0
  have HCR0 := fun (U : World) (h1 : TbR U t) (h2 : Wo U V g) => right_v t g A0 A1 A2 A3 A4 A5 A6 n0 c0 n c1 n2 c2 n3 c3 n4 c4 n5 c5 n6 c6 U h1 (hV ▸ h2)
  rw [hX] at HCR0
  have HCR := Lib.hid HCR0
  clear HCR0
  have hinfo : (Try.prog.info? 69).map (·.size) = some 28 := by kernel_rfl
  go_upto_if 10 with (first
    | (refine wpList_load_row rfl 69 _ rfl w.heap.size ?_ 69 #[.int .i64 t.ti, .int .i64 t.au, .int .i64 t.rl, .int .i64 t.mx, .slice t.tx.a t.tx.n t.tx.c, .int .i64 t.fl, .slice t.pr.a t.pr.n t.pr.c, .slice t.gl.a t.gl.n t.gl.c, .slice t.th.a t.th.n t.th.c, .slice t.ac.a t.ac.n t.ac.c, .slice t.de.a t.de.n t.de.c, .slice t.fu.a t.fu.n t.fu.c, .slice t.da.a t.da.n t.da.c, .slice t.pm.a t.pm.n t.pm.c, .slice t.lo.a t.lo.n t.lo.c, .slice A0 n0 c0, .slice A1 n c1, .slice A2 n2 c2, .slice A3 n3 c3, .slice A4 n4 c4, .slice A5 n5 c5, .slice A6 n6 c6, .int .u64 g.seed, .int .i64 g.sc, .int .i64 g.tu, .int .i64 g.ov, .int .i64 g.it, .int .i64 g.go] (0, 0) _ HA0 Try.underlying69 ?_ ?_ ?_; rfl; rfl; exact hinfo; rw [hX])
    | (go_at_call 66; (with_reducible refine (HCR.out _ (TbR.below HT0.out HB0.out) (SamW.wo_below HO0.out HB0.out)).mono ?_); rintro e w0 ⟨q, rfl, hp, hb⟩; have HA := (hb.block _ LA0).trans HA0; have LA := Nat.lt_of_lt_of_le LA0 hb.size; have HB := Lib.hid (HB0.out.trans (hb.mono HB0.out.size)); clear hW HA0 LA0 hb; cases q))
  · go_wp2_with (go_at_call 67; refine (AwkV.awake _).mono ?_; rintro e w99 ⟨rfl, hb⟩; have hz := HB.out.trans (hb.mono HB.out.size))
    go_ret
    exact ⟨rfl, hz⟩
  have HP := Lib.hid (hp (by simp))
  clear hp
  have HR := Lib.hid HP.out.1
  have HS := Lib.hid (sane HR.out HP.out.2)
  have HTB := Lib.hid (TbR.below HT0.out HB.out)
  have HOv := Lib.hid (SamW.wo_below HO0.out HB.out)
  clear HP HT0 HO0 HB0 HCR
  obtain ⟨S, hSd⟩ : ∃ S : World → Prop, (fun U => U.heap[w.heap.size]? = some (.cells #[.int .i64 t.ti, .int .i64 t.au, .int .i64 t.rl, .int .i64 t.mx, .slice t.tx.a t.tx.n t.tx.c, .int .i64 t.fl, .slice t.pr.a t.pr.n t.pr.c, .slice t.gl.a t.gl.n t.gl.c, .slice t.th.a t.th.n t.th.c, .slice t.ac.a t.ac.n t.ac.c, .slice t.de.a t.de.n t.de.c, .slice t.fu.a t.fu.n t.fu.c, .slice t.da.a t.da.n t.da.c, .slice t.pm.a t.pm.n t.pm.c, .slice t.lo.a t.lo.n t.lo.c, .slice A0 n0 c0, .slice A1 n c1, .slice A2 n2 c2, .slice A3 n3 c3, .slice A4 n4 c4, .slice A5 n5 c5, .slice A6 n6 c6, .int .u64 g.seed, .int .i64 g.sc, .int .i64 g.tu, .int .i64 g.ov, .int .i64 g.it, .int .i64 g.go] 69 (0, 0))) = S := ⟨_, rfl⟩
  have HSB := Lib.hid (show ∀ U, Below w0.heap.size w0 U → S U from fun U h => by rw [← hSd]; exact (h.block _ LA).trans HA)
  have HSC := Lib.hid (show ∀ U, S U → U.cell? ⟨w.heap.size, 0, none⟩ = some (.int .i64 t.ti) ∧ U.cell? ⟨w.heap.size, 1, none⟩ = some (.int .i64 t.au) ∧ U.cell? ⟨w.heap.size, 2, none⟩ = some (.int .i64 t.rl) ∧ U.cell? ⟨w.heap.size, 3, none⟩ = some (.int .i64 t.mx) ∧ U.cell? ⟨w.heap.size, 4, none⟩ = some (.slice t.tx.a t.tx.n t.tx.c) ∧ U.cell? ⟨w.heap.size, 5, none⟩ = some (.int .i64 t.fl) ∧ U.cell? ⟨w.heap.size, 6, none⟩ = some (.slice t.pr.a t.pr.n t.pr.c) ∧ U.cell? ⟨w.heap.size, 7, none⟩ = some (.slice t.gl.a t.gl.n t.gl.c) ∧ U.cell? ⟨w.heap.size, 8, none⟩ = some (.slice t.th.a t.th.n t.th.c) ∧ U.cell? ⟨w.heap.size, 9, none⟩ = some (.slice t.ac.a t.ac.n t.ac.c) ∧ U.cell? ⟨w.heap.size, 10, none⟩ = some (.slice t.de.a t.de.n t.de.c) ∧ U.cell? ⟨w.heap.size, 11, none⟩ = some (.slice t.fu.a t.fu.n t.fu.c) ∧ U.cell? ⟨w.heap.size, 12, none⟩ = some (.slice t.da.a t.da.n t.da.c) ∧ U.cell? ⟨w.heap.size, 13, none⟩ = some (.slice t.pm.a t.pm.n t.pm.c) ∧ U.cell? ⟨w.heap.size, 14, none⟩ = some (.slice t.lo.a t.lo.n t.lo.c) ∧ U.cell? ⟨w.heap.size, 15, none⟩ = some (.slice A0 n0 c0) ∧ U.cell? ⟨w.heap.size, 16, none⟩ = some (.slice A1 n c1) ∧ U.cell? ⟨w.heap.size, 17, none⟩ = some (.slice A2 n2 c2) ∧ U.cell? ⟨w.heap.size, 18, none⟩ = some (.slice A3 n3 c3) ∧ U.cell? ⟨w.heap.size, 19, none⟩ = some (.slice A4 n4 c4) ∧ U.cell? ⟨w.heap.size, 20, none⟩ = some (.slice A5 n5 c5) ∧ U.cell? ⟨w.heap.size, 21, none⟩ = some (.slice A6 n6 c6) ∧ U.cell? ⟨w.heap.size, 22, none⟩ = some (.int .u64 g.seed) ∧ U.cell? ⟨w.heap.size, 23, none⟩ = some (.int .i64 g.sc) ∧ U.cell? ⟨w.heap.size, 24, none⟩ = some (.int .i64 g.tu) ∧ U.cell? ⟨w.heap.size, 25, none⟩ = some (.int .i64 g.ov) ∧ U.cell? ⟨w.heap.size, 26, none⟩ = some (.int .i64 g.it) ∧ U.cell? ⟨w.heap.size, 27, none⟩ = some (.int .i64 g.go) from fun U h => by rw [← hSd] at h; exact cells28 h)
  have i15 : (Try.prog.info? 28).map (·.size) = some 15 := by kernel_rfl
  have i13 : (Try.prog.info? 31).map (·.size) = some 13 := by kernel_rfl
  have HTC := Lib.hid (show ∀ U, S U → ∀ (j : Nat) (v : Value), (#[.int .i64 t.ti, .int .i64 t.au, .int .i64 t.rl, .int .i64 t.mx, .slice t.tx.a t.tx.n t.tx.c, .int .i64 t.fl, .slice t.pr.a t.pr.n t.pr.c, .slice t.gl.a t.gl.n t.gl.c, .slice t.th.a t.th.n t.th.c, .slice t.ac.a t.ac.n t.ac.c, .slice t.de.a t.de.n t.de.c, .slice t.fu.a t.fu.n t.fu.c, .slice t.da.a t.da.n t.da.c, .slice t.pm.a t.pm.n t.pm.c, .slice t.lo.a t.lo.n t.lo.c] : Array Value)[j]? = some v → U.cell? ⟨w.heap.size, 0 + j, none⟩ = some v from fun U h => by rw [← hSd] at h; exact ViewV.part_l (L := [.int .i64 t.ti, .int .i64 t.au, .int .i64 t.rl, .int .i64 t.mx, .slice t.tx.a t.tx.n t.tx.c, .int .i64 t.fl, .slice t.pr.a t.pr.n t.pr.c, .slice t.gl.a t.gl.n t.gl.c, .slice t.th.a t.th.n t.th.c, .slice t.ac.a t.ac.n t.ac.c, .slice t.de.a t.de.n t.de.c, .slice t.fu.a t.fu.n t.fu.c, .slice t.da.a t.da.n t.da.c, .slice t.pm.a t.pm.n t.pm.c, .slice t.lo.a t.lo.n t.lo.c]) (M := [.slice A0 n0 c0, .slice A1 n c1, .slice A2 n2 c2, .slice A3 n3 c3, .slice A4 n4 c4, .slice A5 n5 c5, .slice A6 n6 c6, .int .u64 g.seed, .int .i64 g.sc, .int .i64 g.tu, .int .i64 g.ov, .int .i64 g.it, .int .i64 g.go]) h)
  have HVC := Lib.hid (show ∀ U, S U → ∀ (j : Nat) (v : Value), (#[.slice A0 n0 c0, .slice A1 n c1, .slice A2 n2 c2, .slice A3 n3 c3, .slice A4 n4 c4, .slice A5 n5 c5, .slice A6 n6 c6, .int .u64 g.seed, .int .i64 g.sc, .int .i64 g.tu, .int .i64 g.ov, .int .i64 g.it, .int .i64 g.go] : Array Value)[j]? = some v → U.cell? ⟨w.heap.size, 15 + j, none⟩ = some v from fun U h => by rw [← hSd] at h; exact ViewV.part_r (L := [.int .i64 t.ti, .int .i64 t.au, .int .i64 t.rl, .int .i64 t.mx, .slice t.tx.a t.tx.n t.tx.c, .int .i64 t.fl, .slice t.pr.a t.pr.n t.pr.c, .slice t.gl.a t.gl.n t.gl.c, .slice t.th.a t.th.n t.th.c, .slice t.ac.a t.ac.n t.ac.c, .slice t.de.a t.de.n t.de.c, .slice t.fu.a t.fu.n t.fu.c, .slice t.da.a t.da.n t.da.c, .slice t.pm.a t.pm.n t.pm.c, .slice t.lo.a t.lo.n t.lo.c]) (M := [.slice A0 n0 c0, .slice A1 n c1, .slice A2 n2 c2, .slice A3 n3 c3, .slice A4 n4 c4, .slice A5 n5 c5, .slice A6 n6 c6, .int .u64 g.seed, .int .i64 g.sc, .int .i64 g.tu, .int .i64 g.ov, .int .i64 g.it, .int .i64 g.go]) h rfl)
  clear hSd
  have HC0 := fun (U : World) (h : Wo U V g) => visible_v t g HS.out.good HS.out.fl HS.out.hi U h
  rw [hT] at HC0
  have HC_visible_v := Lib.hid HC0
  clear HC0
  obtain ⟨L, hL⟩ : ∃ L, visible g = L := ⟨_, rfl⟩
  obtain ⟨m, hm⟩ : ∃ m, L.length = m := ⟨_, rfl⟩
  have hm128 : m ≤ 128 := by rw [← hm, ← hL]; exact visible_len HS.out
  have HUP := Lib.hid (show ∀ y ∈ L, isT g.n y = true ∧ isT g.n (at' g.pa y) = true ∧ (at' g.pa y = here g ∨ at' g.pa y = 1 ∨ (at' g.pa y ∈ L ∧ showsB g (at' g.pa y) = true)) from fun y hy => by
    have h0 := (visible_mem HS.out (hL ▸ hy)).1
    have h := visible_up HS.out (y := y) (hL ▸ hy)
    rw [hL] at h
    exact ⟨h0, h⟩)
  have HL := Lib.hid hL
  have HM := Lib.hid hm
  have HN := Lib.hid (show g.n = n ∧ n4 = n from ⟨HRP.out.len.symm, by rw [HRF.out.len, HS.out.fl.1]; exact HRP.out.len.symm⟩)
  clear hL hm
  have hSc : S w0 := HSB.out _ (Below.refl _ _)
  go_wp2_with (first | (refine ViewV.load_sub ?_ 28 _ rfl w.heap.size 0 ?_ #[.int .i64 t.ti, .int .i64 t.au, .int .i64 t.rl, .int .i64 t.mx, .slice t.tx.a t.tx.n t.tx.c, .int .i64 t.fl, .slice t.pr.a t.pr.n t.pr.c, .slice t.gl.a t.gl.n t.gl.c, .slice t.th.a t.th.n t.th.c, .slice t.ac.a t.ac.n t.ac.c, .slice t.de.a t.de.n t.de.c, .slice t.fu.a t.fu.n t.fu.c, .slice t.da.a t.da.n t.da.c, .slice t.pm.a t.pm.n t.pm.c, .slice t.lo.a t.lo.n t.lo.c] _ (HTC.out _ hSc) Try.underlying28 ?_ ?_ ?_; rfl; rfl; rfl; exact i15; rw [hT]) | (refine ViewV.load_sub ?_ 31 _ rfl w.heap.size 15 ?_ #[.slice A0 n0 c0, .slice A1 n c1, .slice A2 n2 c2, .slice A3 n3 c3, .slice A4 n4 c4, .slice A5 n5 c5, .slice A6 n6 c6, .int .u64 g.seed, .int .i64 g.sc, .int .i64 g.tu, .int .i64 g.ov, .int .i64 g.it, .int .i64 g.go] _ (HVC.out _ hSc) Try.underlying31 ?_ ?_ ?_; rfl; rfl; rfl; exact i13; rw [hV]))
  refine (HC_visible_v.out w0 HOv.out).mono ?_
  rintro e wa ⟨u, rfl, ho, hb⟩
  rw [HL.out] at ho
  obtain ⟨Ar, cr, rfl, hc1, hc2⟩ := ho.shape
  rw [HM.out] at ho hc1
  rw [HM.out]
  have HR := Lib.hid ho.rd
  have HKa := Lib.hid hb
  clear hSc
  have hSc : S wa := HSB.out _ HKa.out
  have HSB2 := Lib.hid (show ∀ U, Below wa.heap.size wa U → S U from fun U h => HSB.out U (HKa.out.trans (h.mono HKa.out.size)))
  have HOv2 := Lib.hid (SamW.wo_below HOv.out HKa.out)
  have HBa := Lib.hid (HB.out.trans (HKa.out.mono HB.out.size))
  clear ho hb HSB HTB HOv
  have HSB := HSB2
  have HOv := HOv2
  clear HSB2 HOv2
  go_wp2_with fail
  go_loopw [19] (fun iv wr => ∃ j : Nat, j ≤ m ∧ iv = .int .i64 (j : Int) ∧ Below wa.heap.size wa wr) (fun iv _ => m - (intOf iv).toNat)
  case atStart => exact ⟨0, Nat.zero_le _, rfl, Below.refl _ _⟩
  case round =>
    obtain ⟨j, hj, rfl, hBw⟩ := hrel
    have HBw := Lib.hid hBw
    by_cases hlt : j < m
    · obtain ⟨b, o, rfl, hbb, hl, hcell⟩ := HR.out.at_ hlt
      obtain ⟨y, hy⟩ : ∃ y, L[j] = y := ⟨_, rfl⟩
      have hyL : y ∈ L := hy ▸ List.getElem_mem hl
      obtain ⟨hyT, huT, hway⟩ := HUP.out y hyL
      rw [hy] at hcell
      unfold I at hcell
      have hcw : wr.cell? ⟨b, o + j, none⟩ = some (.int .i64 y) := (bcell HBw.out b _ hbb).trans hcell
      obtain ⟨k0, k1, k2, k3⟩ := rnd hlt hm128
      clear hl hy hyL hcell hBw k3
      have hBt : Below w.heap.size w wr := HBa.out.trans (HBw.out.mono HBa.out.size)
      rw [HN.out.1] at hyT
      obtain ⟨ky, rfl, hky, y0, y1, y2, y3⟩ := idx hyT
      obtain ⟨b1, o1, ea1, hb1, hl1, hcy⟩ := (HRP.out.below hBt).at_ hky
      have hat : at' g.pa (ky : Int) = g.pa[ky] := at_lt hl1
      rw [hat] at huT hway
      generalize g.pa[ky] = up at huT hway hcy hat
      unfold I at hcy
      have huT2 := huT
      rw [HN.out.1] at huT2
      obtain ⟨ku, rfl, hku, u0, u1, u2, u3⟩ := idx huT2
      have hku4 : ku < n4 := HN.out.2 ▸ hku
      obtain ⟨b4, o4, ea4, hb4, hl4, hcu⟩ := (HRF.out.below hBt).at_ hku4
      obtain ⟨fm, d2, d1, q2, q1, hfm, f0, f1, f2, f3, f4, f5, f6, f7, f8⟩ := shows_q HS.out.fl huT hl4
      rw [hfm] at hcu
      unfold I at hcu
      have u4 : (ku : Int) < (n4 : Int) := HN.out.2 ▸ u1
      have HSH := Lib.hid f8
      have HWY := Lib.hid hway
      clear hSc
      have hSc : S wr := HSB.out _ HBw.out
      have x16 : wr.cell? ⟨w.heap.size, 16, none⟩ = some (.slice (some ⟨b1, o1, none⟩) n c1) := ea1 ▸ (HSC.out _ hSc).2.2.2.2.2.2.2.2.2.2.2.2.2.2.2.2.1
      have x19 : wr.cell? ⟨w.heap.size, 19, none⟩ = some (.slice (some ⟨b4, o4, none⟩) n4 c4) := ea4 ▸ (HSC.out _ hSc).2.2.2.2.2.2.2.2.2.2.2.2.2.2.2.2.2.2.2.1
      clear ea1 ea4 hyT huT huT2 hway hat hl1 hl4 hb1 hb4 hfm f8 hBt hky hku hku4
      obtain ⟨hr, hhr⟩ : ∃ hr, here g = hr := ⟨_, rfl⟩
      rw [hhr] at HWY
      have HHR := Lib.hid hhr
      clear hhr
      by_cases hne : (ku : Int) = hr
      · have h1 : hr = (ku : Int) := hne.symm
        clear hne
        cases q2 with
        | true =>
          subst h1
          have rr1 : ((ku : Int) == (ku : Int)) = true := by simp
          have rr2 : ((ku : Int) != (ku : Int)) = false := by simp
          go_upto_region 11 with fail
          clear x16 x19 hcw hcy hcu y0 y1 y2 y3 u0 u1 u2 u3 u4 f0 f1 f2 f3 f4 f5 f6 f7
          go_wp2_with (first | (refine ViewV.load_sub ?_ 28 _ rfl w.heap.size 0 ?_ #[.int .i64 t.ti, .int .i64 t.au, .int .i64 t.rl, .int .i64 t.mx, .slice t.tx.a t.tx.n t.tx.c, .int .i64 t.fl, .slice t.pr.a t.pr.n t.pr.c, .slice t.gl.a t.gl.n t.gl.c, .slice t.th.a t.th.n t.th.c, .slice t.ac.a t.ac.n t.ac.c, .slice t.de.a t.de.n t.de.c, .slice t.fu.a t.fu.n t.fu.c, .slice t.da.a t.da.n t.da.c, .slice t.pm.a t.pm.n t.pm.c, .slice t.lo.a t.lo.n t.lo.c] _ (HTC.out _ hSc) Try.underlying28 ?_ ?_ ?_; rfl; rfl; rfl; exact i15; rw [hT]) | (refine ViewV.load_sub ?_ 31 _ rfl w.heap.size 15 ?_ #[.slice A0 n0 c0, .slice A1 n c1, .slice A2 n2 c2, .slice A3 n3 c3, .slice A4 n4 c4, .slice A5 n5 c5, .slice A6 n6 c6, .int .u64 g.seed, .int .i64 g.sc, .int .i64 g.tu, .int .i64 g.ov, .int .i64 g.it, .int .i64 g.go] _ (HVC.out _ hSc) Try.underlying31 ?_ ?_ ?_; rfl; rfl; rfl; exact i13; rw [hV]))
          refine (here_v g wr (SamW.wo_below HOv.out HBw.out)).mono ?_
          rintro e w1 ⟨rfl, hb⟩
          rw [HHR.out]
          have HK1 := Lib.hid (HBw.out.trans (hb.mono HBw.out.size))
          clear hb hSc
          go_wp2_with fail
          go_roundw
          case rel => exact ⟨j + 1, hlt, by go_num, HK1.out⟩
          case measure => simp [intOf]; omega
        | false =>
          subst h1
          have rr1 : ((ku : Int) == (ku : Int)) = true := by simp
          have rr2 : ((ku : Int) != (ku : Int)) = false := by simp
          go_upto_region 11 with fail
          clear x16 x19 hcw hcy hcu y0 y1 y2 y3 u0 u1 u2 u3 u4 f0 f1 f2 f3 f4 f5 f6 f7
          go_wp2_with (first | (refine ViewV.load_sub ?_ 28 _ rfl w.heap.size 0 ?_ #[.int .i64 t.ti, .int .i64 t.au, .int .i64 t.rl, .int .i64 t.mx, .slice t.tx.a t.tx.n t.tx.c, .int .i64 t.fl, .slice t.pr.a t.pr.n t.pr.c, .slice t.gl.a t.gl.n t.gl.c, .slice t.th.a t.th.n t.th.c, .slice t.ac.a t.ac.n t.ac.c, .slice t.de.a t.de.n t.de.c, .slice t.fu.a t.fu.n t.fu.c, .slice t.da.a t.da.n t.da.c, .slice t.pm.a t.pm.n t.pm.c, .slice t.lo.a t.lo.n t.lo.c] _ (HTC.out _ hSc) Try.underlying28 ?_ ?_ ?_; rfl; rfl; rfl; exact i15; rw [hT]) | (refine ViewV.load_sub ?_ 31 _ rfl w.heap.size 15 ?_ #[.slice A0 n0 c0, .slice A1 n c1, .slice A2 n2 c2, .slice A3 n3 c3, .slice A4 n4 c4, .slice A5 n5 c5, .slice A6 n6 c6, .int .u64 g.seed, .int .i64 g.sc, .int .i64 g.tu, .int .i64 g.ov, .int .i64 g.it, .int .i64 g.go] _ (HVC.out _ hSc) Try.underlying31 ?_ ?_ ?_; rfl; rfl; rfl; exact i13; rw [hV]))
          refine (here_v g wr (SamW.wo_below HOv.out HBw.out)).mono ?_
          rintro e w1 ⟨rfl, hb⟩
          rw [HHR.out]
          have HK1 := Lib.hid (HBw.out.trans (hb.mono HBw.out.size))
          clear hb hSc
          go_wp2_with fail
          go_roundw
          case rel => exact ⟨j + 1, hlt, by go_num, HK1.out⟩
          case measure => simp [intOf]; omega
      · by_cases hn1 : (ku : Int) = 1
        · have h1 : (ku : Int) = 1 := hn1
          cases q2 with
          | true =>
            have rr1 : ((ku : Int) == hr) = false := by simpa using hne
            have rr2 : ((ku : Int) != hr) = true := by simpa using hne
            have rr3 : ((ku : Int) == 1) = true := by simpa using h1
            have rr4 : ((ku : Int) != 1) = false := by simpa using h1
            clear h1 hn1
            go_upto_region 11 with fail
            clear x16 x19 hcw hcy hcu y0 y1 y2 y3 u0 u1 u2 u3 u4 f0 f1 f2 f3 f4 f5 f6 f7
            go_wp2_with (first | (refine ViewV.load_sub ?_ 28 _ rfl w.heap.size 0 ?_ #[.int .i64 t.ti, .int .i64 t.au, .int .i64 t.rl, .int .i64 t.mx, .slice t.tx.a t.tx.n t.tx.c, .int .i64 t.fl, .slice t.pr.a t.pr.n t.pr.c, .slice t.gl.a t.gl.n t.gl.c, .slice t.th.a t.th.n t.th.c, .slice t.ac.a t.ac.n t.ac.c, .slice t.de.a t.de.n t.de.c, .slice t.fu.a t.fu.n t.fu.c, .slice t.da.a t.da.n t.da.c, .slice t.pm.a t.pm.n t.pm.c, .slice t.lo.a t.lo.n t.lo.c] _ (HTC.out _ hSc) Try.underlying28 ?_ ?_ ?_; rfl; rfl; rfl; exact i15; rw [hT]) | (refine ViewV.load_sub ?_ 31 _ rfl w.heap.size 15 ?_ #[.slice A0 n0 c0, .slice A1 n c1, .slice A2 n2 c2, .slice A3 n3 c3, .slice A4 n4 c4, .slice A5 n5 c5, .slice A6 n6 c6, .int .u64 g.seed, .int .i64 g.sc, .int .i64 g.tu, .int .i64 g.ov, .int .i64 g.it, .int .i64 g.go] _ (HVC.out _ hSc) Try.underlying31 ?_ ?_ ?_; rfl; rfl; rfl; exact i13; rw [hV]))
            refine (here_v g wr (SamW.wo_below HOv.out HBw.out)).mono ?_
            rintro e w1 ⟨rfl, hb⟩
            rw [HHR.out]
            have HK1 := Lib.hid (HBw.out.trans (hb.mono HBw.out.size))
            clear hb hSc
            go_wp2_with fail
            go_roundw
            case rel => exact ⟨j + 1, hlt, by go_num, HK1.out⟩
            case measure => simp [intOf]; omega
          | false =>
            have rr1 : ((ku : Int) == hr) = false := by simpa using hne
            have rr2 : ((ku : Int) != hr) = true := by simpa using hne
            have rr3 : ((ku : Int) == 1) = true := by simpa using h1
            have rr4 : ((ku : Int) != 1) = false := by simpa using h1
            clear h1 hn1
            go_upto_region 11 with fail
            clear x16 x19 hcw hcy hcu y0 y1 y2 y3 u0 u1 u2 u3 u4 f0 f1 f2 f3 f4 f5 f6 f7
            go_wp2_with (first | (refine ViewV.load_sub ?_ 28 _ rfl w.heap.size 0 ?_ #[.int .i64 t.ti, .int .i64 t.au, .int .i64 t.rl, .int .i64 t.mx, .slice t.tx.a t.tx.n t.tx.c, .int .i64 t.fl, .slice t.pr.a t.pr.n t.pr.c, .slice t.gl.a t.gl.n t.gl.c, .slice t.th.a t.th.n t.th.c, .slice t.ac.a t.ac.n t.ac.c, .slice t.de.a t.de.n t.de.c, .slice t.fu.a t.fu.n t.fu.c, .slice t.da.a t.da.n t.da.c, .slice t.pm.a t.pm.n t.pm.c, .slice t.lo.a t.lo.n t.lo.c] _ (HTC.out _ hSc) Try.underlying28 ?_ ?_ ?_; rfl; rfl; rfl; exact i15; rw [hT]) | (refine ViewV.load_sub ?_ 31 _ rfl w.heap.size 15 ?_ #[.slice A0 n0 c0, .slice A1 n c1, .slice A2 n2 c2, .slice A3 n3 c3, .slice A4 n4 c4, .slice A5 n5 c5, .slice A6 n6 c6, .int .u64 g.seed, .int .i64 g.sc, .int .i64 g.tu, .int .i64 g.ov, .int .i64 g.it, .int .i64 g.go] _ (HVC.out _ hSc) Try.underlying31 ?_ ?_ ?_; rfl; rfl; rfl; exact i13; rw [hV]))
            refine (here_v g wr (SamW.wo_below HOv.out HBw.out)).mono ?_
            rintro e w1 ⟨rfl, hb⟩
            rw [HHR.out]
            have HK1 := Lib.hid (HBw.out.trans (hb.mono HBw.out.size))
            clear hb hSc
            go_wp2_with fail
            go_roundw
            case rel => exact ⟨j + 1, hlt, by go_num, HK1.out⟩
            case measure => simp [intOf]; omega
        · have hs : (ku : Int) ∈ L ∧ (q2 || q1) = true := by
            rcases HWY.out with h | h | h
            · exact absurd h hne
            · exact absurd h hn1
            · exact ⟨h.1, HSH.out ▸ h.2⟩
          have HIN := Lib.hid (show L.contains (ku : Int) = true by rw [List.contains_iff_mem]; exact hs.1)
          obtain ⟨_, hs2⟩ := hs
          cases q2 with
          | true =>
            have rr1 : ((ku : Int) == hr) = false := by simpa using hne
            have rr2 : ((ku : Int) != hr) = true := by simpa using hne
            have rr3 : ((ku : Int) == 1) = false := by simpa using hn1
            have rr4 : ((ku : Int) != 1) = true := by simpa using hn1
            go_upto_region 11 with fail
            clear x16 x19 hcw hcy hcu y0 y1 y2 y3 u0 u1 u2 u3 u4 f0 f1 f2 f3 f4 f5 f6 f7
            go_wp2_with (first | (refine ViewV.load_sub ?_ 28 _ rfl w.heap.size 0 ?_ #[.int .i64 t.ti, .int .i64 t.au, .int .i64 t.rl, .int .i64 t.mx, .slice t.tx.a t.tx.n t.tx.c, .int .i64 t.fl, .slice t.pr.a t.pr.n t.pr.c, .slice t.gl.a t.gl.n t.gl.c, .slice t.th.a t.th.n t.th.c, .slice t.ac.a t.ac.n t.ac.c, .slice t.de.a t.de.n t.de.c, .slice t.fu.a t.fu.n t.fu.c, .slice t.da.a t.da.n t.da.c, .slice t.pm.a t.pm.n t.pm.c, .slice t.lo.a t.lo.n t.lo.c] _ (HTC.out _ hSc) Try.underlying28 ?_ ?_ ?_; rfl; rfl; rfl; exact i15; rw [hT]) | (refine ViewV.load_sub ?_ 31 _ rfl w.heap.size 15 ?_ #[.slice A0 n0 c0, .slice A1 n c1, .slice A2 n2 c2, .slice A3 n3 c3, .slice A4 n4 c4, .slice A5 n5 c5, .slice A6 n6 c6, .int .u64 g.seed, .int .i64 g.sc, .int .i64 g.tu, .int .i64 g.ov, .int .i64 g.it, .int .i64 g.go] _ (HVC.out _ hSc) Try.underlying31 ?_ ?_ ?_; rfl; rfl; rfl; exact i13; rw [hV]))
            refine (here_v g wr (SamW.wo_below HOv.out HBw.out)).mono ?_
            rintro e w1 ⟨rfl, hb⟩
            rw [HHR.out]
            have HK1 := Lib.hid (HBw.out.trans (hb.mono HBw.out.size))
            clear hb hSc
            go_wp2_with fail
            refine (hasInts_b (ku : Int) L true HIN w1 (HR.out.below HK1.out) (Nat.le_trans hm128 (by decide))).mono ?_
            rintro e w2 ⟨rfl, hb⟩
            have HK2 := Lib.hid (HK1.out.trans (hb.mono HK1.out.size))
            clear hb
            go_wp2_with fail
            go_roundw
            case rel => exact ⟨j + 1, hlt, by go_num, HK2.out⟩
            case measure => simp [intOf]; omega
          | false =>
            rw [Bool.false_or] at hs2
            subst hs2
            have rr1 : ((ku : Int) == hr) = false := by simpa using hne
            have rr2 : ((ku : Int) != hr) = true := by simpa using hne
            have rr3 : ((ku : Int) == 1) = false := by simpa using hn1
            have rr4 : ((ku : Int) != 1) = true := by simpa using hn1
            go_upto_region 11 with fail
            clear x16 x19 hcw hcy hcu y0 y1 y2 y3 u0 u1 u2 u3 u4 f0 f1 f2 f3 f4 f5 f6 f7
            go_wp2_with (first | (refine ViewV.load_sub ?_ 28 _ rfl w.heap.size 0 ?_ #[.int .i64 t.ti, .int .i64 t.au, .int .i64 t.rl, .int .i64 t.mx, .slice t.tx.a t.tx.n t.tx.c, .int .i64 t.fl, .slice t.pr.a t.pr.n t.pr.c, .slice t.gl.a t.gl.n t.gl.c, .slice t.th.a t.th.n t.th.c, .slice t.ac.a t.ac.n t.ac.c, .slice t.de.a t.de.n t.de.c, .slice t.fu.a t.fu.n t.fu.c, .slice t.da.a t.da.n t.da.c, .slice t.pm.a t.pm.n t.pm.c, .slice t.lo.a t.lo.n t.lo.c] _ (HTC.out _ hSc) Try.underlying28 ?_ ?_ ?_; rfl; rfl; rfl; exact i15; rw [hT]) | (refine ViewV.load_sub ?_ 31 _ rfl w.heap.size 15 ?_ #[.slice A0 n0 c0, .slice A1 n c1, .slice A2 n2 c2, .slice A3 n3 c3, .slice A4 n4 c4, .slice A5 n5 c5, .slice A6 n6 c6, .int .u64 g.seed, .int .i64 g.sc, .int .i64 g.tu, .int .i64 g.ov, .int .i64 g.it, .int .i64 g.go] _ (HVC.out _ hSc) Try.underlying31 ?_ ?_ ?_; rfl; rfl; rfl; exact i13; rw [hV]))
            refine (here_v g wr (SamW.wo_below HOv.out HBw.out)).mono ?_
            rintro e w1 ⟨rfl, hb⟩
            rw [HHR.out]
            have HK1 := Lib.hid (HBw.out.trans (hb.mono HBw.out.size))
            clear hb hSc
            go_wp2_with fail
            refine (hasInts_b (ku : Int) L true HIN w1 (HR.out.below HK1.out) (Nat.le_trans hm128 (by decide))).mono ?_
            rintro e w2 ⟨rfl, hb⟩
            have HK2 := Lib.hid (HK1.out.trans (hb.mono HK1.out.size))
            clear hb
            go_wp2_with fail
            go_roundw
            case rel => exact ⟨j + 1, hlt, by go_num, HK2.out⟩
            case measure => simp [intOf]; omega
    · have hjm : j = m := by omega
      go_wp2_with (go_at_call 67; refine (AwkV.awake _).mono ?_; rintro e w99 ⟨rfl, hb⟩; have hz := HBa.out.trans ((HBw.out.trans (hb.mono HBw.out.size)).mono HBa.out.size))
      go_ret
      exact ⟨rfl, hz⟩

theorem own : ownKnob Try.prog.godebug = none := by kernel_rfl

set_option maxRecDepth 100000 in
set_option maxHeartbeats 2000000 in
theorem lifted (os : Os) (started : os.Started) (H : Type) (enc : TypeId × Value → H) :
    ReturnsInHanded {} Try.checked os 18 .any (Rows.viewWaysSpec.pre6 enc Try.prog Try.f18 Rows.viewWaysRow.domain false) (Rows.viewWaysSpec.post enc Try.prog Try.f18 false true false false) := by
  refine returnsInHanded_of_change_sized (C := Try.checked) own started (by kernel_rfl) Try.func18
    (ChangeSpec.witness6 (enc := enc) (C := Try.checked) false ⟨#[], #[.agg #[.int .i64 0, .int .i64 0, .int .i64 0, .int .i64 0, .slice none 0 0, .int .i64 0, .slice none 0 0, .slice none 0 0, .slice none 0 0, .slice none 0 0, .slice none 0 0, .slice none 0 0, .slice none 0 0, .slice none 0 0, .slice none 0 0, .slice none 0 0, .slice none 0 0, .slice none 0 0, .slice none 0 0, .slice none 0 0, .slice none 0 0, .slice none 0 0, .int .u64 0, .int .i64 0, .int .i64 0, .int .i64 0, .int .i64 0, .int .i64 0]], []⟩ 8 (by kernel_rfl) (by kernel_rfl) (by kernel_rfl) (by kernel_rfl)) ?_
  intro W base args ds gs before hval0 hW hcnd hsz0 _
  have hval : ∀ (j : Nat) t v, Try.f18.params[j]? = some t → args[j]? = some v → Value.okWide Try.prog W .any base t v := hval0
  have hW' := hW
  obtain ⟨p, q, hA0, hV, rfl, hfz, hnd⟩ := hW
  have hA : DataW.TrodAll enc Try.prog W 0 (fun _ => true) true Try.f18.params.toList args.toList ds p := hA0
  rw [Try.params18] at hA hval
  obtain ⟨v0, vs0, d0, ds0, p0, q0, hargs, rfl, rfl, h0, r0⟩ := trodAll_cons hA
  obtain ⟨rfl, rfl, rfl⟩ := trodAll_nil r0
  obtain rfl : args = #[v0] := by cases args; simp_all
  clear hV
  have hsz : (DataW.weightsEach Try.prog (69 :: _) (d0 :: _)).all (· ≤ reachBytes) = true := hsz0
  have f0 : WorldD.Fitting d0 69 := by have z := hsz; simp only [DataW.weightsEach, List.all_append, Bool.and_eq_true] at z; exact z.1
  obtain ⟨t0, cs0, g0, rfl, rt0, _, o0⟩ := open_scene (hval 0 69 v0 rfl rfl) h0 f0
  clear hA0 hval0
  refine (walk W t0 rt0 cs0 g0 o0).mono fun e W' ⟨he, hg⟩ => ?_
  subst he
  exact ⟨_, rfl, Law.post (by kernel_rfl) (by kernel_rfl) Try.underlying4 rfl rfl hW' hg ⟨rfl, rfl, rfl⟩⟩

theorem over : Rows.viewWaysRow.holds Try.pinned (OpenSpec.ofChange Rows.viewWaysSpec) :=
  OpenClaim.holds_of_wide 18 Try.f18 rfl rfl rfl rfl rfl rfl rfl ⟨rfl, rfl, rfl, rfl, rfl⟩ rfl rfl rfl rfl rfl (by kernel_rfl) Try.func18 (by kernel_rfl)
    (of_decide_eq_true (by kernel_rfl)) (by unfold Func.isWrapper; first | (rw [if_pos (by decide +kernel)]; kernel_rfl) | (rw [if_neg (by decide +kernel)]; exact ⟨rfl, rfl⟩))
    (fun os started H enc _ => lifted os started H enc)

/-- The statement. -/
theorem proved : Rows.ViewWaysSaid := over
#print axioms proved
end Go.Proofs.Ytncdicagadbafaa.viewWays
