/- ViewOnce: nothing is seen twice, nothing that is hidden, nothing of another room, and not the player; what is seen in the dark is carried. Conditions: none beyond what every reading of the arguments gives. -/
import Derived.Test.YtncdicagadbafaaVB
import Derived.Test.YtncdicagadbafaaLaw
import Derived.Test.YtncdicagadbafaaViewF
import Derived.Test.YtncdicagadbafaaViewY
import Derived.Test.YtncdicagadbafaaVER
import Derived.Test.YtncdicagadbafaaVOU
import Derived.Test.YtncdicagadbafaaViewV
import Derived.Test.YtncdicagadbafaaVNA
import Derived.Laws.Rows
namespace Go.Proofs.Ytncdicagadbafaa.viewOnce
open Go.ChangeShapes Go.WideShapes Go.ChangeAt
open Go Go.RowKit NestP NestW NestX NestY ValP ValW ValX ValR Sq WorldD CopP MoveP LvP MvA AttrP AttrW AttrX AttrY AttrZ AttrU AttrV AttrQ TabD TabW TabX TabB TabR MixP AwkP WoC ViewP ViewW ViewK ViewC ViewS ViewD ViewE ViewF ViewY ViewR ViewU ViewQ

theorem hasInts_b {A : Option Addr} {n c : Nat} (x : Int) (l : List Int) (q : Bool) (HQ : Hid (l.contains x = q)) (w : World) (hr : Sq.Rd I w A n l) (hn : n ≤ 17592186043904) :
    Calls Try.prog 79 #[.slice A n c, .int .i64 x] w fun e w' => e = .returned (.bool q) ∧ Below w.heap.size w w' :=
  (hasInts_v x l q HQ w hr hn).mono fun _ _ ⟨h, k⟩ => ⟨h, k ▸ Below.refl _ _⟩
set_option maxRecDepth 100000 in
set_option maxHeartbeats 16000000 in
theorem walk (w : World) (t : TbV) (rt : TbR w t) (cs : List Value) (g : Wd) (ho : Wo w (.agg cs.toArray) g)  :
    Calls Try.prog 17 #[ScE t cs] w fun e w' => e = .returned (.bool true) ∧ Below w.heap.size w w' := by
  have ho2 := ho
  obtain ⟨A0, A1, A2, A3, A4, A5, A6, n0, c0, n, c1, n2, c2, n3, c3, n4, c4, n5, c5, n6, c6, he, _⟩ := ho2
  obtain rfl : cs = [.slice A0 n0 c0, .slice A1 n c1, .slice A2 n2 c2, .slice A3 n3 c3, .slice A4 n4 c4, .slice A5 n5 c5, .slice A6 n6 c6, .int .u64 g.seed, .int .i64 g.sc, .int .i64 g.tu, .int .i64 g.ov, .int .i64 g.it, .int .i64 g.go] := by
    have h2 : cs.toArray = #[.slice A0 n0 c0, .slice A1 n c1, .slice A2 n2 c2, .slice A3 n3 c3, .slice A4 n4 c4, .slice A5 n5 c5, .slice A6 n6 c6, .int .u64 g.seed, .int .i64 g.sc, .int .i64 g.tu, .int .i64 g.ov, .int .i64 g.it, .int .i64 g.go] := by injection he
    exact congrArg Array.toList h2
  clear he
  show Calls Try.prog 17 #[.agg #[.int .i64 t.ti, .int .i64 t.au, .int .i64 t.rl, .int .i64 t.mx, .slice t.tx.a t.tx.n t.tx.c, .int .i64 t.fl, .slice t.pr.a t.pr.n t.pr.c, .slice t.gl.a t.gl.n t.gl.c, .slice t.th.a t.th.n t.th.c, .slice t.ac.a t.ac.n t.ac.c, .slice t.de.a t.de.n t.de.c, .slice t.fu.a t.fu.n t.fu.c, .slice t.da.a t.da.n t.da.c, .slice t.pm.a t.pm.n t.pm.c, .slice t.lo.a t.lo.n t.lo.c, .slice A0 n0 c0, .slice A1 n c1, .slice A2 n2 c2, .slice A3 n3 c3, .slice A4 n4 c4, .slice A5 n5 c5, .slice A6 n6 c6, .int .u64 g.seed, .int .i64 g.sc, .int .i64 g.tu, .int .i64 g.ov, .int .i64 g.it, .int .i64 g.go]] w _
  go_enter Try.func17, Try.ntmps17
  obtain ⟨w00, hW⟩ : ∃ w0, w.alloc (.cells #[.int .i64 t.ti, .int .i64 t.au, .int .i64 t.rl, .int .i64 t.mx, .slice t.tx.a t.tx.n t.tx.c, .int .i64 t.fl, .slice t.pr.a t.pr.n t.pr.c, .slice t.gl.a t.gl.n t.gl.c, .slice t.th.a t.th.n t.th.c, .slice t.ac.a t.ac.n t.ac.c, .slice t.de.a t.de.n t.de.c, .slice t.fu.a t.fu.n t.fu.c, .slice t.da.a t.da.n t.da.c, .slice t.pm.a t.pm.n t.pm.c, .slice t.lo.a t.lo.n t.lo.c, .slice A0 n0 c0, .slice A1 n c1, .slice A2 n2 c2, .slice A3 n3 c3, .slice A4 n4 c4, .slice A5 n5 c5, .slice A6 n6 c6, .int .u64 g.seed, .int .i64 g.sc, .int .i64 g.tu, .int .i64 g.ov, .int .i64 g.it, .int .i64 g.go] 69) = w0 := ⟨_, rfl⟩
  have HA0 : w00.heap[w.heap.size]? = some (.cells #[.int .i64 t.ti, .int .i64 t.au, .int .i64 t.rl, .int .i64 t.mx, .slice t.tx.a t.tx.n t.tx.c, .int .i64 t.fl, .slice t.pr.a t.pr.n t.pr.c, .slice t.gl.a t.gl.n t.gl.c, .slice t.th.a t.th.n t.th.c, .slice t.ac.a t.ac.n t.ac.c, .slice t.de.a t.de.n t.de.c, .slice t.fu.a t.fu.n t.fu.c, .slice t.da.a t.da.n t.da.c, .slice t.pm.a t.pm.n t.pm.c, .slice t.lo.a t.lo.n t.lo.c, .slice A0 n0 c0, .slice A1 n c1, .slice A2 n2 c2, .slice A3 n3 c3, .slice A4 n4 c4, .slice A5 n5 c5, .slice A6 n6 c6, .int .u64 g.seed, .int .i64 g.sc, .int .i64 g.tu, .int .i64 g.ov, .int .i64 g.it, .int .i64 g.go] 69 (0, 0)) := by rw [← hW]; exact World.alloc_heap_new w _
  have LA0 : w.heap.size < w00.heap.size := by rw [← hW]; simp
  have hB : Below w.heap.size w w00 := by rw [← hW]; exact (Below.refl _ _).alloc (Nat.le_refl _) _
  have HB0 := Lib.hid hB
  have HT0 := Lib.hid rt
  have HO0 := Lib.hid ho
  clear hB rt ho
  go_upto_region 1 with (fail)
  generalize hX : (.agg #[.int .i64 t.ti, .int .i64 t.au, .int .i64 t.rl, .int .i64 t.mx, .slice t.tx.a t.tx.n t.tx.c, .int .i64 t.fl, .slice t.pr.a t.pr.n t.pr.c, .slice t.gl.a t.gl.n t.gl.c, .slice t.th.a t.th.n t.th.c, .slice t.ac.a t.ac.n t.ac.c, .slice t.de.a t.de.n t.de.c, .slice t.fu.a t.fu.n t.fu.c, .slice t.da.a t.da.n t.da.c, .slice t.pm.a t.pm.n t.pm.c, .slice t.lo.a t.lo.n t.lo.c, .slice A0 n0 c0, .slice A1 n c1, .slice A2 n2 c2, .slice A3 n3 c3, .slice A4 n4 c4, .slice A5 n5 c5, .slice A6 n6 c6, .int .u64 g.seed, .int .i64 g.sc, .int .i64 g.tu, .int .i64 g.ov, .int .i64 g.it, .int .i64 g.go] : Value) = X0
  generalize hT : (.agg #[.int .i64 t.ti, .int .i64 t.au, .int .i64 t.rl, .int .i64 t.mx, .slice t.tx.a t.tx.n t.tx.c, .int .i64 t.fl, .slice t.pr.a t.pr.n t.pr.c, .slice t.gl.a t.gl.n t.gl.c, .slice t.th.a t.th.n t.th.c, .slice t.ac.a t.ac.n t.ac.c, .slice t.de.a t.de.n t.de.c, .slice t.fu.a t.fu.n t.fu.c, .slice t.da.a t.da.n t.da.c, .slice t.pm.a t.pm.n t.pm.c, .slice t.lo.a t.lo.n t.lo.c] : Value) = T
  generalize hV : (.agg #[.slice A0 n0 c0, .slice A1 n c1, .slice A2 n2 c2, .slice A3 n3 c3, .slice A4 n4 c4, .slice A5 n5 c5, .slice A6 n6 c6, .int .u64 g.seed, .int .i64 g.sc, .int .i64 g.tu, .int .i64 g.ov, .int .i64 g.it, .int .i64 g.go] : Value) = V at HO0
  have HCR0 := fun (U : World) (h1 : TbR U t) (h2 : Wo U V g) => right_v t g A0 A1 A2 A3 A4 A5 A6 n0 c0 n c1 n2 c2 n3 c3 n4 c4 n5 c5 n6 c6 U h1 (hV ▸ h2)
  rw [hX] at HCR0
  have HCR := Lib.hid HCR0
  clear HCR0
  have hinfo : (Try.prog.info? 69).map (·.size) = some 28 := by kernel_rfl
  go_upto_if 8 with (first
    | (refine wpList_load_row rfl 69 _ rfl w.heap.size ?_ 69 #[.int .i64 t.ti, .int .i64 t.au, .int .i64 t.rl, .int .i64 t.mx, .slice t.tx.a t.tx.n t.tx.c, .int .i64 t.fl, .slice t.pr.a t.pr.n t.pr.c, .slice t.gl.a t.gl.n t.gl.c, .slice t.th.a t.th.n t.th.c, .slice t.ac.a t.ac.n t.ac.c, .slice t.de.a t.de.n t.de.c, .slice t.fu.a t.fu.n t.fu.c, .slice t.da.a t.da.n t.da.c, .slice t.pm.a t.pm.n t.pm.c, .slice t.lo.a t.lo.n t.lo.c, .slice A0 n0 c0, .slice A1 n c1, .slice A2 n2 c2, .slice A3 n3 c3, .slice A4 n4 c4, .slice A5 n5 c5, .slice A6 n6 c6, .int .u64 g.seed, .int .i64 g.sc, .int .i64 g.tu, .int .i64 g.ov, .int .i64 g.it, .int .i64 g.go] (0, 0) _ HA0 Try.underlying69 ?_ ?_ ?_; rfl; rfl; exact hinfo; rw [hX])
    | (go_at_call 66; (with_reducible refine (HCR.out _ (TbR.below HT0.out HB0.out) (SamW.wo_below HO0.out HB0.out)).mono ?_); rintro e w0 ⟨q, rfl, hp, hb⟩; have HA := (hb.block _ LA0).trans HA0; have LA := Nat.lt_of_lt_of_le LA0 hb.size; have HB := Lib.hid (HB0.out.trans (hb.mono HB0.out.size)); clear hW HA0 LA0 hb; cases q))
  · go_wp2_with (go_at_call 67; refine (AwkV.awake _).mono ?_; rintro e w99 ⟨rfl, hb⟩; have hz := HB.out.trans (hb.mono HB.out.size))
    go_ret
    exact ⟨rfl, hz⟩
  have HP := Lib.hid (hp (by simp))
  clear hp
  have HR := Lib.hid HP.out.1
  have HS := Lib.hid (sane HR.out HP.out.2)
  have HTB := Lib.hid (TbR.below HT0.out HB.out)
  have HOv := Lib.hid (SamW.wo_below HO0.out HB.out)
  clear HP HT0 HO0 HB0 HCR
  obtain ⟨S, hSd⟩ : ∃ S : World → Prop, (fun U => U.heap[w.heap.size]? = some (.cells #[.int .i64 t.ti, .int .i64 t.au, .int .i64 t.rl, .int .i64 t.mx, .slice t.tx.a t.tx.n t.tx.c, .int .i64 t.fl, .slice t.pr.a t.pr.n t.pr.c, .slice t.gl.a t.gl.n t.gl.c, .slice t.th.a t.th.n t.th.c, .slice t.ac.a t.ac.n t.ac.c, .slice t.de.a t.de.n t.de.c, .slice t.fu.a t.fu.n t.fu.c, .slice t.da.a t.da.n t.da.c, .slice t.pm.a t.pm.n t.pm.c, .slice t.lo.a t.lo.n t.lo.c, .slice A0 n0 c0, .slice A1 n c1, .slice A2 n2 c2, .slice A3 n3 c3, .slice A4 n4 c4, .slice A5 n5 c5, .slice A6 n6 c6, .int .u64 g.seed, .int .i64 g.sc, .int .i64 g.tu, .int .i64 g.ov, .int .i64 g.it, .int .i64 g.go] 69 (0, 0))) = S := ⟨_, rfl⟩
  have HSB := Lib.hid (show ∀ U, Below w0.heap.size w0 U → S U from fun U h => by rw [← hSd]; exact (h.block _ LA).trans HA)
  have HSC := Lib.hid (show ∀ U, S U → U.cell? ⟨w.heap.size, 0, none⟩ = some (.int .i64 t.ti) ∧ U.cell? ⟨w.heap.size, 1, none⟩ = some (.int .i64 t.au) ∧ U.cell? ⟨w.heap.size, 2, none⟩ = some (.int .i64 t.rl) ∧ U.cell? ⟨w.heap.size, 3, none⟩ = some (.int .i64 t.mx) ∧ U.cell? ⟨w.heap.size, 4, none⟩ = some (.slice t.tx.a t.tx.n t.tx.c) ∧ U.cell? ⟨w.heap.size, 5, none⟩ = some (.int .i64 t.fl) ∧ U.cell? ⟨w.heap.size, 6, none⟩ = some (.slice t.pr.a t.pr.n t.pr.c) ∧ U.cell? ⟨w.heap.size, 7, none⟩ = some (.slice t.gl.a t.gl.n t.gl.c) ∧ U.cell? ⟨w.heap.size, 8, none⟩ = some (.slice t.th.a t.th.n t.th.c) ∧ U.cell? ⟨w.heap.size, 9, none⟩ = some (.slice t.ac.a t.ac.n t.ac.c) ∧ U.cell? ⟨w.heap.size, 10, none⟩ = some (.slice t.de.a t.de.n t.de.c) ∧ U.cell? ⟨w.heap.size, 11, none⟩ = some (.slice t.fu.a t.fu.n t.fu.c) ∧ U.cell? ⟨w.heap.size, 12, none⟩ = some (.slice t.da.a t.da.n t.da.c) ∧ U.cell? ⟨w.heap.size, 13, none⟩ = some (.slice t.pm.a t.pm.n t.pm.c) ∧ U.cell? ⟨w.heap.size, 14, none⟩ = some (.slice t.lo.a t.lo.n t.lo.c) ∧ U.cell? ⟨w.heap.size, 15, none⟩ = some (.slice A0 n0 c0) ∧ U.cell? ⟨w.heap.size, 16, none⟩ = some (.slice A1 n c1) ∧ U.cell? ⟨w.heap.size, 17, none⟩ = some (.slice A2 n2 c2) ∧ U.cell? ⟨w.heap.size, 18, none⟩ = some (.slice A3 n3 c3) ∧ U.cell? ⟨w.heap.size, 19, none⟩ = some (.slice A4 n4 c4) ∧ U.cell? ⟨w.heap.size, 20, none⟩ = some (.slice A5 n5 c5) ∧ U.cell? ⟨w.heap.size, 21, none⟩ = some (.slice A6 n6 c6) ∧ U.cell? ⟨w.heap.size, 22, none⟩ = some (.int .u64 g.seed) ∧ U.cell? ⟨w.heap.size, 23, none⟩ = some (.int .i64 g.sc) ∧ U.cell? ⟨w.heap.size, 24, none⟩ = some (.int .i64 g.tu) ∧ U.cell? ⟨w.heap.size, 25, none⟩ = some (.int .i64 g.ov) ∧ U.cell? ⟨w.heap.size, 26, none⟩ = some (.int .i64 g.it) ∧ U.cell? ⟨w.heap.size, 27, none⟩ = some (.int .i64 g.go) from fun U h => by rw [← hSd] at h; exact cells28 h)
  have i15 : (Try.prog.info? 28).map (·.size) = some 15 := by kernel_rfl
  have i13 : (Try.prog.info? 31).map (·.size) = some 13 := by kernel_rfl
  have HTC := Lib.hid (show ∀ U, S U → ∀ (j : Nat) (v : Value), (#[.int .i64 t.ti, .int .i64 t.au, .int .i64 t.rl, .int .i64 t.mx, .slice t.tx.a t.tx.n t.tx.c, .int .i64 t.fl, .slice t.pr.a t.pr.n t.pr.c, .slice t.gl.a t.gl.n t.gl.c, .slice t.th.a t.th.n t.th.c, .slice t.ac.a t.ac.n t.ac.c, .slice t.de.a t.de.n t.de.c, .slice t.fu.a t.fu.n t.fu.c, .slice t.da.a t.da.n t.da.c, .slice t.pm.a t.pm.n t.pm.c, .slice t.lo.a t.lo.n t.lo.c] : Array Value)[j]? = some v → U.cell? ⟨w.heap.size, 0 + j, none⟩ = some v from fun U h => by rw [← hSd] at h; exact ViewV.part_l (L := [.int .i64 t.ti, .int .i64 t.au, .int .i64 t.rl, .int .i64 t.mx, .slice t.tx.a t.tx.n t.tx.c, .int .i64 t.fl, .slice t.pr.a t.pr.n t.pr.c, .slice t.gl.a t.gl.n t.gl.c, .slice t.th.a t.th.n t.th.c, .slice t.ac.a t.ac.n t.ac.c, .slice t.de.a t.de.n t.de.c, .slice t.fu.a t.fu.n t.fu.c, .slice t.da.a t.da.n t.da.c, .slice t.pm.a t.pm.n t.pm.c, .slice t.lo.a t.lo.n t.lo.c]) (M := [.slice A0 n0 c0, .slice A1 n c1, .slice A2 n2 c2, .slice A3 n3 c3, .slice A4 n4 c4, .slice A5 n5 c5, .slice A6 n6 c6, .int .u64 g.seed, .int .i64 g.sc, .int .i64 g.tu, .int .i64 g.ov, .int .i64 g.it, .int .i64 g.go]) h)
  have HVC := Lib.hid (show ∀ U, S U → ∀ (j : Nat) (v : Value), (#[.slice A0 n0 c0, .slice A1 n c1, .slice A2 n2 c2, .slice A3 n3 c3, .slice A4 n4 c4, .slice A5 n5 c5, .slice A6 n6 c6, .int .u64 g.seed, .int .i64 g.sc, .int .i64 g.tu, .int .i64 g.ov, .int .i64 g.it, .int .i64 g.go] : Array Value)[j]? = some v → U.cell? ⟨w.heap.size, 15 + j, none⟩ = some v from fun U h => by rw [← hSd] at h; exact ViewV.part_r (L := [.int .i64 t.ti, .int .i64 t.au, .int .i64 t.rl, .int .i64 t.mx, .slice t.tx.a t.tx.n t.tx.c, .int .i64 t.fl, .slice t.pr.a t.pr.n t.pr.c, .slice t.gl.a t.gl.n t.gl.c, .slice t.th.a t.th.n t.th.c, .slice t.ac.a t.ac.n t.ac.c, .slice t.de.a t.de.n t.de.c, .slice t.fu.a t.fu.n t.fu.c, .slice t.da.a t.da.n t.da.c, .slice t.pm.a t.pm.n t.pm.c, .slice t.lo.a t.lo.n t.lo.c]) (M := [.slice A0 n0 c0, .slice A1 n c1, .slice A2 n2 c2, .slice A3 n3 c3, .slice A4 n4 c4, .slice A5 n5 c5, .slice A6 n6 c6, .int .u64 g.seed, .int .i64 g.sc, .int .i64 g.tu, .int .i64 g.ov, .int .i64 g.it, .int .i64 g.go]) h rfl)
  clear hSd
  have HC0 := fun (U : World) (h : Wo U V g) => visible_v t g HS.out.good HS.out.fl HS.out.hi U h
  rw [hT] at HC0
  have HC_visible_v := Lib.hid HC0
  clear HC0
  have HC0 := fun (U : World) (h : Wo U V g) => lit_v t g HS.out.good HS.out.fl HS.out.hi U h
  rw [hT] at HC0
  have HC_lit_v := Lib.hid HC0
  clear HC0
  have HC0 := fun (U : World) (h : Wo U V g) => carried_v t g HS.out.good HS.out.fl HS.out.hi U h
  rw [hT] at HC0
  have HC_carried_v := Lib.hid HC0
  clear HC0
  obtain ⟨L, hL⟩ : ∃ L, visible g = L := ⟨_, rfl⟩
  obtain ⟨m, hm⟩ : ∃ m, L.length = m := ⟨_, rfl⟩
  have hm128 : m ≤ 128 := by rw [← hm, ← hL]; exact visible_len HS.out
  have HND := Lib.hid (show L.Nodup from hL ▸ visible_nodup HS.out)
  have HMEM := Lib.hid (show ∀ y ∈ L, isT g.n y = true ∧ hasB g y 3 = false ∧ top g y = here g ∧ y ≠ 1 from fun y hy => visible_mem HS.out (hL ▸ hy))
  have HL := Lib.hid hL
  have HM := Lib.hid hm
  clear hL hm
  have hSc : S w0 := HSB.out _ (Below.refl _ _)
  go_wp2_with (first | (refine ViewV.load_sub ?_ 28 _ rfl w.heap.size 0 ?_ #[.int .i64 t.ti, .int .i64 t.au, .int .i64 t.rl, .int .i64 t.mx, .slice t.tx.a t.tx.n t.tx.c, .int .i64 t.fl, .slice t.pr.a t.pr.n t.pr.c, .slice t.gl.a t.gl.n t.gl.c, .slice t.th.a t.th.n t.th.c, .slice t.ac.a t.ac.n t.ac.c, .slice t.de.a t.de.n t.de.c, .slice t.fu.a t.fu.n t.fu.c, .slice t.da.a t.da.n t.da.c, .slice t.pm.a t.pm.n t.pm.c, .slice t.lo.a t.lo.n t.lo.c] _ (HTC.out _ hSc) Try.underlying28 ?_ ?_ ?_; rfl; rfl; rfl; exact i15; rw [hT]) | (refine ViewV.load_sub ?_ 31 _ rfl w.heap.size 15 ?_ #[.slice A0 n0 c0, .slice A1 n c1, .slice A2 n2 c2, .slice A3 n3 c3, .slice A4 n4 c4, .slice A5 n5 c5, .slice A6 n6 c6, .int .u64 g.seed, .int .i64 g.sc, .int .i64 g.tu, .int .i64 g.ov, .int .i64 g.it, .int .i64 g.go] _ (HVC.out _ hSc) Try.underlying31 ?_ ?_ ?_; rfl; rfl; rfl; exact i13; rw [hV]))
  refine (HC_visible_v.out w0 HOv.out).mono ?_
  rintro e wa ⟨u, rfl, ho, hb⟩
  rw [HL.out] at ho
  obtain ⟨Ar, cr, rfl, hc1, hc2⟩ := ho.shape
  rw [HM.out] at ho hc1
  rw [HM.out]
  have HR := Lib.hid ho.rd
  have HKa := Lib.hid hb
  clear hSc
  have hSc : S wa := HSB.out _ HKa.out
  have HSB2 := Lib.hid (show ∀ U, Below wa.heap.size wa U → S U from fun U h => HSB.out U (HKa.out.trans (h.mono HKa.out.size)))
  have HTB2 := Lib.hid (TbR.below HTB.out HKa.out)
  have HOv2 := Lib.hid (SamW.wo_below HOv.out HKa.out)
  have HBa := Lib.hid (HB.out.trans (HKa.out.mono HB.out.size))
  clear ho hb HSB HTB HOv
  have HSB := HSB2
  have HTB := HTB2
  have HOv := HOv2
  clear HSB2 HTB2 HOv2
  go_wp2_with fail
  go_loopw [17] (fun iv wr => ∃ j : Nat, j ≤ m ∧ iv = .int .i64 (j : Int) ∧ Below wa.heap.size wa wr) (fun iv _ => m - (intOf iv).toNat)
  case atStart => exact ⟨0, Nat.zero_le _, rfl, Below.refl _ _⟩
  case round =>
    obtain ⟨j, hj, rfl, hBw⟩ := hrel
    have HBw := Lib.hid hBw
    by_cases hlt : j < m
    · obtain ⟨b, o, rfl, hbb, hl, hcell⟩ := HR.out.at_ hlt
      obtain ⟨y, hy⟩ : ∃ y, L[j] = y := ⟨_, rfl⟩
      have hyL : y ∈ L := hy ▸ List.getElem_mem hl
      have HNC := Lib.hid (show (L.take j).contains y = false by
        cases h : (L.take j).contains y with
        | false => rfl
        | true =>
          exfalso
          have h2 : y ∈ L.take j := by simpa using h
          have h3 : (L.take j ++ L.drop j).Nodup := by rw [List.take_append_drop]; exact HND.out
          rw [List.drop_eq_getElem_cons hl, hy] at h3
          exact (List.nodup_append.1 h3).2.2 y h2 y (by simp) rfl)
      have HYT := Lib.hid (HMEM.out y hyL).1
      have HYH := Lib.hid (HMEM.out y hyL).2.1
      have HYP := Lib.hid (HMEM.out y hyL).2.2.1
      have h1y : (y == 1) = false := by rw [beq_eq_false_iff_ne]; exact (HMEM.out y hyL).2.2.2
      have HRH := Lib.hid ((HR.out.below HBw.out).high j (Nat.le_of_lt hlt))
      rw [hy] at hcell
      unfold I at hcell
      have hcw : wr.cell? ⟨b, o + j, none⟩ = some (.int .i64 y) := (bcell HBw.out b _ hbb).trans hcell
      have k0 : (0 : Int) ≤ (j : Int) := by omega
      have k1 : (j : Int) < (m : Int) := by omega
      have k2 : (j : Int) ≤ (cr : Int) := by omega
      clear hl hy hyL hcell hBw
      go_wp2_with fail
      clear hcw
      have HK0 := Lib.hid (Below.drew HBw.out)
      have hS0 : S wr.drew := HSB.out _ HK0.out
      refine wp_region_held_drew (S := S) (by as_aux_lemma => kernel_rfl) hS0 (fun hHeld => ?_)
      refine Rg.take (i := 0) (t := 22) (v := .slice (some ⟨b, o, none⟩) m cr) rfl rfl (by as_aux_lemma => kernel_rfl) (by as_aux_lemma => kernel_rfl) (by as_aux_lemma => kernel_rfl) (fun _ _ _ h => h) (by rfl) (by as_aux_lemma => intro w0 hSw; first | (go_simp; done) | (go_simp; with_reducible rfl)) (by assumption) ?_
      simp only [List.setIfInBounds_toArray, List.set_cons_zero, List.set_cons_succ]
      refine Rg.take (i := 1) (t := 23) (v := .int .i64 (j : Int)) rfl rfl (by as_aux_lemma => kernel_rfl) (by as_aux_lemma => kernel_rfl) (by as_aux_lemma => kernel_rfl) (fun _ _ _ h => h) (by rfl) (by as_aux_lemma => intro w0 hSw; first | (go_simp; done) | (go_simp; with_reducible rfl)) (by assumption) ?_
      simp only [List.setIfInBounds_toArray, List.set_cons_zero, List.set_cons_succ]
      refine Rg.take (i := 2) (t := 24) (v := .slice (some ⟨b, o, none⟩) j cr) rfl rfl (by as_aux_lemma => kernel_rfl) (by as_aux_lemma => kernel_rfl) (by as_aux_lemma => kernel_rfl) (fun _ _ _ h => h) (by rfl) (by as_aux_lemma => intro w0 hSw; first | (go_simp; done) | (go_simp; with_reducible rfl)) (by assumption) ?_
      simp only [List.setIfInBounds_toArray, List.set_cons_zero, List.set_cons_succ]
      refine Rg.take (i := 3) (t := 25) (v := .int .i64 y) rfl rfl (by as_aux_lemma => kernel_rfl) (by as_aux_lemma => kernel_rfl) (by as_aux_lemma => kernel_rfl) (fun _ _ _ h => h) (by rfl) (by as_aux_lemma => intro w0 hSw; first | (go_simp; done) | (go_simp; with_reducible rfl)) (by assumption) ?_
      simp only [List.setIfInBounds_toArray, List.set_cons_zero, List.set_cons_succ]
      refine Rg.one (i := 4) (by as_aux_lemma => kernel_rfl) ?_
      refine Rg.call (i := 4) (t := 26) rfl rfl (by rfl) (by go_simp; exact ⟨rfl, rfl⟩) ?_
      refine (hasInts_b y (L.take j) false HNC wr.drew (HRH.out.below (Below.drew (Below.refl wr.heap.size wr))) (Nat.le_trans hj (Nat.le_trans hm128 (by decide)))).mono ?_
      rintro e w1 ⟨rfl, hb⟩
      have HK1 := Lib.hid (HK0.out.trans (hb.mono HK0.out.size))
      have hS1 : S w1 := HSB.out _ HK1.out
      clear hS0 hb
      refine ⟨_, rfl, S, fun _ h => h, hS1, ?_⟩
      simp only [List.setIfInBounds_toArray, List.set_cons_zero, List.set_cons_succ]
      refine Rg.take (i := 5) (t := 27) (v := .bool false) rfl rfl (by as_aux_lemma => kernel_rfl) (by as_aux_lemma => kernel_rfl) (by as_aux_lemma => kernel_rfl) (fun _ _ _ h => h) (by rfl) (by as_aux_lemma => intro w0 hSw; first | (go_simp; done) | (go_simp; with_reducible rfl)) (by assumption) ?_
      simp only [List.setIfInBounds_toArray, List.set_cons_zero, List.set_cons_succ]
      refine Rg.take (i := 6) (t := 28) (v := .pointer (some ⟨w.heap.size, 15, none⟩)) rfl rfl (by as_aux_lemma => kernel_rfl) (by as_aux_lemma => kernel_rfl) (by as_aux_lemma => kernel_rfl) (fun _ _ _ h => h) (by rfl) (by as_aux_lemma => intro w0 hSw; first | (go_simp; done) | (go_simp; with_reducible rfl)) (by assumption) ?_
      simp only [List.setIfInBounds_toArray, List.set_cons_zero, List.set_cons_succ]
      refine Rg.take (i := 7) (t := 29) (v := V) rfl rfl (by as_aux_lemma => kernel_rfl) (by as_aux_lemma => kernel_rfl) (by as_aux_lemma => kernel_rfl) (fun _ _ _ h => h) (by rfl) (by as_aux_lemma => intro w0 hSw; obtain ⟨x0, x1, x2, x3, x4, x5, x6, x7, x8, x9, x10, x11, x12, x13, x14, x15, x16, x17, x18, x19, x20, x21, x22, x23, x24, x25, x26, x27⟩ := HSC.out _ hSw; first | (go_simp; done) | (go_simp; with_reducible rfl)) (by assumption) ?_
      simp only [List.setIfInBounds_toArray, List.set_cons_zero, List.set_cons_succ]
      refine Rg.take (i := 8) (t := 30) (v := .int .i64 y) rfl rfl (by as_aux_lemma => kernel_rfl) (by as_aux_lemma => kernel_rfl) (by as_aux_lemma => kernel_rfl) (fun _ _ _ h => h) (by rfl) (by as_aux_lemma => intro w0 hSw; first | (go_simp; done) | (go_simp; with_reducible rfl)) (by assumption) ?_
      simp only [List.setIfInBounds_toArray, List.set_cons_zero, List.set_cons_succ]
      refine Rg.one (i := 9) (by as_aux_lemma => kernel_rfl) ?_
      refine Rg.call (i := 9) (t := 31) rfl rfl (by rfl) (by go_simp; exact ⟨rfl, rfl⟩) ?_
      refine (hidden_t g y w1 (SamW.wo_below HOv.out HK1.out) HS.out.fl HYT.out).mono ?_
      rintro e w2 ⟨rfl, hb⟩
      rw [HYH.out]
      have HK2 := Lib.hid (HK1.out.trans (hb.mono HK1.out.size))
      have hS2 : S w2 := HSB.out _ HK2.out
      clear hS1 hb
      refine ⟨_, rfl, S, fun _ h => h, hS2, ?_⟩
      simp only [List.setIfInBounds_toArray, List.set_cons_zero, List.set_cons_succ]
      refine Rg.take (i := 10) (t := 32) (v := .bool false) rfl rfl (by as_aux_lemma => kernel_rfl) (by as_aux_lemma => kernel_rfl) (by as_aux_lemma => kernel_rfl) (fun _ _ _ h => h) (by rfl) (by as_aux_lemma => intro w0 hSw; first | (go_simp; done) | (go_simp; with_reducible rfl)) (by assumption) ?_
      simp only [List.setIfInBounds_toArray, List.set_cons_zero, List.set_cons_succ]
      refine Rg.take (i := 11) (t := 33) (v := .bool false) rfl rfl (by as_aux_lemma => kernel_rfl) (by as_aux_lemma => kernel_rfl) (by as_aux_lemma => kernel_rfl) (fun _ _ _ h => h) (by rfl) (by as_aux_lemma => intro w0 hSw; first | (go_simp; done) | (go_simp; with_reducible rfl)) (by assumption) ?_
      simp only [List.setIfInBounds_toArray, List.set_cons_zero, List.set_cons_succ]
      refine Rg.take (i := 12) (t := 34) (v := .pointer (some ⟨w.heap.size, 15, none⟩)) rfl rfl (by as_aux_lemma => kernel_rfl) (by as_aux_lemma => kernel_rfl) (by as_aux_lemma => kernel_rfl) (fun _ _ _ h => h) (by rfl) (by as_aux_lemma => intro w0 hSw; first | (go_simp; done) | (go_simp; with_reducible rfl)) (by assumption) ?_
      simp only [List.setIfInBounds_toArray, List.set_cons_zero, List.set_cons_succ]
      refine Rg.take (i := 13) (t := 35) (v := V) rfl rfl (by as_aux_lemma => kernel_rfl) (by as_aux_lemma => kernel_rfl) (by as_aux_lemma => kernel_rfl) (fun _ _ _ h => h) (by rfl) (by as_aux_lemma => intro w0 hSw; obtain ⟨x0, x1, x2, x3, x4, x5, x6, x7, x8, x9, x10, x11, x12, x13, x14, x15, x16, x17, x18, x19, x20, x21, x22, x23, x24, x25, x26, x27⟩ := HSC.out _ hSw; first | (go_simp; done) | (go_simp; with_reducible rfl)) (by assumption) ?_
      simp only [List.setIfInBounds_toArray, List.set_cons_zero, List.set_cons_succ]
      refine Rg.take (i := 14) (t := 36) (v := .int .i64 y) rfl rfl (by as_aux_lemma => kernel_rfl) (by as_aux_lemma => kernel_rfl) (by as_aux_lemma => kernel_rfl) (fun _ _ _ h => h) (by rfl) (by as_aux_lemma => intro w0 hSw; first | (go_simp; done) | (go_simp; with_reducible rfl)) (by assumption) ?_
      simp only [List.setIfInBounds_toArray, List.set_cons_zero, List.set_cons_succ]
      refine Rg.take (i := 16) (t := 38) (v := .pointer (some ⟨w.heap.size, 15, none⟩)) rfl rfl (by as_aux_lemma => kernel_rfl) (by as_aux_lemma => kernel_rfl) (by as_aux_lemma => kernel_rfl) (fun _ _ _ h => h) (by rfl) (by as_aux_lemma => intro w0 hSw; first | (go_simp; done) | (go_simp; with_reducible rfl)) (by assumption) ?_
      simp only [List.setIfInBounds_toArray, List.set_cons_zero, List.set_cons_succ]
      refine Rg.take (i := 17) (t := 39) (v := V) rfl rfl (by as_aux_lemma => kernel_rfl) (by as_aux_lemma => kernel_rfl) (by as_aux_lemma => kernel_rfl) (fun _ _ _ h => h) (by rfl) (by as_aux_lemma => intro w0 hSw; obtain ⟨x0, x1, x2, x3, x4, x5, x6, x7, x8, x9, x10, x11, x12, x13, x14, x15, x16, x17, x18, x19, x20, x21, x22, x23, x24, x25, x26, x27⟩ := HSC.out _ hSw; first | (go_simp; done) | (go_simp; with_reducible rfl)) (by assumption) ?_
      simp only [List.setIfInBounds_toArray, List.set_cons_zero, List.set_cons_succ]
      refine Rg.one (i := 15) (by as_aux_lemma => kernel_rfl) ?_
      refine Rg.call (i := 15) (t := 37) rfl rfl (by rfl) (by go_simp; exact ⟨rfl, rfl⟩) ?_
      refine (top_w g y (SamW.wo_below HOv.out HK2.out)).mono ?_
      rintro e w3 ⟨rfl, hb⟩
      rw [HYP.out]
      have HK3 := Lib.hid (HK2.out.trans (hb.mono HK2.out.size))
      have hS3 : S w3 := HSB.out _ HK3.out
      clear hS2 hb
      refine ⟨_, rfl, S, fun _ h => h, hS3, ?_⟩
      simp only [List.setIfInBounds_toArray, List.set_cons_zero, List.set_cons_succ]
      refine Rg.one (i := 18) (by as_aux_lemma => kernel_rfl) ?_
      refine Rg.call (i := 18) (t := 40) rfl rfl (by rfl) (by go_simp; exact ⟨rfl, rfl⟩) ?_
      refine (here_v g w3 (SamW.wo_below HOv.out HK3.out)).mono ?_
      rintro e w4 ⟨rfl, hb⟩
      have HK4 := Lib.hid (HK3.out.trans (hb.mono HK3.out.size))
      have hS4 : S w4 := HSB.out _ HK4.out
      clear hS3 hb
      refine ⟨_, rfl, S, fun _ h => h, hS4, ?_⟩
      simp only [List.setIfInBounds_toArray, List.set_cons_zero, List.set_cons_succ]
      refine Rg.take (i := 19) (t := 41) (v := .bool false) rfl rfl (by as_aux_lemma => kernel_rfl) (by as_aux_lemma => kernel_rfl) (by as_aux_lemma => kernel_rfl) (fun _ _ _ h => h) (by rfl) (by as_aux_lemma => intro w0 hSw; first | (go_simp; done) | (go_simp; with_reducible rfl)) (by assumption) ?_
      simp only [List.setIfInBounds_toArray, List.set_cons_zero, List.set_cons_succ]
      refine Rg.take (i := 20) (t := 42) (v := .bool false) rfl rfl (by as_aux_lemma => kernel_rfl) (by as_aux_lemma => kernel_rfl) (by as_aux_lemma => kernel_rfl) (fun _ _ _ h => h) (by rfl) (by as_aux_lemma => intro w0 hSw; first | (go_simp; done) | (go_simp; with_reducible rfl)) (by assumption) ?_
      simp only [List.setIfInBounds_toArray, List.set_cons_zero, List.set_cons_succ]
      refine Rg.take (i := 21) (t := 43) (v := .bool false) rfl rfl (by as_aux_lemma => kernel_rfl) (by as_aux_lemma => kernel_rfl) (by as_aux_lemma => kernel_rfl) (fun _ _ _ h => h) (by rfl) (by as_aux_lemma => intro w0 hSw; first | (go_simp; done) | (go_simp; with_reducible rfl)) (by assumption) ?_
      simp only [List.setIfInBounds_toArray, List.set_cons_zero, List.set_cons_succ]
      refine Rg.take (i := 22) (t := 44) (v := .int .i64 y) rfl rfl (by as_aux_lemma => kernel_rfl) (by as_aux_lemma => kernel_rfl) (by as_aux_lemma => kernel_rfl) (fun _ _ _ h => h) (by rfl) (by as_aux_lemma => intro w0 hSw; first | (go_simp; done) | (go_simp; with_reducible rfl)) (by assumption) ?_
      simp only [List.setIfInBounds_toArray, List.set_cons_zero, List.set_cons_succ]
      refine Rg.take (i := 23) (t := 45) (v := .bool (y == 1)) rfl rfl (by as_aux_lemma => kernel_rfl) (by as_aux_lemma => kernel_rfl) (by as_aux_lemma => kernel_rfl) (fun _ _ _ h => h) (by rfl) (by as_aux_lemma => intro w0 hSw; first | (go_simp; done) | (go_simp; with_reducible rfl)) (by assumption) ?_
      simp only [List.setIfInBounds_toArray, List.set_cons_zero, List.set_cons_succ]
      rw [h1y]
      refine Rg.take (i := 24) (t := 46) (v := .bool false) rfl rfl (by as_aux_lemma => kernel_rfl) (by as_aux_lemma => kernel_rfl) (by as_aux_lemma => kernel_rfl) (fun _ _ _ h => h) (by rfl) (by as_aux_lemma => intro w0 hSw; first | (go_simp; done) | (go_simp; with_reducible rfl)) (by assumption) ?_
      simp only [List.setIfInBounds_toArray, List.set_cons_zero, List.set_cons_succ]
      refine wpAnyH_done (by as_aux_lemma => kernel_rfl) ?_ _
      clear hS4
      go_wp2_with fail
      go_roundw
      case rel => exact ⟨j + 1, by omega, by go_num, HK4.out⟩
      case measure => simp [intOf]; omega
    · have hjm : j = m := by omega
      clear hBw
      clear hSc
      have hSc : S wr := HSB.out _ HBw.out
      go_wp2_with (first | (refine ViewV.load_sub ?_ 28 _ rfl w.heap.size 0 ?_ #[.int .i64 t.ti, .int .i64 t.au, .int .i64 t.rl, .int .i64 t.mx, .slice t.tx.a t.tx.n t.tx.c, .int .i64 t.fl, .slice t.pr.a t.pr.n t.pr.c, .slice t.gl.a t.gl.n t.gl.c, .slice t.th.a t.th.n t.th.c, .slice t.ac.a t.ac.n t.ac.c, .slice t.de.a t.de.n t.de.c, .slice t.fu.a t.fu.n t.fu.c, .slice t.da.a t.da.n t.da.c, .slice t.pm.a t.pm.n t.pm.c, .slice t.lo.a t.lo.n t.lo.c] _ (HTC.out _ hSc) Try.underlying28 ?_ ?_ ?_; rfl; rfl; rfl; exact i15; rw [hT]) | (refine ViewV.load_sub ?_ 31 _ rfl w.heap.size 15 ?_ #[.slice A0 n0 c0, .slice A1 n c1, .slice A2 n2 c2, .slice A3 n3 c3, .slice A4 n4 c4, .slice A5 n5 c5, .slice A6 n6 c6, .int .u64 g.seed, .int .i64 g.sc, .int .i64 g.tu, .int .i64 g.ov, .int .i64 g.it, .int .i64 g.go] _ (HVC.out _ hSc) Try.underlying31 ?_ ?_ ?_; rfl; rfl; rfl; exact i13; rw [hV]))
      refine (HC_lit_v.out wr (SamW.wo_below HOv.out HBw.out)).mono ?_
      rintro e w2 ⟨rfl, hb⟩
      have HK2 := Lib.hid (HBw.out.trans (hb.mono HBw.out.size))
      clear hSc hb
      have hSc : S w2 := HSB.out _ HK2.out
      cases hl : litB g with
      | true =>
        go_wp2_with (go_at_call 67; refine (AwkV.awake _).mono ?_; rintro e w99 ⟨rfl, hb⟩; have hz := HBa.out.trans ((HK2.out.trans (hb.mono HK2.out.size)).mono HBa.out.size))
        go_ret
        exact ⟨rfl, hz⟩
      | false =>
        have hLC : L = carried g := by rw [← HL.out, visible_dark hl]
        subst hLC
        go_wp2_with (first | (refine ViewV.load_sub ?_ 28 _ rfl w.heap.size 0 ?_ #[.int .i64 t.ti, .int .i64 t.au, .int .i64 t.rl, .int .i64 t.mx, .slice t.tx.a t.tx.n t.tx.c, .int .i64 t.fl, .slice t.pr.a t.pr.n t.pr.c, .slice t.gl.a t.gl.n t.gl.c, .slice t.th.a t.th.n t.th.c, .slice t.ac.a t.ac.n t.ac.c, .slice t.de.a t.de.n t.de.c, .slice t.fu.a t.fu.n t.fu.c, .slice t.da.a t.da.n t.da.c, .slice t.pm.a t.pm.n t.pm.c, .slice t.lo.a t.lo.n t.lo.c] _ (HTC.out _ hSc) Try.underlying28 ?_ ?_ ?_; rfl; rfl; rfl; exact i15; rw [hT]) | (refine ViewV.load_sub ?_ 31 _ rfl w.heap.size 15 ?_ #[.slice A0 n0 c0, .slice A1 n c1, .slice A2 n2 c2, .slice A3 n3 c3, .slice A4 n4 c4, .slice A5 n5 c5, .slice A6 n6 c6, .int .u64 g.seed, .int .i64 g.sc, .int .i64 g.tu, .int .i64 g.ov, .int .i64 g.it, .int .i64 g.go] _ (HVC.out _ hSc) Try.underlying31 ?_ ?_ ?_; rfl; rfl; rfl; exact i13; rw [hV]))
        refine (HC_carried_v.out w2 (SamW.wo_below HOv.out HK2.out)).mono ?_
        rintro e w3 ⟨u3, rfl, ho, hb⟩
        obtain ⟨Ar3, cr3, rfl, _, _⟩ := ho.shape
        have HR3 := Lib.hid ho.rd
        have HK3 := Lib.hid (HK2.out.trans (hb.mono HK2.out.size))
        clear hSc hb ho
        go_wp2_with fail
        refine (sameInts_t (carried g) w3 (HR.out.below HK3.out) HR3.out (Nat.le_trans hm128 (by decide))).mono ?_
        rintro e w4 ⟨rfl, hb⟩
        have HK4 := Lib.hid (HK3.out.trans (hb.mono HK3.out.size))
        clear hb
        go_wp2_with (go_at_call 67; refine (AwkV.awake _).mono ?_; rintro e w99 ⟨rfl, hb⟩; have hz := HBa.out.trans ((HK4.out.trans (hb.mono HK4.out.size)).mono HBa.out.size))
        go_ret
        exact ⟨rfl, hz⟩

theorem own : ownKnob Try.prog.godebug = none := by kernel_rfl

set_option maxRecDepth 100000 in
set_option maxHeartbeats 2000000 in
theorem lifted (os : Os) (started : os.Started) (H : Type) (enc : TypeId × Value → H) :
    ReturnsInHanded {} Try.checked os 17 .any (Rows.viewOnceSpec.pre6 enc Try.prog Try.f17 Rows.viewOnceRow.domain false) (Rows.viewOnceSpec.post enc Try.prog Try.f17 false true false false) := by
  refine returnsInHanded_of_change_sized (C := Try.checked) own started (by kernel_rfl) Try.func17
    (ChangeSpec.witness6 (enc := enc) (C := Try.checked) false ⟨#[], #[.agg #[.int .i64 0, .int .i64 0, .int .i64 0, .int .i64 0, .slice none 0 0, .int .i64 0, .slice none 0 0, .slice none 0 0, .slice none 0 0, .slice none 0 0, .slice none 0 0, .slice none 0 0, .slice none 0 0, .slice none 0 0, .slice none 0 0, .slice none 0 0, .slice none 0 0, .slice none 0 0, .slice none 0 0, .slice none 0 0, .slice none 0 0, .slice none 0 0, .int .u64 0, .int .i64 0, .int .i64 0, .int .i64 0, .int .i64 0, .int .i64 0]], []⟩ 8 (by kernel_rfl) (by kernel_rfl) (by kernel_rfl) (by kernel_rfl)) ?_
  intro W base args ds gs before hval0 hW hcnd hsz0 _
  have hval : ∀ (j : Nat) t v, Try.f17.params[j]? = some t → args[j]? = some v → Value.okWide Try.prog W .any base t v := hval0
  have hW' := hW
  obtain ⟨p, q, hA0, hV, rfl, hfz, hnd⟩ := hW
  have hA : DataW.TrodAll enc Try.prog W 0 (fun _ => true) true Try.f17.params.toList args.toList ds p := hA0
  rw [Try.params17] at hA hval
  obtain ⟨v0, vs0, d0, ds0, p0, q0, hargs, rfl, rfl, h0, r0⟩ := trodAll_cons hA
  obtain ⟨rfl, rfl, rfl⟩ := trodAll_nil r0
  obtain rfl : args = #[v0] := by cases args; simp_all
  clear hV
  have hsz : (DataW.weightsEach Try.prog (69 :: _) (d0 :: _)).all (· ≤ reachBytes) = true := hsz0
  have f0 : WorldD.Fitting d0 69 := by have z := hsz; simp only [DataW.weightsEach, List.all_append, Bool.and_eq_true] at z; exact z.1
  obtain ⟨t0, cs0, g0, rfl, rt0, _, o0⟩ := open_scene (hval 0 69 v0 rfl rfl) h0 f0
  clear hA0 hval0
  refine (walk W t0 rt0 cs0 g0 o0).mono fun e W' ⟨he, hg⟩ => ?_
  subst he
  exact ⟨_, rfl, Law.post (by kernel_rfl) (by kernel_rfl) Try.underlying4 rfl rfl hW' hg ⟨rfl, rfl, rfl⟩⟩

theorem over : Rows.viewOnceRow.holds Try.pinned (OpenSpec.ofChange Rows.viewOnceSpec) :=
  OpenClaim.holds_of_wide 17 Try.f17 rfl rfl rfl rfl rfl rfl rfl ⟨rfl, rfl, rfl, rfl, rfl⟩ rfl rfl rfl rfl rfl (by kernel_rfl) Try.func17 (by kernel_rfl)
    (of_decide_eq_true (by kernel_rfl)) (by unfold Func.isWrapper; first | (rw [if_pos (by decide +kernel)]; kernel_rfl) | (rw [if_neg (by decide +kernel)]; exact ⟨rfl, rfl⟩))
    (fun os started H enc _ => lifted os started H enc)

/-- The statement. -/
theorem proved : Rows.ViewOnceSaid := over
#print axioms proved
end Go.Proofs.Ytncdicagadbafaa.viewOnce
