/- value.Random and clewref25.Random: what chance comes to, and the world with another Seed. Conditions: the seed lies in uint64's range. -/
import Derived.Test.YtncdicagadbafaaCore
import Derived.Test.YtncdicagadbafaaValZ
import Derived.Test.YtncdicagadbafaaMixV
import Derived.RegionTactic
import Derived.Laws.Rows
import Derived.ChangeAlike
namespace Go.Proofs.Ytncdicagadbafaa.ValR
open Go Go.RowKit NestP ValP ValW MixP

def rdV (s m : Int) : Int := if m < 1 then 0 else be s m + 1
def rdE (m : Int) : Int := if m < 1 then 1 else 0
def rdS (s m : Int) : Int := if m < 1 then s else bs s m
theorem results_tct {fn : Func} {t p u : Tmp} {ty : TypeId} (h : fn.results = #[.tmp t, .cell p ty, .tmp u]) (tmps : Array Value) {P : Program} (w : World) (g : Nat) (t' : TypeId) (cs : Array Value) (fr : Nat × Nat) (fs : Array Field)
    (hp : tmps.getD p undef = .pointer (some ⟨g, 0, none⟩)) (hg : w.heap[g]? = some (.cells cs t' fr))
    (hu : P.underlying ty = some (.struct fs)) (hi : (P.info? ty).map (·.size) = some cs.size) :
    (results fn tmps).run P w = .ok (.tuple #[tmps.getD t undef, .agg cs, tmps.getD u undef]) w := by
  have hp' : tmps[p]?.getD undef = .pointer (some ⟨g, 0, none⟩) := by simpa using hp
  simp [results, h, hp', asAddr, run_loadVar_row w g t' ty cs fr _ hg hu rfl hi]
theorem drewHeap {w : World} {g : Nat} {o : Option Obj} (h : w.heap[g]? = o) : w.drew.heap[g]? = o := h
theorem ret_tct {P : Program} {fn : Func} {Q : Ending → World → Prop} {a : Act} {w : World} {t p u : Tmp} {ty : TypeId} {g : Nat} {t' : TypeId} {cs : Array Value} {fr : Nat × Nat} {fs : Array Field} (hg : w.heap[g]? = some (.cells cs t' fr))
    (h : fn.results = #[.tmp t, .cell p ty, .tmp u]) (hp : a.tmps.getD p undef = .pointer (some ⟨g, 0, none⟩)) (hu : P.underlying ty = some (.struct fs)) (hi : (P.info? ty).map (·.size) = some cs.size) (hd : a.defers = [])
    (hq : Q (.returned (.tuple #[a.tmps.getD t undef, .agg cs, a.tmps.getD u undef])) w) : bodyPost P fn Q .ret a w :=
  bodyPost_ret (results_tct h _ _ g t' cs fr _ hp hg hu hi) hd hq
theorem be_bd (s : Int) {m : Int} (h : ¬ m < 1) : 0 ≤ be s m ∧ be s m < m := by
  rw [be, if_neg h]
  exact ⟨Int.emod_nonneg _ (by omega), Int.emod_lt_of_pos _ (by omega)⟩
set_option maxRecDepth 100000 in
theorem random_i {A0 A1 A2 A3 A4 A5 A6 : Option Addr} {n0 c0 n c1 n2 c2 n3 c3 n4 c4 n5 c5 n6 c6 : Nat} {i8 i9 i10 i11 i12 : Int} (s a : Int) (hs : U s) (w : World) :
    Calls Try.prog 61 #[.agg #[.slice A0 n0 c0, .slice A1 n c1, .slice A2 n2 c2, .slice A3 n3 c3, .slice A4 n4 c4, .slice A5 n5 c5, .slice A6 n6 c6, .int .u64 (s), .int .i64 i8, .int .i64 i9, .int .i64 i10, .int .i64 i11, .int .i64 i12], .int .i64 a] w fun e w' => e = .returned (.tuple #[.int .i64 (rdV s (wr a)), .agg #[.slice A0 n0 c0, .slice A1 n c1, .slice A2 n2 c2, .slice A3 n3 c3, .slice A4 n4 c4, .slice A5 n5 c5, .slice A6 n6 c6, .int .u64 (rdS s (wr a)), .int .i64 i8, .int .i64 i9, .int .i64 i10, .int .i64 i11, .int .i64 i12], .int .i64 (rdE (wr a))]) ∧ Below w.heap.size w w' := by
  have HS := Lib.hid hs
  clear hs
  have m0 := wr_lo a
  have m1 := wr_hi a
  by_cases h : wr a < 1
  · have H1 := Lib.hid (show rdV s (wr a) = 0 from if_pos h)
    have H2 := Lib.hid (show rdS s (wr a) = s from if_pos h)
    have H3 := Lib.hid (show rdE (wr a) = 1 from if_pos h)
    go_enter Try.func61, Try.ntmps61
    go_wp2_with (go_at_call 116; refine (wrap_i _ _).mono ?_; rintro e w1 ⟨rfl, rfl⟩)
    go_region
    go_wp2_with (fail)
    (try simp only [Exit.inBlock, Exit.then])
    refine ret_tct (drewHeap (heap_alloc2_new _ _ _)) rfl rfl Try.underlying31 rfl rfl ?_
    exact ⟨by rw [H1.out, H2.out, H3.out]; rfl, by go_grown⟩
  · have H1 := Lib.hid (show rdV s (wr a) = be s (wr a) + 1 from if_neg h)
    have H2 := Lib.hid (show rdS s (wr a) = bs s (wr a) from if_neg h)
    have H3 := Lib.hid (show rdE (wr a) = 0 from if_neg h)
    obtain ⟨b0, b1⟩ := be_bd s h
    go_enter Try.func61, Try.ntmps61
    go_wp2_with (first | (go_at_call 116; refine (wrap_i _ _).mono ?_; rintro e w1 ⟨rfl, rfl⟩) | (go_at_call 129; refine (MixV.below_i _ _ HS.out (by omega) _).mono ?_; rintro e w2 ⟨rfl, hb⟩; have hx0 := (hb.block w.heap.size (by simp; omega)).trans (heap_alloc2_old _ _ _); have hx1 := (hb.block (w.heap.size + 1) (by simp)).trans (heap_alloc2_new _ _ _); obtain ⟨x0, x1, x2, x3, x4, x5, x6, x7, x8, x9, x10, x11, x12, xf⟩ := cells13 hx0; obtain ⟨y0, y1, y2, y3, y4, y5, y6, y7, y8, y9, y10, y11, y12, yf⟩ := cells13 hx1))
    go_region
    go_wp2_with (fail)
    have HF := set13 (w := ((w2.setCell ⟨w.heap.size, 7, none⟩ (.int .u64 (bs s (wr a)))))) (g := w.heap.size + 1) (a0 := .slice A0 n0 c0) (a1 := .slice A1 n c1) (a2 := .slice A2 n2 c2) (a3 := .slice A3 n3 c3) (a4 := .slice A4 n4 c4) (a5 := .slice A5 n5 c5) (a6 := .slice A6 n6 c6) (a7 := .int .u64 (bs s (wr a))) (a8 := .int .i64 i8) (a9 := .int .i64 i9) (a10 := .int .i64 i10) (a11 := .int .i64 i11) (a12 := .int .i64 i12) ((Below.heap_setCell _ _ _ _ (by simp)).trans hx1)
    (try simp only [Exit.inBlock, Exit.then])
    refine ret_tct (drewHeap HF) rfl rfl Try.underlying31 rfl rfl ?_
    exact ⟨by rw [H1.out, H2.out, H3.out]; rfl, by
      refine Below.drew ?_
      iterate 14 (refine Below.setCell ?_ (by simp) _)
      exact (((Below.refl _ _).alloc (Nat.le_refl _) _).alloc (by simp) _).trans (hb.mono (by simp; omega))⟩
set_option maxRecDepth 100000 in
theorem random_r {A0 A1 A2 A3 A4 A5 A6 : Option Addr} {n0 c0 n c1 n2 c2 n3 c3 n4 c4 n5 c5 n6 c6 : Nat} {i8 i9 i10 i11 i12 : Int} (s a : Int) (hs : U s) (w : World) :
    Calls Try.prog 62 #[.agg #[.slice A0 n0 c0, .slice A1 n c1, .slice A2 n2 c2, .slice A3 n3 c3, .slice A4 n4 c4, .slice A5 n5 c5, .slice A6 n6 c6, .int .u64 (s), .int .i64 i8, .int .i64 i9, .int .i64 i10, .int .i64 i11, .int .i64 i12], .int .i64 a] w fun e w' => e = .returned (.tuple #[.int .i64 (rdV s (wr a)), .agg #[.slice A0 n0 c0, .slice A1 n c1, .slice A2 n2 c2, .slice A3 n3 c3, .slice A4 n4 c4, .slice A5 n5 c5, .slice A6 n6 c6, .int .u64 (rdS s (wr a)), .int .i64 i8, .int .i64 i9, .int .i64 i10, .int .i64 i11, .int .i64 i12], .int .i64 (rdE (wr a))]) ∧ Below w.heap.size w w' := by
  have HS := Lib.hid hs
  clear hs
  have m0 := wr_lo a
  have m1 := wr_hi a
  by_cases h : wr a < 1
  · have H1 := Lib.hid (show rdV s (wr a) = 0 from if_pos h)
    have H2 := Lib.hid (show rdS s (wr a) = s from if_pos h)
    have H3 := Lib.hid (show rdE (wr a) = 1 from if_pos h)
    go_enter Try.func62, Try.ntmps62
    go_wp2_with (go_at_call 63; refine (wrap_r _ _).mono ?_; rintro e w1 ⟨rfl, rfl⟩)
    go_region
    go_wp2_with (fail)
    (try simp only [Exit.inBlock, Exit.then])
    refine ret_tct (drewHeap (heap_alloc2_new _ _ _)) rfl rfl Try.underlying31 rfl rfl ?_
    exact ⟨by rw [H1.out, H2.out, H3.out]; rfl, by go_grown⟩
  · have H1 := Lib.hid (show rdV s (wr a) = be s (wr a) + 1 from if_neg h)
    have H2 := Lib.hid (show rdS s (wr a) = bs s (wr a) from if_neg h)
    have H3 := Lib.hid (show rdE (wr a) = 0 from if_neg h)
    obtain ⟨b0, b1⟩ := be_bd s h
    go_enter Try.func62, Try.ntmps62
    go_wp2_with (first | (go_at_call 63; refine (wrap_r _ _).mono ?_; rintro e w1 ⟨rfl, rfl⟩) | (go_at_call 130; refine (MixV.below_r _ _ HS.out (by omega) _).mono ?_; rintro e w2 ⟨rfl, hb⟩; have hx0 := (hb.block w.heap.size (by simp; omega)).trans (heap_alloc2_old _ _ _); have hx1 := (hb.block (w.heap.size + 1) (by simp)).trans (heap_alloc2_new _ _ _); obtain ⟨x0, x1, x2, x3, x4, x5, x6, x7, x8, x9, x10, x11, x12, xf⟩ := cells13 hx0; obtain ⟨y0, y1, y2, y3, y4, y5, y6, y7, y8, y9, y10, y11, y12, yf⟩ := cells13 hx1))
    go_region
    go_wp2_with (fail)
    have HF := set13 (w := ((w2.setCell ⟨w.heap.size, 7, none⟩ (.int .u64 (bs s (wr a)))))) (g := w.heap.size + 1) (a0 := .slice A0 n0 c0) (a1 := .slice A1 n c1) (a2 := .slice A2 n2 c2) (a3 := .slice A3 n3 c3) (a4 := .slice A4 n4 c4) (a5 := .slice A5 n5 c5) (a6 := .slice A6 n6 c6) (a7 := .int .u64 (bs s (wr a))) (a8 := .int .i64 i8) (a9 := .int .i64 i9) (a10 := .int .i64 i10) (a11 := .int .i64 i11) (a12 := .int .i64 i12) ((Below.heap_setCell _ _ _ _ (by simp)).trans hx1)
    (try simp only [Exit.inBlock, Exit.then])
    refine ret_tct (drewHeap HF) rfl rfl Try.underlying31 rfl rfl ?_
    exact ⟨by rw [H1.out, H2.out, H3.out]; rfl, by
      refine Below.drew ?_
      iterate 14 (refine Below.setCell ?_ (by simp) _)
      exact (((Below.refl _ _).alloc (Nat.le_refl _) _).alloc (by simp) _).trans (hb.mono (by simp; omega))⟩
end Go.Proofs.Ytncdicagadbafaa.ValR
