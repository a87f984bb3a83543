/- Rows of three bytes, as the last law takes them. -/
import Derived.Test.YtjfllfikeopgnaaSumD
import Derived.Test.YtjfllfikeopgnaaSeqK
import Derived.Laws.IdiomArrays
namespace Go.Proofs.Ytjfllfikeopgnaa.SumT
open Go.ChangeShapes Go.WideShapes Go.ChangeAt Go.RowKit Go.Deep
open SumP Sq SumW SumX SumY SumZ SumO SumA SumD

abbrev Tri : Type := UInt8 × UInt8 × UInt8
def encT (t : Tri) : List Value := [encB t.1, encB t.2.1, encB t.2.2]
theorem lenT (t : Tri) : (encT t).length = 3 := rfl
theorem cellsT : Try.prog.cellsOf 37 = 3 := by kernel_rfl
section
variable {H : Type} {enc : TypeId × Value → H} {w : World} {base : Nat} {spare : Nat → Bool} {held : Bool}
theorem open_tris {v : Value} {d : DataW H} {p : List MemPlace} {r : Reach} {b0 : Nat} (hv : Value.okWide Try.prog w r b0 36 v) (h : DataW.Trod enc Try.prog w base spare held 36 v d p) : ∃ l, Sk.Rv encT w v l := by
  obtain ⟨a0, len, cap, rfl⟩ := okWide_slice Try.underlying36 hv
  obtain ⟨fuel, hf⟩ := h
  refine Sk.trod_rv lenT (by omega) Try.underlying36 cellsT (fun n cs y hl h => ?_) hf
  match cs, hl with
  | [c0, c1, c2], _ =>
    obtain ⟨y0, y1, y2, m, _, h0, h1, h2⟩ := trod_array3 Try.underlying37 cellsB h
    obtain ⟨x0, rfl⟩ := byte_of h0
    obtain ⟨x1, rfl⟩ := byte_of h1
    obtain ⟨x2, rfl⟩ := byte_of h2
    exact ⟨(x0, x1, x2), rfl⟩
end

/-- Two slices do not share a block. -/
def Apart (v v' : Value) : Prop := ∀ k, v.ownBlock = some k → v'.ownBlock ≠ some k
theorem Apart.symm {v v' : Value} (h : Apart v v') : Apart v' v := fun k h1 h2 => h k h2 h1
theorem apart_nil (v : Value) : Apart v (.slice none 0 0) := fun k _ h => by cases h
theorem Own.far {w w' : World} {B : Nat} {v x : Value} {l : List UInt8} (h : Own encB EB w B v l) (hg : w.grownBy w' x.ownBlock) (ha : Apart v x) : Own encB EB w' B v l := by
  refine h.kept hg ?_
  cases hv : v.ownBlock with
  | none => exact .inl rfl
  | some k => exact .inr fun e => ha k hv e.symm
theorem Apart.next {w : World} {B : Nat} {v x x' : Value} {l : List UInt8} (h : Own encB EB w B v l) (ha : Apart v x) (hx : x'.ownBlock = x.ownBlock ∨ x'.ownBlock = some w.heap.size) : Apart v x' := by
  intro k hk
  rcases hx with hx | hx
  · rw [hx]; exact ha k hk
  · rw [hx]
    intro e
    injection e with e
    have := (World.ownsRow.lt h k hk).2
    omega

def pa (l : List Tri) : List UInt8 := l.map (·.1)
def pb (l : List Tri) : List UInt8 := l.map (·.2.1)
def pc (l : List Tri) : List UInt8 := l.map (·.2.2)
def pd (l : List Tri) : List UInt8 := l.map fun t => mix3 t.1 t.2.1 t.2.2
theorem xor_byte (x y : UInt8) : bits .xor .u8 (x.toNat : Int) (y.toNat : Int) = ((x ^^^ y).toNat : Int) := by
  rw [u8_xor_nat _ _ (byte_lt x) (byte_lt y), UInt8.toNat_xor]

/-- Four rows of the call's own, no two in one block. -/
def Q4 (w : World) (B : Nat) (va : Value) (a : List UInt8) (vb : Value) (b : List UInt8) (vc : Value) (c : List UInt8) (vd : Value) (d : List UInt8) : Prop :=
  (Own encB EB w B va a ∧ Own encB EB w B vb b ∧ Own encB EB w B vc c ∧ Own encB EB w B vd d) ∧ (Apart va vb ∧ Apart va vc ∧ Apart va vd ∧ Apart vb vc ∧ Apart vb vd ∧ Apart vc vd)
theorem Q4.alloc {w : World} {B : Nat} {va vb vc vd : Value} {a b c d : List UInt8} (h : Q4 w B va a vb b vc c vd d) (o : Obj) : Q4 (w.alloc o) B va a vb b vc c vd d :=
  ⟨⟨h.1.1.alloc o, h.1.2.1.alloc o, h.1.2.2.1.alloc o, h.1.2.2.2.alloc o⟩, h.2⟩
/-- The first row has grown; the others come ahead of it. -/
theorem Q4.next {w w' : World} {B : Nat} {va vb vc vd v1 : Value} {a b c d a' : List UInt8} (h : Q4 w B va a vb b vc c vd d) (O1 : Own encB EB w' B v1 a') (g1 : w.grownBy w' va.ownBlock) (o1 : v1.ownBlock = va.ownBlock ∨ v1.ownBlock = some w.heap.size) :
    Q4 w' B vb b vc c vd d v1 a' := by
  obtain ⟨⟨h1, h2, h3, h4⟩, a1, a2, a3, a4, a5, a6⟩ := h
  exact ⟨⟨Own.far h2 g1 a1.symm, Own.far h3 g1 a2.symm, Own.far h4 g1 a3.symm, O1⟩, a4, a5, Apart.next h2 a1.symm o1, a6, Apart.next h3 a2.symm o1, Apart.next h4 a3.symm o1⟩
theorem far_cell {w w' : World} {g j : Nat} {va u : Value} (g1 : w.grownBy w' va.ownBlock) (hg : ∀ k, va.ownBlock = some k → k ≠ g) (hc : w.cell? ⟨g, j, none⟩ = some u) : w'.cell? ⟨g, j, none⟩ = some u :=
  g1.cell hc fun e => by
    have := hg g e.symm
    exact this rfl
/-- No row lies in a block that is newer than they. -/
def Off (g : Nat) (v : Value) : Prop := ∀ k, v.ownBlock = some k → k ≠ g
theorem off_of {w : World} {B g : Nat} {v : Value} {l : List UInt8} (h : Own encB EB w B v l) (hg : w.heap.size ≤ g) : Off g v := fun k hk => by
  have := (World.ownsRow.lt h k hk).2
  omega

theorem take_map {α β : Type} (f : α → β) (l : List α) (k : Nat) (hk : k < l.length) : (l.take (k + 1)).map f = (l.take k).map f ++ [f l[k]] := by
  rw [List.take_succ_eq_append_getElem hk, List.map_append]; rfl

set_option maxRecDepth 100000 in
set_option maxHeartbeats 1000000 in
theorem walk {w : World} (v : Value) (l : List Tri) (hv : Sk.Rv encT w v l) :
    Calls Try.prog 8 #[v] w fun e w' => e = .returned (.bool true) ∧ Below w.heap.size w w' := by
  obtain ⟨A, n, c, rfl, hnc, hcm, hr⟩ := hv
  unfold maxLen at hcm
  by_cases hbig : 700 < n
  · go_enter Try.func8, Try.ntmps8
    go_wp2_with (go_at_call 9; refine (SumA.awake _).mono ?_; rintro e w9 ⟨rfl, hb9⟩)
    go_ret
    exact ⟨rfl, hb9⟩
  · have R := Lib.hid hr
    clear hr
    go_enter Try.func8, Try.ntmps8
    go_wp2_with fail
    go_loopw [3, 4, 5, 6, 15] (fun va vb vc vd i wr => ∃ k : Nat, k ≤ n ∧ i = .int .i64 (k : Int) ∧ Q4 wr w.heap.size va (pa (l.take k)) vb (pb (l.take k)) vc (pc (l.take k)) vd (pd (l.take k)) ∧ Below w.heap.size w wr) (fun _ _ _ _ i _ => n - (intOf i).toNat)
    case atStart =>
      refine ⟨0, Nat.zero_le _, rfl, ⟨⟨own_nil _ _, own_nil _ _, own_nil _ _, own_nil _ _⟩, ?_⟩, Below.refl _ _⟩
      exact ⟨apart_nil _, apart_nil _, apart_nil _, apart_nil _, apart_nil _, apart_nil _⟩
    case round =>
      obtain ⟨k, hk, rfl, hF, hb⟩ := hrel
      have HF := Lib.hid hF
      clear hF
      by_cases hlt : k < n
      · have RW := R.out.below hb
        obtain ⟨b, o, rfl, hbl, hl, hc⟩ := RW.at_ lenT hlt
        have TA := Lib.hid (take_map (·.1) l k hl)
        have TB := Lib.hid (take_map (·.2.1) l k hl)
        have TC := Lib.hid (take_map (·.2.2) l k hl)
        have TD := Lib.hid (take_map (fun t : Tri => mix3 t.1 t.2.1 t.2.2) l k hl)
        have HK7 := Lib.hid (show ∀ l' : List UInt8, l'.length = (l.take k).length → l'.length ≤ 700 from fun l' h => by rw [h, List.length_take]; have := RW.1; omega)
        obtain ⟨⟨x0, x1, x2⟩, hx⟩ : ∃ t, l[k] = t := ⟨_, rfl⟩
        rw [hx] at hc TA TB TC TD
        dsimp only at TA TB TC TD
        have c0 := hc 0 _ rfl
        have c1 := hc 1 _ rfl
        have c2 := hc 2 _ rfl
        unfold encB at c0 c1 c2
        dsimp only at c0 c1 c2
        rw [Nat.add_zero] at c0
        have k0 : (0 : Int) ≤ (k : Int) := by omega
        have k1 : (k : Int) < (n : Int) := by omega
        have hle := hb.size
        have oa := Lib.hid (off_of (g := wr.heap.size) HF.out.1.1 (Nat.le_refl _))
        have ob := Lib.hid (off_of (g := wr.heap.size) HF.out.1.2.1 (Nat.le_refl _))
        have od := Lib.hid (off_of (g := wr.heap.size) HF.out.1.2.2.2 (Nat.le_refl _))
        have oc := Lib.hid (off_of (g := wr.heap.size) HF.out.1.2.2.1 (Nat.le_refl _))
        have hx01 := xor_byte x0 x1
        have hx012 := xor_byte (x0 ^^^ x1) x2
        obtain ⟨y, hy⟩ : ∃ y, x0 ^^^ x1 = y := ⟨_, rfl⟩
        rw [hy] at hx01 hx012
        obtain ⟨z, hz⟩ : ∃ z, y ^^^ x2 = z := ⟨_, rfl⟩
        rw [hz] at hx012
        have hmz : mix3 x0 x1 x2 = z := by unfold mix3; rw [hy, hz]
        rw [hmz] at TD
        clear hy hz hmz
        have hhb : (wr.alloc (.cells #[.int .u8 (x0.toNat : Int), .int .u8 (x1.toNat : Int), .int .u8 (x2.toNat : Int)] 37)).heap[wr.heap.size]? = some (.cells #[.int .u8 (x0.toNat : Int), .int .u8 (x1.toNat : Int), .int .u8 (x2.toNat : Int)] 37) := heap_alloc_last wr _
        have e0 := cell_of_row _ wr.heap.size 0 _ _ (0, 0) hhb
        have e1 := cell_of_row _ wr.heap.size 1 _ _ (0, 0) hhb
        have e2 := cell_of_row _ wr.heap.size 2 _ _ (0, 0) hhb
        have Q0 := Lib.hid (HF.out.alloc (.cells #[.int .u8 (x0.toNat : Int), .int .u8 (x1.toNat : Int), .int .u8 (x2.toNat : Int)] 37))
        have HB0 := Lib.hid (hb.alloc hle (.cells #[.int .u8 (x0.toNat : Int), .int .u8 (x1.toNat : Int), .int .u8 (x2.toNat : Int)] 37))
        have hs0 : wr.heap.size < (wr.alloc (.cells #[.int .u8 (x0.toNat : Int), .int .u8 (x1.toNat : Int), .int .u8 (x2.toNat : Int)] 37)).heap.size := by simp
        clear hc hx RW hhb
        obtain ⟨W0, hW⟩ : ∃ W0, wr.alloc (.cells #[.int .u8 (x0.toNat : Int), .int .u8 (x1.toNat : Int), .int .u8 (x2.toNat : Int)] 37) = W0 := ⟨_, rfl⟩
        rw [hW] at Q0 HB0 e0 e1 e2 hs0
        simp only [List.getElem?_toArray, List.getElem?_cons_zero, List.getElem?_cons_succ] at e0 e1 e2
        go_wp2_with (first
          | (at_builtin; refine wpList_append elB rfl (.tmp 19) (.tmp 22) rfl rfl (Q0.out.1.1.alloc (.cells #[.int .u8 (x0.toNat : Int)] EB)) (some ⟨W0.heap.size, 0, none⟩) 1 1 [x0] rfl (rd_lit (enc := encB) W0 EB [x0] _ rfl 1 rfl) (by have := HK7.out (pa (l.take k)) (by simp [pa]); simp only [maxLen]; omega) (by have := HK7.out (pa (l.take k)) (by simp [pa]); omega) (by have := HB0.out.size; simp; omega) ?_; rintro v0 W1 O1 b1 g1 o1; have Q1 := Lib.hid ((Q0.out.alloc (.cells #[.int .u8 (x0.toNat : Int)] EB)).next O1 g1 o1); have f0 := far_cell g1 oa.out ((World.cell?_alloc_lt W0 (.cells #[.int .u8 (x0.toNat : Int)] EB) ⟨wr.heap.size, 0, none⟩ hs0).trans e0); have f1 := far_cell g1 oa.out ((World.cell?_alloc_lt W0 (.cells #[.int .u8 (x0.toNat : Int)] EB) ⟨wr.heap.size, 1, none⟩ hs0).trans e1); have f2 := far_cell g1 oa.out ((World.cell?_alloc_lt W0 (.cells #[.int .u8 (x0.toNat : Int)] EB) ⟨wr.heap.size, 2, none⟩ hs0).trans e2); have HB1 := Lib.hid ((HB0.out.alloc HB0.out.size (.cells #[.int .u8 (x0.toNat : Int)] EB)).trans b1); have hs1 : wr.heap.size < W1.heap.size := (by have := b1.size; simp at this; omega); clear O1 g1 o1 b1 e0 e1 e2; have e0 := f0; have e1 := f1; have e2 := f2; clear f0 f1 f2)
          | (at_builtin; refine wpList_append elB rfl (.tmp 24) (.tmp 27) rfl rfl (Q1.out.1.1.alloc (.cells #[.int .u8 (x1.toNat : Int)] EB)) (some ⟨W1.heap.size, 0, none⟩) 1 1 [x1] rfl (rd_lit (enc := encB) W1 EB [x1] _ rfl 1 rfl) (by have := HK7.out (pb (l.take k)) (by simp [pb]); simp only [maxLen]; omega) (by have := HK7.out (pb (l.take k)) (by simp [pb]); omega) (by have := HB1.out.size; simp; omega) ?_; rintro v1 W2 O1 b1 g1 o1; have Q2 := Lib.hid ((Q1.out.alloc (.cells #[.int .u8 (x1.toNat : Int)] EB)).next O1 g1 o1); have f0 := far_cell g1 ob.out ((World.cell?_alloc_lt W1 (.cells #[.int .u8 (x1.toNat : Int)] EB) ⟨wr.heap.size, 0, none⟩ hs1).trans e0); have f1 := far_cell g1 ob.out ((World.cell?_alloc_lt W1 (.cells #[.int .u8 (x1.toNat : Int)] EB) ⟨wr.heap.size, 1, none⟩ hs1).trans e1); have f2 := far_cell g1 ob.out ((World.cell?_alloc_lt W1 (.cells #[.int .u8 (x1.toNat : Int)] EB) ⟨wr.heap.size, 2, none⟩ hs1).trans e2); have HB2 := Lib.hid ((HB1.out.alloc HB1.out.size (.cells #[.int .u8 (x1.toNat : Int)] EB)).trans b1); have hs2 : wr.heap.size < W2.heap.size := (by have := b1.size; simp at this; omega); clear O1 g1 o1 b1 e0 e1 e2; have e0 := f0; have e1 := f1; have e2 := f2; clear f0 f1 f2)
          | (at_builtin; refine wpList_append elB rfl (.tmp 29) (.tmp 32) rfl rfl (Q2.out.1.1.alloc (.cells #[.int .u8 (x2.toNat : Int)] EB)) (some ⟨W2.heap.size, 0, none⟩) 1 1 [x2] rfl (rd_lit (enc := encB) W2 EB [x2] _ rfl 1 rfl) (by have := HK7.out (pc (l.take k)) (by simp [pc]); simp only [maxLen]; omega) (by have := HK7.out (pc (l.take k)) (by simp [pc]); omega) (by have := HB2.out.size; simp; omega) ?_; rintro v2 W3 O1 b1 g1 o1; have Q3 := Lib.hid ((Q2.out.alloc (.cells #[.int .u8 (x2.toNat : Int)] EB)).next O1 g1 o1); have f0 := far_cell g1 oc.out ((World.cell?_alloc_lt W2 (.cells #[.int .u8 (x2.toNat : Int)] EB) ⟨wr.heap.size, 0, none⟩ hs2).trans e0); have f1 := far_cell g1 oc.out ((World.cell?_alloc_lt W2 (.cells #[.int .u8 (x2.toNat : Int)] EB) ⟨wr.heap.size, 1, none⟩ hs2).trans e1); have f2 := far_cell g1 oc.out ((World.cell?_alloc_lt W2 (.cells #[.int .u8 (x2.toNat : Int)] EB) ⟨wr.heap.size, 2, none⟩ hs2).trans e2); have HB3 := Lib.hid ((HB2.out.alloc HB2.out.size (.cells #[.int .u8 (x2.toNat : Int)] EB)).trans b1); have hs3 : wr.heap.size < W3.heap.size := (by have := b1.size; simp at this; omega); clear O1 g1 o1 b1 e0 e1 e2; have e0 := f0; have e1 := f1; have e2 := f2; clear f0 f1 f2)
          | (at_builtin; refine wpList_append elB rfl (.tmp 34) (.tmp 43) rfl rfl (Q3.out.1.1.alloc (.cells #[.int .u8 (z.toNat : Int)] EB)) (some ⟨W3.heap.size, 0, none⟩) 1 1 [z] rfl (rd_lit (enc := encB) W3 EB [z] _ rfl 1 rfl) (by have := HK7.out (pd (l.take k)) (by simp [pd]); simp only [maxLen]; omega) (by have := HK7.out (pd (l.take k)) (by simp [pd]); omega) (by have := HB3.out.size; simp; omega) ?_; rintro v3 W4 O1 b1 g1 o1; have Qz := Lib.hid ((Q3.out.alloc (.cells #[.int .u8 (z.toNat : Int)] EB)).next O1 g1 o1); have f0 := far_cell g1 od.out ((World.cell?_alloc_lt W3 (.cells #[.int .u8 (z.toNat : Int)] EB) ⟨wr.heap.size, 0, none⟩ hs3).trans e0); have f1 := far_cell g1 od.out ((World.cell?_alloc_lt W3 (.cells #[.int .u8 (z.toNat : Int)] EB) ⟨wr.heap.size, 1, none⟩ hs3).trans e1); have f2 := far_cell g1 od.out ((World.cell?_alloc_lt W3 (.cells #[.int .u8 (z.toNat : Int)] EB) ⟨wr.heap.size, 2, none⟩ hs3).trans e2); have HB4 := Lib.hid ((HB3.out.alloc HB3.out.size (.cells #[.int .u8 (z.toNat : Int)] EB)).trans b1); have hs4 : wr.heap.size < W4.heap.size := (by have := b1.size; simp at this; omega); clear O1 g1 o1 b1 e0 e1 e2; have e0 := f0; have e1 := f1; have e2 := f2; clear f0 f1 f2))
        go_roundw
        case rel =>
          refine ⟨k + 1, by omega, by go_num, ?_, HB4.out⟩
          have := Qz.out
          unfold pa pb pc pd at *
          rw [TA.out, TB.out, TC.out, TD.out]
          exact this
        case measure => simp [intOf]; omega
      · have hkn : k = n := by omega
        obtain ⟨⟨O1, O2, O3, O4⟩, _⟩ := HF.out
        have e : l.take k = l := by rw [hkn, R.out.1, List.take_length]
        rw [e] at O1 O2 O3 O4
        have hln : l.length ≤ 700 := by rw [← R.out.1]; omega
        have HON := Lib.hid (show on 0 (pa l) ^^^ on 0 (pb l) ^^^ on 0 (pc l) = on 0 (pd l) from on3 l)
        obtain ⟨Aa, ca, rfl, _, _⟩ := O1.shape
        obtain ⟨Ab, cb, rfl, _, _⟩ := O2.shape
        obtain ⟨Ac, cc, rfl, _, _⟩ := O3.shape
        obtain ⟨Ad, cd, rfl, _, _⟩ := O4.shape
        have R1 := Lib.hid O1.rd
        have R2 := Lib.hid O2.rd
        have R3 := Lib.hid O3.rd
        have R4 := Lib.hid O4.rd
        have z1 : (pa l).length ≤ 700 := by simpa [pa] using hln
        have z2 : (pb l).length ≤ 700 := by simpa [pb] using hln
        have z3 : (pc l).length ≤ 700 := by simpa [pc] using hln
        have z4 : (pd l).length ≤ 700 := by simpa [pd] using hln
        obtain ⟨n1, h1⟩ : ∃ n1, (pa l).length = n1 := ⟨_, rfl⟩
        obtain ⟨n2, h2⟩ : ∃ n2, (pb l).length = n2 := ⟨_, rfl⟩
        obtain ⟨n3, h3⟩ : ∃ n3, (pc l).length = n3 := ⟨_, rfl⟩
        obtain ⟨n4, h4⟩ : ∃ n4, (pd l).length = n4 := ⟨_, rfl⟩
        rw [h1] at R1 z1
        rw [h2] at R2 z2
        rw [h3] at R3 z3
        rw [h4] at R4 z4
        rw [h1, h2, h3, h4]
        obtain ⟨p, hp⟩ : ∃ p, on 0 (pa l) = p := ⟨_, rfl⟩
        obtain ⟨q, hq⟩ : ∃ q, on 0 (pb l) = q := ⟨_, rfl⟩
        obtain ⟨r, hr'⟩ : ∃ r, on 0 (pc l) = r := ⟨_, rfl⟩
        have hpl := on_lt (s := 0) (pa l) (by omega)
        have hql := on_lt (s := 0) (pb l) (by omega)
        have hrl := on_lt (s := 0) (pc l) (by omega)
        have HP := Lib.hid hp
        have HQ := Lib.hid hq
        have HR := Lib.hid hr'
        rw [hp, hq, hr'] at HON
        rw [hp] at hpl
        rw [hq] at hql
        rw [hr'] at hrl
        have hx1 := u32_xor_nat p q hpl hql
        have hx2 := u32_xor_nat (p ^^^ q) r (lt_xor hpl hql) hrl
        have d0 : decide (k < n) = false := by simp; omega
        clear O1 O2 O3 O4 h1 h2 h3 h4 hkn e hln hp hq hr'
        go_wp2_with fail
        refine (of_i Aa n1 ca (pa l) _ R1.out (by unfold maxLen; omega)).mono ?_
        rintro e w1 ⟨rfl, hb1⟩
        rw [HP.out]
        have R2a := Lib.hid (R2.out.below hb1)
        have R3a := Lib.hid (R3.out.below hb1)
        have R4a := Lib.hid (R4.out.below hb1)
        go_wp2_with fail
        refine (of_i Ab n2 cb (pb l) _ R2a.out (by unfold maxLen; omega)).mono ?_
        rintro e w2 ⟨rfl, hb2⟩
        rw [HQ.out]
        have R3b := Lib.hid (R3a.out.below hb2)
        have R4b := Lib.hid (R4a.out.below hb2)
        go_wp2_with fail
        refine (of_i Ac n3 cc (pc l) _ R3b.out (by unfold maxLen; omega)).mono ?_
        rintro e w3 ⟨rfl, hb3⟩
        rw [HR.out]
        have R4c := Lib.hid (R4b.out.below hb3)
        go_wp2_with fail
        refine (of_i Ad n4 cd (pd l) _ R4c.out (by unfold maxLen; omega)).mono ?_
        rintro e w4 ⟨rfl, hb4⟩
        rw [← HON.out]
        go_wp2_with (go_at_call 9; refine (SumA.awake _).mono ?_; rintro e w9 ⟨rfl, hb9⟩)
        go_ret
        exact ⟨rfl, Sq.join (Sq.join (Sq.join (Sq.join (joinB (Nat.le_refl _) hb hb1) hb2) hb3) hb4) hb9⟩
end Go.Proofs.Ytjfllfikeopgnaa.SumT
