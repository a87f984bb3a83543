/- bind.Block: statements bound in the program's way. Conditions: the names rise; lengths and sizes within the reach. -/
import Derived.Test.YteibcfpepdbflaaBindQ
namespace Go.Proofs.Yteibcfpepdbflaa.BindA
open Go Go.RowKit BindP BindD BindO BindW BindN BindG BindX BindB BindS BindK BindT BindQ
open Byt (str)

def StV (p : List Ps) (w : World) (e : Ending) (w' : World) : Prop := ∃ (A : Option Addr) (c : Nat) (l : List St), e = .returned (.slice A l.length c) ∧ stPs l = p ∧ Ls (fun b => w.heap.size ≤ b) w' A c l ∧ Below w.heap.size w w'
set_option maxRecDepth 100000 in
theorem block_i (t : List Nm) (hu : Up t) (tx lo : List S) (A1 A2 A3 A : Option Addr) (n1 c1 n2 c2 n3 c3 c : Nat) (l : List St) (w : World) (henv : Env w A1 n1 t A2 n2 tx A3 n3 lo) (hl : Ls top w A c l) (hn : nB (stPs l) ≤ 1048576) (hsz : lo.length + 2 * nB (stPs l) ≤ 4194304) :
    Calls Try.prog 13 #[.slice A1 n1 c1, .slice A2 n2 c2, .slice A3 n3 c3, .slice A l.length c] w (StV (rowI t tx lo (stPs l)).1 w) := by
  have HEN := Lib.hid henv
  have HL := Lib.hid hl
  have HZ := Lib.hid (And.intro hn hsz)
  have HU := Lib.hid hu
  have HLN := Lib.hid (show n3 = lo.length from henv.l.len)
  clear henv hl hn hsz hu
  go_enter Try.func13, Try.ntmps13
  go_wp2_with (at_builtin; refine Sq.wpList_append elS rfl _ _ rfl rfl (Sq.own_nil w w.heap.size) A3 n3 c3 lo rfl HEN.out.l (by have h1 := HLN.out; have h2 := HZ.out.2; unfold maxLen; simp; omega) (by have h1 := HLN.out; have h2 := HZ.out.2; simp; omega) (Nat.le_refl _) ?_; intro v1 w1 ho hb _ _; rw [List.nil_append] at ho; obtain ⟨Av, cv, rfl, _, _⟩ := ho.shape; have HO := Lib.hid ho; have HB := Lib.hid hb; clear ho hb)
  have HB2 := Lib.hid (made (rfl : w1.alloc (.cells #[.slice A1 n1 c1, .slice A2 n2 c2, .slice Av lo.length cv] 101) = w1.alloc (.cells #[.slice A1 n1 c1, .slice A2 n2 c2, .slice Av lo.length cv] 101)))
  have HBW := Lib.hid (HB.out.trans (HB2.out.2.2.mono HB.out.size))
  have HBN := Lib.hid (show Bn w1.heap.size w.heap.size (.slice A1 n1 c1) (.slice A2 n2 c2) (w1.alloc (.cells #[.slice A1 n1 c1, .slice A2 n2 c2, .slice Av lo.length cv] 101)) (.slice Av lo.length cv) lo from
    ⟨HB2.out.1, HO.out.below HB2.out.2.2, fun c => by have := (World.ownsRow.lt HO.out _ c).2; omega, HB.out.size, by have := HB2.out.2.1; omega⟩)
  refine (row_w t HU.out tx w1.heap.size w A1 A2 n1 c1 n2 c2 HEN.out.t HEN.out.x HEN.out.n1 HEN.out.n2 _ l (Nat.le_refl _) A c _ (.slice Av lo.length cv) lo HBN.out HBW.out HL.out HZ.out.1 HZ.out.2).mono ?_
  rintro e w3 ⟨lv', A', c', l', rfl, hp, hb, hst, hls⟩
  have HP := Lib.hid hp
  have HST := Lib.hid hst
  have HLS := Lib.hid hls
  clear hp hb hst hls
  go_wp2_with fail
  go_ret
  have hs := HBW.out.size
  refine ⟨A', c', l', rfl, HP.out, HLS.out.keep stays_s (Keep.weak fun b hb _ => by have := hb.1; omega), HBW.out.trans (HST.out.low HB.out.size (fun b e => (World.ownsRow.lt HO.out b e).1) hs)⟩
end Go.Proofs.Yteibcfpepdbflaa.BindA
