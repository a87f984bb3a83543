/- nest.leave: what is laid beside it. Conditions: the world reads, and things are within things as they must be. -/
import Derived.Test.YtncdicagadbafaaCopW
namespace Go.Proofs.Ytncdicagadbafaa.LvP
open Go Go.RowKit NestP NestW NestX NestY ValP ValW ValX ValR Sq Rng RngU RngT RngC RngD RgIn WorldD CopP CopW MoveP
attribute [local go_sem] Oper.semAt_some

theorem own_cell {w : World} {B g1 n d : Nat} {l : List Int} (h : Sq.Own I 3 w B (.slice (some ⟨g1, 0, none⟩) n d) l) {i : Nat} (hi : i < n) : w.cell? ⟨g1, i, none⟩ = some (.int .i64 (at' l (i : Int))) := by
  obtain ⟨g', hg', _, _, hc, _⟩ := h.at_ (by omega)
  injection hg' with hg'
  injection hg' with hg'
  subst hg'
  have hl : i < l.length := by have := h.rd.len; omega
  rw [hc i hl]
  unfold at' I
  rw [if_pos (by omega), List.getD_eq_getElem?_getD, Int.toNat_natCast, List.getElem?_eq_getElem hl]
  rfl
theorem own_frozen {w : World} {B g1 n d : Nat} {l : List Int} (h : Sq.Own I 3 w B (.slice (some ⟨g1, 0, none⟩) n d) l) (hn : 0 < n) : ∀ k, w.frozen? ⟨g1, k, none⟩ = false := by
  obtain ⟨g', hg', _, _, _, hz⟩ := h.at_ hn
  injection hg' with hg'
  injection hg' with hg'
  subst hg'
  exact hz
theorem first_none {g : Wd} (hG : NestP.Good g) {x : Int} (hx : isT g.n x = true) (hf : at' g.ch (at' g.pa x) = x) : MoveP.ahead g x = none := by
  have hx' := isT_iff.1 hx
  have hup : isT g.n (at' g.pa x) = true := by
    rcases hG.par x hx'.1 hx'.2 with h | h
    · rw [h, hG.ch0] at hf; omega
    · exact isT_iff.2 h
  have hp := good_path hG hup
  rw [hf] at hp
  unfold MoveP.ahead
  rw [List.find?_eq_none]
  intro c hc h
  have hcx : at' g.ne c = x := by simpa using h
  have hnd := hG.kids_nodup (at' g.pa x)
  cases hk : kids g (at' g.pa x) with
  | nil => rw [hk] at hc; simp at hc
  | cons e L =>
    rw [hk] at hp hc hnd
    obtain ⟨rfl, hp'⟩ := hp
    rcases path_tail (show path (at' g.ne) x (x :: L) from ⟨rfl, hp'⟩) c hc with h0 | h0
    · omega
    · rw [hcx] at h0
      exact (List.nodup_cons.1 hnd).1 h0
theorem top_none {g : Wd} {x : Int} (h0 : at' g.pa x = 0) : MoveP.ahead g x = none := by
  unfold MoveP.ahead
  rw [h0, List.find?_eq_none]
  intro c hc
  unfold kids at hc
  rw [if_neg (by unfold isT; simp)] at hc
  simp at hc

end Go.Proofs.Ytncdicagadbafaa.LvP
