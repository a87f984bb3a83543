/- clewref17.said: the texts that statements say, each once. Conditions: sizes within the reach. -/
import Derived.Test.YteibcfpepdbflaaBindI
import Derived.Test.YteibcfpepdbflaaBindT
namespace Go.Proofs.Yteibcfpepdbflaa.BindJ
open Go Go.RowKit BindP BindD BindO BindW BindS BindX BindT BindI
open Byt (str)

theorem said_app : ∀ (l1 l2 : List Ps), said (l1 ++ l2) = said l1 ++ said l2
  | [], l2 => by simp [said]
  | a :: l1, l2 => by simp only [List.cons_append, said, said_app l1 l2, List.append_assoc]
theorem said_take {l : List St} {j : Nat} (h : j < l.length) : said (stPs (l.take (j + 1))) = said (stPs (l.take j)) ++ said1 l[j].p := by
  rw [List.take_succ_eq_append_getElem h, stPs_app, said_app]
  simp only [stPs, said, List.append_nil]
theorem saidA_len (l : List Pe) : (saidA l).length ≤ l.length := by unfold saidA; exact List.length_filterMap_le ..
theorem said_le : (∀ p : Ps, (said1 p).length ≤ nS p) ∧ ∀ l : List Ps, (said l).length ≤ nB l := by
  have hA : ∀ l : List Pe, (saidA l).length ≤ nEs l := fun l => Nat.le_trans (saidA_len l) (by
    induction l with
    | nil => simp
    | cons a l ih => have := nE_pos a; simp only [List.length_cons, nEs]; omega)
  have h : ∀ N : Nat, (∀ p : Ps, nS p ≤ N → (said1 p).length ≤ nS p) ∧ ∀ l : List Ps, nB l ≤ N → (said l).length ≤ nB l := by
    intro N
    induction N with
    | zero => exact ⟨fun p hp => by cases p; unfold nS at hp; omega, fun l hl => by
        cases l with
        | nil => simp [said]
        | cons a l => cases a; unfold nB nS at hl; omega⟩
    | succ N ih =>
      have h1 : ∀ p : Ps, nS p ≤ N + 1 → (said1 p).length ≤ nS p := fun p hp => by
        obtain ⟨k, n, s, ar, b, e⟩ := p
        simp only [nS] at hp ⊢
        simp only [said1, List.length_append]
        have := hA ar
        have hb := ih.2 b (by omega)
        have he := ih.2 e (by omega)
        omega
      refine ⟨h1, fun l => ?_⟩
      induction l with
      | nil => intro _; simp [said]
      | cons a l ihl =>
        intro hl
        simp only [nB] at hl ⊢
        simp only [said, List.length_append]
        have := h1 a (by omega)
        have := ihl (by omega)
        omega
  exact ⟨fun p => (h _).1 p (Nat.le_refl _), fun l => (h _).2 l (Nat.le_refl _)⟩
def SaidC (w0 : World) (l : List St) : Prop := ∀ (A : Option Addr) (c : Nat) (v : Value) (w : World) (out : List S), Sq.Own sv 9 w w0.heap.size v out → Below w0.heap.size w0 w → Ls top w0 A c l → out.length + nB (stPs l) ≤ 4194304 →
  Calls Try.prog 34 #[v, .slice A l.length c] w fun e w' => ∃ v', e = .returned v' ∧ Sq.Own sv 9 w' w0.heap.size v' ((said (stPs l)).foldl wth out) ∧ Below w0.heap.size w w'
end Go.Proofs.Yteibcfpepdbflaa.BindJ
