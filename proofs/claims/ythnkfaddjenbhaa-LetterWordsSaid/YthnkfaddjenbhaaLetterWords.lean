/- The words of a line are the specified ones, and are the same when they are joined with blanks. Conditions: none beyond what every reading of the arguments gives. -/
import Derived.Test.YthnkfaddjenbhaaLetA
import Derived.Test.YthnkfaddjenbhaaLetM
import Derived.Test.YthnkfaddjenbhaaLaw
namespace Go.Proofs.Ythnkfaddjenbhaa.letterWords
open Go.ChangeShapes Go.WideShapes Go.ChangeAt Go.RowKit
open Go.ChangeMaps (open_string)
open LetP Byt LetW LetX LetY LetZ LetQ Strs LetV LetU LetS LetJ LetK LetL LetM

set_option maxRecDepth 100000 in
set_option maxHeartbeats 1000000 in
theorem walk (s : ByteArray) {w : World} :
    Calls Try.prog 6 #[.string s] w fun e w' => e = .returned (.bool true) ∧ Below w.heap.size w w' := by
  by_cases hl : s.size ≤ 2000
  · have hlt : ¬ (2000 : Int) < (s.size : Int) := by omega
    have hs : s.size ≤ 1073741824 := by omega
    have hg := glue_words_len (bs s)
    have hgl := glue_len [32] (words (bs s))
    have hfs := flat_scan (bs s) []
    have hz : s.size = (bs s).length := rfl
    have HJ := Lib.hid (show (words (bs s)).flatten.length + (words (bs s)).length * [(32 : UInt8)].length ≤ 1099511627776 by
      simp only [List.length_cons, List.length_nil] at hfs ⊢
      unfold words at *
      omega)
    have HG := Lib.hid (show (str (glue [32] (words (bs s)))).size ≤ 1073741824 by rw [LetK.size_str]; omega)
    have HW := Lib.hid (show words (bs (str (glue [32] (words (bs s))))) = words (bs s) from words_glue (bs s))
    clear hg hgl hfs hz
    go_enter Try.func6, Try.ntmps6
    go_wp2_with fail
    refine (words_i s hs _).mono ?_
    rintro e w1 ⟨v, rfl, hown, hb1⟩
    have HR1 := Lib.hid hown.reads
    clear hown
    go_wp2_with fail
    refine (words_r s hs _).mono ?_
    rintro e w2 ⟨v2, rfl, hown, hb2⟩
    have HR2 := Lib.hid hown.reads
    clear hown
    have HR12 := Lib.hid (HR1.out.below hb2)
    go_wp2_with fail
    refine (same_r v v2 _ _ _ HR12.out HR2.out).mono ?_
    rintro e w3 ⟨rfl, hb3⟩
    have HR13 := Lib.hid (HR12.out.below hb3)
    go_wp2_with fail
    refine (join_i v _ [32] _ HR13.out HJ.out).mono ?_
    rintro e w4 ⟨rfl, hb4⟩
    have HR14 := Lib.hid (HR13.out.below hb4)
    go_wp2_with fail
    refine (words_i (str (glue [32] (words (bs s)))) HG.out _).mono ?_
    rintro e w5 ⟨v5, rfl, hown, hb5⟩
    have HR5 := Lib.hid (HW.out ▸ hown.reads)
    clear hown
    have HR15 := Lib.hid (HR14.out.below hb5)
    go_wp2_with fail
    refine (same_r v5 v _ _ _ HR5.out HR15.out).mono ?_
    rintro e w6 ⟨rfl, hb6⟩
    go_wp2_with (go_at_call 8; go_call (LetA.awake _) as e w9 ⟨rfl, hb9⟩)
    go_ret
    exact ⟨rfl, Byt.join (Byt.join (Byt.join (Byt.join (Byt.join (Byt.join hb1 hb2) hb3) hb4) hb5) hb6) hb9⟩
  · have hlt : (2000 : Int) < (s.size : Int) := by omega
    go_enter Try.func6, Try.ntmps6
    go_wp2_with (go_at_call 8; go_call (LetA.awake _) as e w9 ⟨rfl, hb9⟩)
    go_ret
    exact ⟨rfl, hb9⟩

theorem own : ownKnob Try.prog.godebug = none := by kernel_rfl

set_option maxRecDepth 100000 in
theorem lifted (os : Os) (started : os.Started) (H : Type) (enc : TypeId × Value → H) :
    ReturnsInHanded {} Try.checked os 6 .any (Rows.letterWordsSpec.pre6 enc Try.prog Try.f6 Rows.letterWordsRow.domain false) (Rows.letterWordsSpec.post enc Try.prog Try.f6 false true false false) := by
  refine returnsInHanded_of_change (C := Try.checked) own started (by kernel_rfl) Try.func6
    (ChangeSpec.witness6 (enc := enc) (C := Try.checked) false ⟨#[], #[.string ⟨#[]⟩], []⟩ 8 (by kernel_rfl) (by kernel_rfl) (by kernel_rfl) (by kernel_rfl)) ?_
  intro W base args ds gs before hval0 hW hcnd _
  have hval : ∀ (j : Nat) t v, Try.f6.params[j]? = some t → args[j]? = some v → Value.okWide Try.prog W .any base t v := hval0
  have hW' := hW
  obtain ⟨p, q, hA0, hV, rfl, hfz, hnd⟩ := hW
  have hA : DataW.TrodAll enc Try.prog W 0 (fun _ => true) true Try.f6.params.toList args.toList ds p := hA0
  rw [Try.params6] at hA hval
  obtain ⟨v0, vs0, d0, ds0, p0, q0, hargs, rfl, rfl, h0, r0⟩ := trodAll_cons hA
  obtain ⟨rfl, rfl, rfl⟩ := trodAll_nil r0
  obtain rfl : args = #[v0] := by cases args; simp_all
  clear hV
  obtain ⟨s0, rfl, rfl, rfl, hs0⟩ := open_string Try.underlying9 (hval 0 9 v0 rfl rfl) h0
  clear hA0 hval0
  refine (walk (w := W) s0).mono fun e W' ⟨he, hg⟩ => ?_
  subst he
  exact ⟨_, rfl, Law.post (by kernel_rfl) (by kernel_rfl) Try.underlying4 rfl rfl hW' hg ⟨rfl, rfl, rfl⟩⟩

theorem over : Rows.letterWordsRow.holds Try.pinned (OpenSpec.ofChange Rows.letterWordsSpec) :=
  OpenClaim.holds_of_wide 6 Try.f6 rfl rfl rfl rfl rfl rfl rfl ⟨rfl, rfl, rfl, rfl, rfl⟩ rfl rfl rfl rfl rfl (by kernel_rfl) Try.func6 (by kernel_rfl)
    (of_decide_eq_true (by kernel_rfl)) (by unfold Func.isWrapper; first | (rw [if_pos (by decide +kernel)]; kernel_rfl) | (rw [if_neg (by decide +kernel)]; exact ⟨rfl, rfl⟩))
    (fun os started H enc _ => lifted os started H enc)

/-- The statement. -/
theorem proved : Rows.LetterWordsSaid := over
#print axioms proved
end Go.Proofs.Ythnkfaddjenbhaa.letterWords
