/- Short is the first nine bytes and cuts no more; a shortened word of a line is a dictionary word, or begins with a dash or an apostrophe, or is a sign. Conditions: none beyond what every reading of the arguments gives. -/
import Derived.Test.YthnkfaddjenbhaaLetA
import Derived.Test.YthnkfaddjenbhaaLetG
import Derived.Test.YthnkfaddjenbhaaLaw
namespace Go.Proofs.Ythnkfaddjenbhaa.letterShort
open Go.ChangeShapes Go.WideShapes Go.ChangeAt Go.RowKit
open Go.ChangeMaps (open_string)
open LetP Byt LetW LetX LetY LetZ LetQ Strs LetV LetU LetS

set_option maxRecDepth 100000 in
set_option maxHeartbeats 1000000 in
theorem walk (s : ByteArray) (w : World) :
    Calls Try.prog 4 #[.string s] w fun e w' => e = .returned (.bool true) ∧ Below w.heap.size w w' := by
  by_cases hl : s.size ≤ 2000
  · have hlt : ¬ (2000 : Int) < (s.size : Int) := by omega
    have hs : s.size ≤ 1073741824 := by omega
    have hs' : s.size ≤ 1099511627776 := by omega
    have H1 := Lib.hid (show short (bs (str (short (bs s)))) = short (bs s) by show short (short (bs s)) = _; unfold short; rw [List.take_take]; rfl)
    have z1 : (str (short (bs s))).size ≤ 1099511627776 := by rw [str_size]; unfold short; have := List.length_take_le 9 (bs s); omega
    go_enter Try.func4, Try.ntmps4
    go_wp2_with (first
      | ((go_at_call 13; with_reducible refine (LetZ.short_i s (by omega) _).mono ?_); rintro e w' ⟨rfl, rfl⟩)
      | ((go_at_call 14; with_reducible refine (LetZ.short_r s (by omega) _).mono ?_); rintro e w' ⟨rfl, rfl⟩)
      | (((go_at_call 13; with_reducible refine (LetZ.short_i (str (short (bs s))) z1 _).mono ?_); rintro e w' ⟨rfl, rfl⟩); rw [H1.out]))
    refine (words_i s hs _).mono ?_
    rintro e w1 ⟨v, rfl, hown, hb1⟩
    have hr := hown.reads
    clear hown
    obtain ⟨a, cap, n, rfl, hn, hm⟩ := Reads.shape hr
    unfold maxLen at hm
    have HGOOD := Lib.hid (LetG.good_words (bs s))
    rcases hr with ⟨h1, he⟩ | ⟨ba, oa, ca', h1, _, _, hba, hca⟩
    · have h0 : n = 0 := by rw [hn, he]; rfl
      subst h0
      clear hn he
      injection h1 with e1 e2 e3
      subst e1 e3
      go_wp2_with fail
      go_loopw [26] (fun i wr => i = .int .i64 0 ∧ wr = w1) (fun i _ => 0 - (intOf i).toNat)
      case atStart => exact ⟨rfl, rfl⟩
      case round =>
        obtain ⟨rfl, rfl⟩ := hrel
        go_wp2_with (first | (go_at_call 8; go_call (LetA.awake _) as e w9 ⟨rfl, hb9⟩))
        go_ret
        exact ⟨rfl, join hb1 hb9⟩
    · injection h1 with e1 e2 e3
      subst e1
      have HA := Lib.hid hca
      have HNA := Lib.hid hn
      clear hca hn e2 e3
      go_wp2_with fail
      go_loopw [26] (fun i wr => ∃ k : Nat, k ≤ n ∧ i = .int .i64 (k : Int) ∧ Below w1.heap.size w1 wr) (fun i _ => n - (intOf i).toNat)
      case atStart => exact ⟨0, Nat.zero_le _, rfl, by go_grown⟩
      case round =>
        obtain ⟨k, hk, rfl, hbr⟩ := hrel
        by_cases hlt : k < n
        · have hmem : (words (bs s)).getD k [] ∈ words (bs s) := by
            have hl' : k < (words (bs s)).length := by rw [← HNA.out]; exact hlt
            rw [List.getD_eq_getElem?_getD, List.getElem?_eq_getElem hl']; exact List.getElem_mem hl'
          have hg := HGOOD.out _ hmem
          have hlen := LetG.len_words (bs s) _ hmem
          rw [len_bytes] at hlen
          have c1 : wr.cell? ⟨ba, oa + k, none⟩ = some (.string (str ((words (bs s)).getD k []))) := by rw [bcell hbr _ _ hba]; exact HA.out k (by rw [← HNA.out]; exact hlt)
          obtain ⟨x, hx⟩ : ∃ x, (words (bs s)).getD k [] = x := ⟨_, rfl⟩
          rw [hx] at c1 hg hlen
          clear hx hmem
          have k0 : (0 : Int) ≤ (k : Int) := by omega
          have k1 : (k : Int) < (n : Int) := by omega
          rcases hg with rfl | rfl | ⟨b, t, rfl, hbt⟩
          · rw [show str [46] = (⟨#[46]⟩ : ByteArray) from rfl] at c1
            go_wp2_with fail
            go_roundw
            case rel => exact ⟨k + 1, by omega, by go_num, hbr⟩
            case measure => simp [intOf]; omega
          · rw [show str [44] = (⟨#[44]⟩ : ByteArray) from rfl] at c1
            go_wp2_with fail
            go_roundw
            case rel => exact ⟨k + 1, by omega, by go_num, hbr⟩
            case measure => simp [intOf]; omega
          · have d0 : ¬ (str (b :: t)).toList = [] := by rw [ByteArray.toList_eq]; exact List.cons_ne_nil _ _
            have d1 : (str (b :: t)).toList.isEmpty = false := by rw [ByteArray.toList_eq]; rfl
            have hxs : (str (b :: t)).size ≤ 1099511627776 := by rw [str_size]; omega
            have hxw : (str (short (bs (str (b :: t))))).size ≤ 1099511627776 := by rw [str_size]; unfold short; have := List.length_take_le 9 (bs (str (b :: t))); omega
            have hz : 0 < (str (b :: t)).size := by rw [str_size]; exact Nat.succ_pos _
            have h0 : (str (b :: t))[0] = b := rfl
            by_cases q1 : code b = 45
            · have d2 : (((str (b :: t))[0].toNat : Nat) : Int) = 45 := by rw [h0]; exact q1
              clear h0
              go_wp2_with fail
              all_goals go_roundw
              all_goals first | exact ⟨k + 1, by omega, by go_num, hbr⟩ | (simp [intOf]; omega)
            · have d2 : ¬ (((str (b :: t))[0].toNat : Nat) : Int) = 45 := by rw [h0]; exact q1
              by_cases q2 : code b = 39
              · have d3 : (((str (b :: t))[0].toNat : Nat) : Int) = 39 := by rw [h0]; exact q2
                clear h0
                go_wp2_with fail
                all_goals go_roundw
                all_goals first | exact ⟨k + 1, by omega, by go_num, hbr⟩ | (simp [intOf]; omega)
              · have d3 : ¬ (((str (b :: t))[0].toNat : Nat) : Int) = 39 := by rw [h0]; exact q2
                have HI := Lib.hid (show isWord (bs (str (short (bs (str (b :: t)))))) = true from (hbt.resolve_left q1).resolve_left q2)
                clear h0 hbt q1 q2
                go_wp2_with (first | ((go_at_call 13; with_reducible refine (LetZ.short_i _ hxs _).mono ?_); rintro e w' ⟨rfl, rfl⟩) | (((go_at_call 16; with_reducible refine (LetZ.isWord_i _ hxw _).mono ?_); rintro e w2 ⟨rfl, hb2⟩); rw [HI.out]))
                all_goals go_roundw
                all_goals first | exact ⟨k + 1, by omega, by go_num, hbr⟩ | exact ⟨k + 1, by omega, by go_num, join hbr hb2⟩ | (simp [intOf]; omega)
        · have hkn : k = n := by omega
          have HK := Lib.hid hkn
          clear hkn
          go_wp2_with (first | (go_at_call 8; go_call (LetA.awake _) as e w9 ⟨rfl, hb9⟩))
          go_ret
          exact ⟨rfl, join (join hb1 hbr) hb9⟩
  · have hlt : (2000 : Int) < (s.size : Int) := by omega
    go_enter Try.func4, Try.ntmps4
    go_wp2_with (go_at_call 8; go_call (LetA.awake _) as e w9 ⟨rfl, hb9⟩)
    go_ret
    exact ⟨rfl, hb9⟩

theorem own : ownKnob Try.prog.godebug = none := by kernel_rfl

set_option maxRecDepth 100000 in
theorem lifted (os : Os) (started : os.Started) (H : Type) (enc : TypeId × Value → H) :
    ReturnsInHanded {} Try.checked os 4 .any (Rows.letterShortSpec.pre6 enc Try.prog Try.f4 Rows.letterShortRow.domain false) (Rows.letterShortSpec.post enc Try.prog Try.f4 false true false false) := by
  refine returnsInHanded_of_change (C := Try.checked) own started (by kernel_rfl) Try.func4
    (ChangeSpec.witness6 (enc := enc) (C := Try.checked) false ⟨#[], #[.string ⟨#[]⟩], []⟩ 8 (by kernel_rfl) (by kernel_rfl) (by kernel_rfl) (by kernel_rfl)) ?_
  intro W base args ds gs before hval0 hW hcnd _
  have hval : ∀ (j : Nat) t v, Try.f4.params[j]? = some t → args[j]? = some v → Value.okWide Try.prog W .any base t v := hval0
  have hW' := hW
  obtain ⟨p, q, hA0, hV, rfl, hfz, hnd⟩ := hW
  have hA : DataW.TrodAll enc Try.prog W 0 (fun _ => true) true Try.f4.params.toList args.toList ds p := hA0
  rw [Try.params4] at hA hval
  obtain ⟨v0, vs0, d0, ds0, p0, q0, hargs, rfl, rfl, h0, r0⟩ := trodAll_cons hA
  obtain ⟨rfl, rfl, rfl⟩ := trodAll_nil r0
  obtain rfl : args = #[v0] := by cases args; simp_all
  clear hV
  obtain ⟨s0, rfl, rfl, rfl, hs0⟩ := open_string Try.underlying9 (hval 0 9 v0 rfl rfl) h0
  clear hA0 hval0
  refine (walk s0 W).mono fun e W' ⟨he, hg⟩ => ?_
  subst he
  exact ⟨_, rfl, Law.post (by kernel_rfl) (by kernel_rfl) Try.underlying4 rfl rfl hW' hg ⟨rfl, rfl, rfl⟩⟩

theorem over : Rows.letterShortRow.holds Try.pinned (OpenSpec.ofChange Rows.letterShortSpec) :=
  OpenClaim.holds_of_wide 4 Try.f4 rfl rfl rfl rfl rfl rfl rfl ⟨rfl, rfl, rfl, rfl, rfl⟩ rfl rfl rfl rfl rfl (by kernel_rfl) Try.func4 (by kernel_rfl)
    (of_decide_eq_true (by kernel_rfl)) (by unfold Func.isWrapper; first | (rw [if_pos (by decide +kernel)]; kernel_rfl) | (rw [if_neg (by decide +kernel)]; exact ⟨rfl, rfl⟩))
    (fun os started H enc _ => lifted os started H enc)

/-- The statement. -/
theorem proved : Rows.LetterShortSaid := over
#print axioms proved
end Go.Proofs.Ythnkfaddjenbhaa.letterShort
