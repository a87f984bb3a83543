/- The walk of the rules' order by the program. -/
import Derived.Test.YtpbhlphemkdljaaRuleX
namespace Go.Proofs.Ytpbhlphemkdljaa.RuleO
open Go Go.RowKit RuleP RuleW Ints RuleX

def CmdAt (w : World) (g : Nat) (c : Cmd) : Prop :=
  w.cell? ⟨g, 0, none⟩ = some (.int .i64 c.verb) ∧ w.cell? ⟨g, 1, none⟩ = some (.int .i64 c.noun) ∧ w.cell? ⟨g, 2, none⟩ = some (.int .i64 c.second) ∧ w.cell? ⟨g, 3, none⟩ = some (.int .i64 c.number) ∧ w.cell? ⟨g, 4, none⟩ = some (.int .i64 c.dir)
theorem CmdAt.below {w w' : World} {B g : Nat} {c : Cmd} (h : CmdAt w g c) (hg : g < B) (hb : Below B w w') : CmdAt w' g c := by
  have hk := fun o => bcell hb g o hg
  obtain ⟨h0, h1, h2, h3, h4⟩ := h
  exact ⟨by rw [hk]; exact h0, by rw [hk]; exact h1, by rw [hk]; exact h2, by rw [hk]; exact h3, by rw [hk]; exact h4⟩

set_option maxRecDepth 100000 in
theorem order_i (v0 v1 v2 v3 v4 v5 v6 v7 v8 v9 v11 v12 v13 v14 : Value) (b off cap : Nat) (ds : List Deed) (phase : Int) (c : Cmd) (w : World)
    (hb : b < w.heap.size) (hlen : ds.length ≤ 600) (hds : ∀ i d, ds[i]? = some d → DeedAt w b (off + i * 6) d) :
    Calls Try.prog 13 #[.agg #[v0, v1, v2, v3, v4, v5, v6, v7, v8, v9, .slice (some ⟨b, off, none⟩) ds.length cap, v11, v12, v13, v14], .int .i64 phase,
      .agg #[.int .i64 c.verb, .int .i64 c.noun, .int .i64 c.second, .int .i64 c.number, .int .i64 c.dir]] w fun r w' =>
      ∃ v', r = .returned v' ∧ Own w' w.heap.size v' (ns (orderTo ds phase c ds.length)) ∧ Below w.heap.size w w' := by
  have HDS := Lib.hid hds
  clear hds
  go_enter Try.func13, Try.ntmps13
  go_wp2_with fail
  go_loopw [7, 13] (fun v i wr => ∃ k : Nat, k ≤ ds.length ∧ i = .int .i64 (k : Int) ∧ Own wr (w.heap.size + 2) v (ns (orderTo ds phase c k)) ∧ Tab wr (w.heap.size + 2) w.heap.size b off cap ds ∧ CmdAt wr (w.heap.size + 1) c ∧ Below w.heap.size w wr) (fun _ i _ => ds.length - (intOf i).toNat)
  case atStart =>
    have hbl : Below w.heap.size w ((w.alloc (Obj.cells #[v0, v1, v2, v3, v4, v5, v6, v7, v8, v9, .slice (some ⟨b, off, none⟩) ds.length cap, v11, v12, v13, v14] 35)).alloc (Obj.cells #[.int .i64 c.verb, .int .i64 c.noun, .int .i64 c.second, .int .i64 c.number, .int .i64 c.dir] 25)) := by go_grown
    refine ⟨0, Nat.zero_le _, rfl, own_nil _ _, ⟨by omega, by omega, by simp, ?_, fun i d hi => ?_⟩, ⟨?_, ?_, ?_, ?_, ?_⟩, hbl⟩
    · go_cell
    · obtain ⟨h0, h1, h2, h3, h4, h5⟩ := HDS.out i d hi
      have hk := fun o => bcell hbl b o hb
      exact ⟨by rw [hk]; exact h0, by rw [hk]; exact h1, by rw [hk]; exact h2, by rw [hk]; exact h3, by rw [hk]; exact h4, by rw [hk]; exact h5⟩
    all_goals go_cell
  case round =>
    obtain ⟨k, hk, rfl, hown, htab, hcmd, hbw⟩ := hrel
    have HO := Lib.hid hown
    have HT := Lib.hid htab
    have HC := Lib.hid hcmd
    clear hown htab
    by_cases hlt : k < ds.length
    · have hd := HT.out.deeds k ds[k] (List.getElem?_eq_getElem hlt)
      obtain ⟨d, hdk⟩ : ∃ d, ds[k]? = some d := ⟨_, List.getElem?_eq_getElem hlt⟩
      have hd := HT.out.deeds k d hdk
      have HK := Lib.hid hdk
      clear hdk
      obtain ⟨x0, x1, x2, x3, x4, x5⟩ := hd
      obtain ⟨y0, y1, y2, y3, y4⟩ := hcmd
      have hsz : w.heap.size + 2 ≤ wr.heap.size := HT.out.hB
      have hne0 : ¬ w.heap.size = wr.heap.size := by omega
      have hne1 : ¬ w.heap.size + 1 = wr.heap.size := by omega
      have hlt0 : w.heap.size < wr.heap.size := by omega
      have hlt1 : w.heap.size + 1 < wr.heap.size := by omega
      have hl6 := orderTo_length ds phase c k
      have HL := Lib.hid (orderTo_lt ds phase c k)
      by_cases hf : fits d phase c = true
      · go_wp2_with (go_at_call 7; go_call (fits_i d phase c _) as r w3 ⟨rfl, hb3⟩)
        have hb' : Below wr.heap.size wr w3 := joinB (Nat.le_refl _) (by go_grown) hb3
        refine (put_i (w.heap.size + 2) w.heap.size b off cap ds (orderTo ds phase c k) k _ _ (HT.out.below (hb'.mono hsz)) (HO.out.below hb') (fun y hy => by have := HL.out y hy; omega) hlt (by omega)).mono ?_
        rintro r w4 ⟨v', rfl, hown4, hb4⟩
        have HO4 := Lib.hid hown4
        have hb5 : Below (w.heap.size + 2) wr w4 := (hb'.mono hsz).trans hb4
        clear hown4
        go_wp2_with fail
        go_roundw
        case rel => exact ⟨k + 1, hlt, by go_num, by rw [orderTo_yes HK.out hf]; exact HO4.out, HT.out.below hb5, HC.out.below (by omega) hb5, hbw.trans (hb5.mono (by omega))⟩
        case measure => simp [intOf]; omega
      · have hf' : fits d phase c = false := by simpa using hf
        clear hf
        go_wp2_with (go_at_call 7; go_call (fits_i d phase c _) as r w3 ⟨rfl, hb3⟩)
        have hb' : Below wr.heap.size wr w3 := joinB (Nat.le_refl _) (by go_grown) hb3
        have hb5 : Below (w.heap.size + 2) wr w3 := hb'.mono hsz
        go_roundw
        case rel => exact ⟨k + 1, hlt, by go_num, by rw [orderTo_no HK.out hf']; exact HO.out.below hb', HT.out.below hb5, HC.out.below (by omega) hb5, hbw.trans (hb5.mono (by omega))⟩
        case measure => simp [intOf]; omega
    · have hkl : k = ds.length := by omega
      have HKL := Lib.hid hkl
      clear hkl hcmd
      go_wp2
      go_ret
      refine ⟨_, rfl, ?_, hbw⟩
      have h := HO.out
      rw [HKL.out] at h
      exact ⟨h.1, h.2.imp id (fun ⟨g, cap, cur, h1, h2, h3⟩ => ⟨g, cap, cur, h1, by omega, h3⟩)⟩

set_option maxRecDepth 100000 in
theorem order_nil (v0 v1 v2 v3 v4 v5 v6 v7 v8 v9 v11 v12 v13 v14 : Value) (a : Option Addr) (cap : Nat) (phase : Int) (c : Cmd) (w : World) :
    Calls Try.prog 13 #[.agg #[v0, v1, v2, v3, v4, v5, v6, v7, v8, v9, .slice a 0 cap, v11, v12, v13, v14], .int .i64 phase,
      .agg #[.int .i64 c.verb, .int .i64 c.noun, .int .i64 c.second, .int .i64 c.number, .int .i64 c.dir]] w fun r w' =>
      ∃ v', r = .returned v' ∧ Own w' w.heap.size v' (ns (orderTo [] phase c 0)) ∧ Below w.heap.size w w' := by
  go_enter Try.func13, Try.ntmps13
  go_wp2_with fail
  go_rounds 1
  go_ret
  exact ⟨_, rfl, own_nil _ _, by go_grown⟩
end Go.Proofs.Ytpbhlphemkdljaa.RuleO
