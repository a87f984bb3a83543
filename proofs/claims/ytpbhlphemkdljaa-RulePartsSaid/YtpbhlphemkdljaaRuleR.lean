/- The walk of the rules' order by the reference. -/
import Derived.Test.YtpbhlphemkdljaaRuleO
import Derived.BigGuard
import Derived.Test.YtpbhlphemkdljaaRegion
namespace Go.Proofs.Ytpbhlphemkdljaa.RuleR
open Go Go.RowKit RuleP RuleW Ints RuleX RuleO

set_option maxRecDepth 100000 in
set_option maxHeartbeats 1000000 in
theorem order_r (v0 v1 v2 v3 v4 v5 v6 v7 v8 v9 v11 v12 v13 v14 : Value) (b off cap : Nat) (ds : List Deed) (phase : Int) (c : Cmd) (w : World)
    (hb : b < w.heap.size) (hlen : ds.length ≤ 600) (hds : ∀ i d, ds[i]? = some d → DeedAt w b (off + i * 6) d) :
    Calls Try.prog 14 #[.agg #[v0, v1, v2, v3, v4, v5, v6, v7, v8, v9, .slice (some ⟨b, off, none⟩) ds.length cap, v11, v12, v13, v14], .int .i64 phase,
      .agg #[.int .i64 c.verb, .int .i64 c.noun, .int .i64 c.second, .int .i64 c.number, .int .i64 c.dir]] w fun r w' =>
      ∃ v', r = .returned v' ∧ Own w' w.heap.size v' (ns (upper ds phase c 4)) ∧ Below w.heap.size w w' := by
  have HDS := Lib.hid hds
  clear hds
  go_enter Try.func14, Try.ntmps14
  go_wp2_with fail
  go_loopw [7, 8] (fun v n wr => ∃ j : Nat, j ≤ 4 ∧ n = .int .i64 (3 - (j : Int)) ∧ Own wr (w.heap.size + 2) v (ns (upper ds phase c j)) ∧ Tab wr (w.heap.size + 2) w.heap.size b off cap ds ∧ CmdAt wr (w.heap.size + 1) c ∧ Below w.heap.size w wr) (fun _ n _ => (intOf n + 1).toNat)
  case atStart =>
    have hbl : Below w.heap.size w ((w.alloc (Obj.cells #[v0, v1, v2, v3, v4, v5, v6, v7, v8, v9, .slice (some ⟨b, off, none⟩) ds.length cap, v11, v12, v13, v14] 35)).alloc (Obj.cells #[.int .i64 c.verb, .int .i64 c.noun, .int .i64 c.second, .int .i64 c.number, .int .i64 c.dir] 25)) := by go_grown
    refine ⟨0, Nat.zero_le _, rfl, own_nil _ _, ⟨by omega, by omega, by simp, ?_, fun i d hi => ?_⟩, ⟨?_, ?_, ?_, ?_, ?_⟩, hbl⟩
    · go_cell
    · obtain ⟨h0, h1, h2, h3, h4, h5⟩ := HDS.out i d hi
      have hk := fun o => bcell hbl b o hb
      exact ⟨by rw [hk]; exact h0, by rw [hk]; exact h1, by rw [hk]; exact h2, by rw [hk]; exact h3, by rw [hk]; exact h4, by rw [hk]; exact h5⟩
    all_goals go_cell
  case round =>
    obtain ⟨wo, rfl⟩ : ∃ wo : World, wo = wr := ⟨_, rfl⟩
    obtain ⟨j, hj, rfl, hown, htab, hcmd, hbw⟩ := hrel
    have HO := Lib.hid hown
    have HT := Lib.hid htab
    have HC := Lib.hid hcmd
    clear hown htab hcmd
    have hul := upper_length ds phase c j
    by_cases hj4 : j = 4
    · have HJ := Lib.hid hj4
      have tn : (3 - (j : Int)) < 0 := by omega
      clear hj4
      go_wp2_with fail
      go_ret
      refine ⟨_, rfl, ?_, hbw⟩
      have h := HO.out
      rw [HJ.out] at h
      exact ⟨h.1, h.2.imp id (fun ⟨g, cap, cur, h1, h2, h3⟩ => ⟨g, cap, cur, h1, by omega, h3⟩)⟩
    · have tn : 0 ≤ (3 - (j : Int)) := by omega
      have hj3 : j ≤ 3 := by omega
      obtain ⟨n, hn⟩ : ∃ n : Int, 3 - (j : Int) = n := ⟨_, rfl⟩
      rw [hn] at tn
      rw [hn]
      have hn3 : n ≤ 3 := by omega
      have HN := Lib.hid hn
      clear hj4 hn
      go_wp2_with fail
      go_loopw [7, 9] (fun v i wr => ∃ k : Nat, k ≤ ds.length ∧ i = .int .i64 (k : Int) ∧ Own wr (w.heap.size + 2) v (ns (upper ds phase c j ++ grp ds phase c n k)) ∧ Tab wr (w.heap.size + 2) w.heap.size b off cap ds ∧ CmdAt wr (w.heap.size + 1) c ∧ Below w.heap.size w wr) (fun _ i _ => ds.length - (intOf i).toNat)
      case atStart =>
        exact ⟨0, Nat.zero_le _, rfl, by rw [show grp ds phase c n 0 = [] from rfl, List.append_nil]; exact HO.out, HT.out, HC.out, hbw⟩
      case round =>
        clear HO HT HC hbw
        obtain ⟨k, hk, rfl, hown, htab, hcmd, hbw⟩ := hrel
        have HO := Lib.hid hown
        have HT := Lib.hid htab
        have HC := Lib.hid hcmd
        have hbox := htab.box
        have hsz : w.heap.size + 2 ≤ wr.heap.size := htab.hB
        have hbwr : b < wr.heap.size := by have := htab.hb; omega
        clear hown htab
        have hg := grp_length ds phase c n k
        by_cases hlt : k < ds.length
        · obtain ⟨d, hdk⟩ : ∃ d, ds[k]? = some d := ⟨_, List.getElem?_eq_getElem hlt⟩
          have hd := HT.out.deeds k d hdk
          have HK := Lib.hid hdk
          clear hdk
          obtain ⟨x0, x1, x2, x3, x4, x5⟩ := hd
          obtain ⟨y0, y1, y2, y3, y4⟩ := hcmd
          have hlt0 : w.heap.size < wr.heap.size := by omega
          have hlt1 : w.heap.size + 1 < wr.heap.size := by omega
          have k0 : (0 : Int) ≤ (k : Int) := by omega
          have k1 : (k : Int) < (ds.length : Int) := by omega
          by_cases hr : rank d = n
          · have hrb : (rank d == n) = true := beq_iff_eq.2 hr
            have HR := Lib.hid hr
            clear hr
            by_cases hf : fits d phase c = true
            · go_wp2_with fail
              go_region_held3 (fun w' => w'.cell? ⟨w.heap.size, 10, none⟩ = some (.slice (some ⟨b, off, none⟩) ds.length cap) ∧ w'.cell? ⟨b, off + k * 6, none⟩ = some (.int .i64 d.verb) ∧ w'.cell? ⟨b, off + k * 6 + 1, none⟩ = some (.int .i64 d.phase) ∧ w'.cell? ⟨b, off + k * 6 + 2, none⟩ = some (.int .i64 d.noun) ∧ w'.cell? ⟨b, off + k * 6 + 3, none⟩ = some (.int .i64 d.second) ∧ w'.cell? ⟨b, off + k * 6 + 4, none⟩ = some (.int .i64 d.onlyIf) ∧ w'.cell? ⟨b, off + k * 6 + 5, none⟩ = some (.int .i64 d.body) ∧ w'.cell? ⟨w.heap.size + 1, 0, none⟩ = some (.int .i64 c.verb) ∧ w'.cell? ⟨w.heap.size + 1, 1, none⟩ = some (.int .i64 c.noun) ∧ w'.cell? ⟨w.heap.size + 1, 2, none⟩ = some (.int .i64 c.second) ∧ w'.cell? ⟨w.heap.size + 1, 3, none⟩ = some (.int .i64 c.number) ∧ w'.cell? ⟨w.heap.size + 1, 4, none⟩ = some (.int .i64 c.dir)) (go_keep) (first
                          | ((go_at_call 10; with_reducible refine (rank_r d _).mono ?_); rintro r w3 ⟨rfl, hb3⟩; have hk3 : ∀ b' o, b' < wr.heap.size → w3.cell? ⟨b', o, none⟩ = wr.cell? ⟨b', o, none⟩ := bcell (B := wr.heap.size) ((Below.refl _ _).drew.trans hb3))
                          | ((go_at_call 8; with_reducible refine (fits_r d phase c _).mono ?_); rintro r w4 ⟨rfl, hb4⟩; have hk4 : ∀ b' o, b' < wr.heap.size → w4.cell? ⟨b', o, none⟩ = w3.cell? ⟨b', o, none⟩ := bcell (B := wr.heap.size) (hb4.mono hb3.size)))
              have hb' : Below wr.heap.size wr w4 := joinB (Nat.le_refl _) ((Below.refl _ _).drew.trans hb3) hb4
              have HO4 := Lib.hid (HO.out.below hb')
              have hB4 : w.heap.size + 2 ≤ w4.heap.size := Nat.le_trans hsz hb'.size
              have hl4 : (ns (upper ds phase c j ++ grp ds phase c n k)).length ≤ 3000 := by rw [ns_length, List.length_append]; have : j * ds.length ≤ 3 * 600 := Nat.mul_le_mul hj3 hlen; omega
              clear hk3 hk4
              go_wp2_with (at_builtin; refine wpList_append_one rfl _ _ rfl _ _ _ rfl rfl HO4.out hB4 (by omega) ?_; rintro v' w1 hown1 hb1 ⟨n1, g1, cap1, rfl, HN1, hn1, hn2, hg1, hg2, hc1, hc2⟩; have HO1 := Lib.hid hown1; clear hown1)
              go_roundw
              case rel =>
                have hb5 : Below (w.heap.size + 2) wr w1 := (hb'.mono hsz).trans hb1
                have hfin := HO1.out
                rw [show ns (upper ds phase c j ++ grp ds phase c n k) ++ [(k : Int)] = ns (upper ds phase c j ++ grp ds phase c n (k + 1)) by rw [grp_yes HK.out HR.out hf]; simp [ns]] at hfin
                exact ⟨k + 1, hlt, by go_num, hfin, HT.out.below hb5, HC.out.below (by omega) hb5, hbw.trans (hb5.mono (by omega))⟩
              case measure => simp [intOf]; omega
            · have hf' : fits d phase c = false := by simpa using hf
              clear hf
              go_wp2_with fail
              go_region_held3 (fun w' => w'.cell? ⟨w.heap.size, 10, none⟩ = some (.slice (some ⟨b, off, none⟩) ds.length cap) ∧ w'.cell? ⟨b, off + k * 6, none⟩ = some (.int .i64 d.verb) ∧ w'.cell? ⟨b, off + k * 6 + 1, none⟩ = some (.int .i64 d.phase) ∧ w'.cell? ⟨b, off + k * 6 + 2, none⟩ = some (.int .i64 d.noun) ∧ w'.cell? ⟨b, off + k * 6 + 3, none⟩ = some (.int .i64 d.second) ∧ w'.cell? ⟨b, off + k * 6 + 4, none⟩ = some (.int .i64 d.onlyIf) ∧ w'.cell? ⟨b, off + k * 6 + 5, none⟩ = some (.int .i64 d.body) ∧ w'.cell? ⟨w.heap.size + 1, 0, none⟩ = some (.int .i64 c.verb) ∧ w'.cell? ⟨w.heap.size + 1, 1, none⟩ = some (.int .i64 c.noun) ∧ w'.cell? ⟨w.heap.size + 1, 2, none⟩ = some (.int .i64 c.second) ∧ w'.cell? ⟨w.heap.size + 1, 3, none⟩ = some (.int .i64 c.number) ∧ w'.cell? ⟨w.heap.size + 1, 4, none⟩ = some (.int .i64 c.dir)) (go_keep) (first
                          | ((go_at_call 10; with_reducible refine (rank_r d _).mono ?_); rintro r w3 ⟨rfl, hb3⟩; have hk3 : ∀ b' o, b' < wr.heap.size → w3.cell? ⟨b', o, none⟩ = wr.cell? ⟨b', o, none⟩ := bcell (B := wr.heap.size) ((Below.refl _ _).drew.trans hb3))
                          | ((go_at_call 8; with_reducible refine (fits_r d phase c _).mono ?_); rintro r w4 ⟨rfl, hb4⟩; have hk4 : ∀ b' o, b' < wr.heap.size → w4.cell? ⟨b', o, none⟩ = w3.cell? ⟨b', o, none⟩ := bcell (B := wr.heap.size) (hb4.mono hb3.size)))
              have hb' : Below wr.heap.size wr w4 := joinB (Nat.le_refl _) ((Below.refl _ _).drew.trans hb3) hb4
              clear hk3 hk4
              go_wp2_with fail
              go_roundw
              case rel =>
                have hb5 : Below (w.heap.size + 2) wr w4 := hb'.mono hsz
                exact ⟨k + 1, hlt, by go_num, by rw [grp_no HK.out hf']; exact HO.out.below hb', HT.out.below hb5, HC.out.below (by omega) hb5, hbw.trans (hb5.mono (by omega))⟩
              case measure => simp [intOf]; omega
          · have hrb : (rank d == n) = false := beq_eq_false_iff_ne.2 hr
            have HR := Lib.hid hr
            clear hr
            go_wp2_with fail
            refine wp_region_held_drew (S := (fun w' => w'.cell? ⟨w.heap.size, 10, none⟩ = some (.slice (some ⟨b, off, none⟩) ds.length cap) ∧ w'.cell? ⟨b, off + k * 6, none⟩ = some (.int .i64 d.verb) ∧ w'.cell? ⟨b, off + k * 6 + 1, none⟩ = some (.int .i64 d.phase) ∧ w'.cell? ⟨b, off + k * 6 + 2, none⟩ = some (.int .i64 d.noun) ∧ w'.cell? ⟨b, off + k * 6 + 3, none⟩ = some (.int .i64 d.second) ∧ w'.cell? ⟨b, off + k * 6 + 4, none⟩ = some (.int .i64 d.onlyIf) ∧ w'.cell? ⟨b, off + k * 6 + 5, none⟩ = some (.int .i64 d.body) ∧ w'.cell? ⟨w.heap.size + 1, 0, none⟩ = some (.int .i64 c.verb) ∧ w'.cell? ⟨w.heap.size + 1, 1, none⟩ = some (.int .i64 c.noun) ∧ w'.cell? ⟨w.heap.size + 1, 2, none⟩ = some (.int .i64 c.second) ∧ w'.cell? ⟨w.heap.size + 1, 3, none⟩ = some (.int .i64 c.number) ∧ w'.cell? ⟨w.heap.size + 1, 4, none⟩ = some (.int .i64 c.dir))) (by kernel_rfl) ?_ (fun hHeld => ?_)
            · go_keep
            refine Reg.take (i := 0) (t := 21) rfl rfl (by kernel_rfl) (by kernel_rfl) (by kernel_rfl) (fun _ _ _ h => h) (by rfl) (by intro w0 hSw; (try dsimp only at hSw); first | (go_simp; done) | (go_simp; with_reducible rfl)) (by assumption) ?_
            simp only [List.setIfInBounds_toArray, List.set_cons_zero, List.set_cons_succ]
            refine Reg.take (i := 1) (t := 22) rfl rfl (by kernel_rfl) (by kernel_rfl) (by kernel_rfl) (fun _ _ _ h => h) (by rfl) (by intro w0 hSw; (try dsimp only at hSw); first | (go_simp; done) | (go_simp; with_reducible rfl)) (by assumption) ?_
            simp only [List.setIfInBounds_toArray, List.set_cons_zero, List.set_cons_succ]
            refine Reg.take (i := 2) (t := 23) rfl rfl (by kernel_rfl) (by kernel_rfl) (by kernel_rfl) (fun _ _ _ h => h) (by rfl) (by intro w0 hSw; (try dsimp only at hSw); first | (go_simp; done) | (go_simp; with_reducible rfl)) (by assumption) ?_
            simp only [List.setIfInBounds_toArray, List.set_cons_zero, List.set_cons_succ]
            refine Reg.take (i := 3) (t := 24) rfl rfl (by kernel_rfl) (by kernel_rfl) (by kernel_rfl) (fun _ _ _ h => h) (by rfl) (by intro w0 hSw; (try dsimp only at hSw); first | (go_simp; done) | (go_simp; with_reducible rfl)) (by assumption) ?_
            simp only [List.setIfInBounds_toArray, List.set_cons_zero, List.set_cons_succ]
            refine Reg.take (i := 4) (t := 25) rfl rfl (by kernel_rfl) (by kernel_rfl) (by kernel_rfl) (fun _ _ _ h => h) (by rfl) (by intro w0 hSw; (try dsimp only at hSw); first | (go_simp; done) | (go_simp; with_reducible rfl)) (by assumption) ?_
            simp only [List.setIfInBounds_toArray, List.set_cons_zero, List.set_cons_succ]
            refine Reg.take (i := 6) (t := 27) rfl rfl (by kernel_rfl) (by kernel_rfl) (by kernel_rfl) (fun _ _ _ h => h) (by rfl) (by intro w0 hSw; (try dsimp only at hSw); first | (go_simp; done) | (go_simp; with_reducible rfl)) (by assumption) ?_
            simp only [List.setIfInBounds_toArray, List.set_cons_zero, List.set_cons_succ]
            refine Reg.call (i := 5) (t := 26) rfl rfl (by kernel_rfl) (by rfl) (by go_simp; exact ⟨rfl, rfl⟩) ?_
            clear hHeld
            refine (rank_r d _).mono ?_
            rintro r w3 ⟨rfl, hb3⟩
            have hk3 : ∀ b' o, b' < wr.heap.size → w3.cell? ⟨b', o, none⟩ = wr.cell? ⟨b', o, none⟩ := bcell (B := wr.heap.size) ((Below.refl _ _).drew.trans hb3)
            refine Reg.keep ?_ (fun hHeld => ?_)
            · go_keep
            simp only [List.setIfInBounds_toArray, List.set_cons_zero, List.set_cons_succ]
            refine Reg.take (i := 7) (t := 28) rfl rfl (by kernel_rfl) (by kernel_rfl) (by kernel_rfl) (fun _ _ _ h => h) (by rfl) (by intro w0 hSw; (try dsimp only at hSw); first | (go_simp; done) | (go_simp; with_reducible rfl)) (by assumption) ?_
            simp only [List.setIfInBounds_toArray, List.set_cons_zero, List.set_cons_succ]
            refine Reg.take (i := 8) (t := 29) rfl rfl (by kernel_rfl) (by kernel_rfl) (by kernel_rfl) (fun _ _ _ h => h) (by rfl) (by intro w0 hSw; (try dsimp only at hSw); first | (go_simp; done) | (go_simp; with_reducible rfl)) (by assumption) ?_
            simp only [List.setIfInBounds_toArray, List.set_cons_zero, List.set_cons_succ]
            refine Reg.pass (i := 9) (t := 30) rfl rfl (by kernel_rfl) (by kernel_rfl) (by kernel_rfl) (fun _ _ _ h => h) (by rfl) (by assumption) ?_
            simp only [List.setIfInBounds_toArray, List.set_cons_zero, List.set_cons_succ]
            refine Reg.pass (i := 10) (t := 31) rfl rfl (by kernel_rfl) (by kernel_rfl) (by kernel_rfl) (fun _ _ _ h => h) (by rfl) (by assumption) ?_
            simp only [List.setIfInBounds_toArray, List.set_cons_zero, List.set_cons_succ]
            refine Reg.pass (i := 11) (t := 32) rfl rfl (by kernel_rfl) (by kernel_rfl) (by kernel_rfl) (fun _ _ _ h => h) (by rfl) (by assumption) ?_
            simp only [List.setIfInBounds_toArray, List.set_cons_zero, List.set_cons_succ]
            refine Reg.pass (i := 12) (t := 33) rfl rfl (by kernel_rfl) (by kernel_rfl) (by kernel_rfl) (fun _ _ _ h => h) (by rfl) (by assumption) ?_
            simp only [List.setIfInBounds_toArray, List.set_cons_zero, List.set_cons_succ]
            refine Reg.pass (i := 13) (t := 34) rfl rfl (by kernel_rfl) (by kernel_rfl) (by kernel_rfl) (fun _ _ _ h => h) (by rfl) (by assumption) ?_
            simp only [List.setIfInBounds_toArray, List.set_cons_zero, List.set_cons_succ]
            refine Reg.pass (i := 14) (t := 35) rfl rfl (by kernel_rfl) (by kernel_rfl) (by kernel_rfl) (fun _ _ _ h => h) (by rfl) (by assumption) ?_
            simp only [List.setIfInBounds_toArray, List.set_cons_zero, List.set_cons_succ]
            refine Reg.pass (i := 15) (t := 36) rfl rfl (by kernel_rfl) (by kernel_rfl) (by kernel_rfl) (fun _ _ _ h => h) (by rfl) (by assumption) ?_
            simp only [List.setIfInBounds_toArray, List.set_cons_zero, List.set_cons_succ]
            refine Reg.pass (i := 16) (t := 37) rfl rfl (by kernel_rfl) (by kernel_rfl) (by kernel_rfl) (fun _ _ _ h => h) (by rfl) (by assumption) ?_
            simp only [List.setIfInBounds_toArray, List.set_cons_zero, List.set_cons_succ]
            refine Reg.take (i := 17) (t := 38) rfl rfl (by kernel_rfl) (by kernel_rfl) (by kernel_rfl) (fun _ _ _ h => h) (by rfl) (by intro w0 hSw; (try dsimp only at hSw); first | (go_simp; done) | (go_simp; with_reducible rfl)) (by assumption) ?_
            simp only [List.setIfInBounds_toArray, List.set_cons_zero, List.set_cons_succ]
            refine wpAnyH_done (by kernel_rfl) ?_ _
            have hb' : Below wr.heap.size wr w3 := (Below.refl _ _).drew.trans hb3
            clear hk3
            go_wp2_with fail
            go_roundw
            case rel =>
              have hb5 : Below (w.heap.size + 2) wr w3 := hb'.mono hsz
              exact ⟨k + 1, hlt, by go_num, by rw [grp_rank HK.out HR.out]; exact HO.out.below hb', HT.out.below hb5, HC.out.below (by omega) hb5, hbw.trans (hb5.mono (by omega))⟩
            case measure => simp [intOf]; omega
        · have hkl : k = ds.length := by omega
          have HKL := Lib.hid hkl
          clear hkl hcmd
          go_wp2_with fail
          go_roundw
          case rel =>
            have h := HO.out
            rw [HKL.out, ← HN.out] at h
            exact ⟨j + 1, by omega, by have := HN.out; congr 1; omega, h, HT.out, HC.out, hbw⟩
          case measure => simp [intOf]; omega

set_option maxRecDepth 100000 in
theorem order_r_nil (v0 v1 v2 v3 v4 v5 v6 v7 v8 v9 v11 v12 v13 v14 : Value) (a : Option Addr) (cap : Nat) (phase : Int) (c : Cmd) (w : World) :
    Calls Try.prog 14 #[.agg #[v0, v1, v2, v3, v4, v5, v6, v7, v8, v9, .slice a 0 cap, v11, v12, v13, v14], .int .i64 phase,
      .agg #[.int .i64 c.verb, .int .i64 c.noun, .int .i64 c.second, .int .i64 c.number, .int .i64 c.dir]] w fun r w' =>
      ∃ v', r = .returned v' ∧ Own w' w.heap.size v' (ns (upper [] phase c 4)) ∧ Below w.heap.size w w' := by
  go_enter Try.func14, Try.ntmps14
  go_wp2_with fail
  refine wp_loop_rounds 5 ?_
  rw [rounds_succ]
  go_wp2
  iterate 4 go_rounds 1
  go_ret
  exact ⟨_, rfl, own_nil _ _, by go_grown⟩
end Go.Proofs.Ytpbhlphemkdljaa.RuleR
