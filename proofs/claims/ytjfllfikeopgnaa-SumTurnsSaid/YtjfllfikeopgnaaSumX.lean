/- The walks of the sums of bytes, by a table and bit by bit. -/
import Derived.Test.YtjfllfikeopgnaaSumW
namespace Go.Proofs.Ytjfllfikeopgnaa.SumX
open Go Go.RowKit SumP Sq SumW

theorem setRow_alloc2 (w : World) (o : Obj) (c c' : Array Value) (t : TypeId) : ((w.alloc o).alloc (.cells c t)).setRow (w.heap.size + 1) c' = (w.alloc o).alloc (.cells c' t) := by
  have := World.setRow_alloc_new (w.alloc o) c c' t
  rwa [World.size_alloc] at this

theorem not_walk {s : Nat} (hs : s < 4294967296) : bits .xor .u32 IntKind.u32.max (s : Int) = ((s ^^^ ones : Nat) : Int) := by
  rw [show IntKind.u32.max = ((ones : Nat) : Int) from rfl, u32_xor_nat _ _ ones_lt hs, Nat.xor_comm]
theorem byte_conv (c : Nat) : IntKind.u8.wrap (c : Int) = ((c % 256 : Nat) : Int) := by rw [IntKind.wrap_u8']; omega
theorem byte_xor (c : Nat) (x : UInt8) : bits .xor .u8 ((c : Int) % 256) (x.toNat : Int) = ((c % 256 ^^^ x.toNat : Nat) : Int) := by
  rw [show (c : Int) % 256 = ((c % 256 : Nat) : Int) by omega]
  exact u8_xor_nat _ _ (Nat.mod_lt _ (by decide)) (byte_lt x)
theorem byte_index (c : Nat) (x : UInt8) : c % 256 ^^^ x.toNat < 256 := Nat.xor_lt_two_pow (n := 8) (Nat.mod_lt _ (by decide)) (byte_lt x)
theorem cross_walk {c : Nat} (hc : c < 4294967296) (x : UInt8) : bits .xor .u32 ((st8 (c % 256 ^^^ x.toNat) : Nat) : Int) ((c : Int) / 256) = ((cross c x : Nat) : Int) := by
  rw [by_table, show (c : Int) / 256 = ((c / 256 : Nat) : Int) by omega]
  exact u32_xor_nat _ _ (sts_lt 8 (Nat.lt_trans (byte_index c x) (by decide))) (by omega)

set_option maxRecDepth 100000 in
theorem on_i (s : Nat) (hs : s < 4294967296) (A : Option Addr) (n cap : Nat) (l : List UInt8) (w : World) (hr : Rd encB w A n l) (hn : n ≤ maxLen) :
    Calls Try.prog 12 #[.int .u32 (s : Int), .slice A n cap] w fun e w' => e = .returned (.int .u32 (on s l : Int)) ∧ Below w.heap.size w w' := by
  unfold maxLen at hn
  obtain ⟨hz, hi⟩ := zero_of_info zero_info
  have HI := Lib.hid hi
  clear hi
  obtain ⟨Z, hZ⟩ : ∃ Z, zeros = Z := ⟨_, rfl⟩
  rw [hZ] at hz
  have HZ := Lib.hid (show Z.size = 256 by rw [← hZ]; simp [zeros])
  clear hZ
  have HR := Lib.hid hr
  clear hr
  go_enter Try.func12, Try.ntmps12
  go_wp2_with fail
  refine (table_i _).mono ?_
  rintro e w' ⟨C, hC, rfl, rfl⟩
  have HC := Lib.hid hC
  clear hC
  have hsc := run_storeCells_new (P := Try.prog) (w.alloc (.cells C 39)) 39 Z C (by rw [HI.out, HC.out.1]) (by rw [HZ.out, HC.out.1]) (tab_one HC.out)
  rw [World.size_alloc] at hsc
  have hcs : C.size = 256 := HC.out.1
  go_wp2_with fail
  have hnot := not_walk hs
  obtain ⟨W, hW⟩ : ∃ W, (w.alloc (.cells C 39)).alloc (.cells C 39) = W := ⟨_, rfl⟩
  have hWb : Below w.heap.size w W := by rw [← hW]; exact ((Below.refl _ _).alloc (Nat.le_refl _) _).alloc (by simp) _
  have hWc : ∀ k, k < 256 → W.cell? ⟨w.heap.size + 1, k, none⟩ = some (u (st8 k)) := by
    intro k hk
    rw [← hW]
    have := cell_alloc (w.alloc (.cells C 39)) C 39 k
    rw [World.size_alloc] at this
    rw [this]; exact HC.out.2.2 k hk
  have HWC := Lib.hid hWc
  have HRW := Lib.hid (HR.out.below hWb)
  rw [hnot, hW]
  clear hW hWc hsc hcs hz hnot
  go_loopw [6, 14] (fun c i wr => ∃ (k c' : Nat), k ≤ n ∧ i = .int .i64 (k : Int) ∧ c = .int .u32 (c' : Int) ∧ c' < 4294967296 ∧ c' = run (s ^^^ ones) (l.take k) ∧ wr = W) (fun _ i _ => n - (intOf i).toNat)
  case atStart => exact ⟨0, s ^^^ ones, Nat.zero_le _, rfl, rfl, lt_xor hs ones_lt, rfl, rfl⟩
  case round =>
    obtain ⟨k, c', hk, rfl, rfl, hc', hrun, rfl⟩ := hrel
    have HRUN := Lib.hid hrun
    clear hrun
    by_cases hlt : k < n
    · obtain ⟨b, o, rfl, hb, hl, hcell⟩ := HRW.out.at_ hlt
      have HS := Lib.hid (show run (s ^^^ ones) (l.take (k + 1)) = cross c' l[k] by
        rw [HRUN.out, List.take_succ_eq_append_getElem hl, SumP.run_append]; rfl)
      obtain ⟨x, hx⟩ : ∃ x, l[k] = x := ⟨_, rfl⟩
      rw [hx] at HS hcell
      unfold encB at hcell
      clear hx hl hb
      have k0 : (0 : Int) ≤ (k : Int) := by omega
      have k1 : (k : Int) < (n : Int) := by omega
      have hix := byte_index c' x
      have hb1 := byte_conv c'
      have hb2 := byte_xor c' x
      have hfin := cross_walk hc' x
      have htab := HWC.out _ hix
      unfold u at htab
      obtain ⟨j, hj⟩ : ∃ j, c' % 256 ^^^ x.toNat = j := ⟨_, rfl⟩
      rw [hj] at hix hb2 hfin htab
      have j0 : (0 : Int) ≤ (j : Int) := by omega
      have j1 : (j : Int) < 256 := by omega
      clear hj
      go_wp2_with fail
      go_roundw
      case rel => exact ⟨k + 1, cross c' x, by omega, by go_num, rfl, cross_lt x hc', HS.out.symm, trivial⟩
      case measure => simp [intOf]; omega
    · have hkn : k = n := by omega
      have HK := Lib.hid (show on s l = c' ^^^ ones by unfold on; rw [HRUN.out, hkn, HRW.out.1, List.take_length])
      have hn2 := not_walk hc'
      have d0 : decide (k < n) = false := by simp; omega
      clear hkn
      go_wp2_with fail
      go_ret
      exact ⟨by rw [HK.out]; rfl, hWb⟩

theorem of_i (A : Option Addr) (n cap : Nat) (l : List UInt8) (w : World) (hr : Rd encB w A n l) (hn : n ≤ maxLen) :
    Calls Try.prog 10 #[.slice A n cap] w fun e w' => e = .returned (.int .u32 (on 0 l : Int)) ∧ Below w.heap.size w w' := by
  have H := Lib.hid (on_i 0 (by omega) A n cap l w hr hn)
  clear hr hn
  go_enter Try.func10, Try.ntmps10
  go_wp2_with fail
  refine H.out.mono ?_
  rintro e w' ⟨rfl, hb⟩
  go_wp2_with fail
  go_ret
  exact ⟨rfl, hb⟩

theorem odd_ref (c : Nat) : ((c : Int) % 2 == 1) = decide (c % 2 = 1) := by
  rw [Bool.eq_iff_iff, beq_iff_eq, decide_eq_true_iff]; omega
theorem xor_ref {c : Nat} (hc : c < 4294967296) (x : UInt8) : bits .xor .u32 (c : Int) (x.toNat : Int) = ((c ^^^ x.toNat : Nat) : Int) := u32_xor_nat _ _ hc (by have := byte_lt x; omega)
theorem not_ref {s : Nat} (hs : s < 4294967296) : bits .xor .u32 (s : Int) 4294967295 = ((s ^^^ ones : Nat) : Int) := by
  rw [show (4294967295 : Int) = ((ones : Nat) : Int) from rfl, u32_xor_nat _ _ hs ones_lt]

set_option maxRecDepth 100000 in
theorem on_r (s : Nat) (hs : s < 4294967296) (A : Option Addr) (n cap : Nat) (l : List UInt8) (w : World) (hr : Rd encB w A n l) (hn : n ≤ maxLen) :
    Calls Try.prog 13 #[.int .u32 (s : Int), .slice A n cap] w fun e w' => e = .returned (.int .u32 (on s l : Int)) ∧ w = w' := by
  unfold maxLen at hn
  have HR := Lib.hid hr
  have hnot := not_ref hs
  clear hr
  go_enter Try.func13, Try.ntmps13
  go_wp2_with fail
  clear hnot
  go_loop [5, 6] (fun c i => ∃ (k c' : Nat), k ≤ n ∧ i = .int .i64 (k : Int) ∧ c = .int .u32 (c' : Int) ∧ c' < 4294967296 ∧ c' = run (s ^^^ ones) (l.take k)) (fun _ i => n - (intOf i).toNat)
  case atStart => exact ⟨0, s ^^^ ones, Nat.zero_le _, rfl, rfl, lt_xor hs ones_lt, rfl⟩
  case round =>
    obtain ⟨k, c', hk, rfl, rfl, hc', hrun⟩ := hrel
    have HRUN := Lib.hid hrun
    clear hrun
    by_cases hlt : k < n
    · obtain ⟨b, o, rfl, hb, hl, hcell⟩ := HR.out.at_ hlt
      have HS := Lib.hid (show run (s ^^^ ones) (l.take (k + 1)) = cross c' l[k] by
        rw [HRUN.out, List.take_succ_eq_append_getElem hl, SumP.run_append]; rfl)
      obtain ⟨x, hx⟩ : ∃ x, l[k] = x := ⟨_, rfl⟩
      rw [hx] at HS hcell
      unfold encB at hcell
      clear hx hl hb
      have k0 : (0 : Int) ≤ (k : Int) := by omega
      have k1 : (k : Int) < (n : Int) := by omega
      have hxr := xor_ref hc' x
      have hb0 : (0 : Int) ≤ (x.toNat : Int) := by omega
      have hb1 : (x.toNat : Int) < 256 := by have := byte_lt x; omega
      go_wp2_with fail
      clear hxr
      have hd : c' ^^^ x.toNat < 4294967296 := lt_xor hc' (by omega)
      have HD := Lib.hid (show cross c' x = st8 (c' ^^^ x.toNat) from rfl)
      obtain ⟨d, hdd⟩ : ∃ d, c' ^^^ x.toNat = d := ⟨_, rfl⟩
      rw [hdd] at hd HD ⊢
      clear hdd
      go_loop [5, 7] (fun c j => ∃ (m e : Nat), m ≤ 8 ∧ j = .int .i64 (m : Int) ∧ c = .int .u32 (e : Int) ∧ e < 4294967296 ∧ sts (8 - m) e = st8 d) (fun _ j => 8 - (intOf j).toNat)
      case atStart => exact ⟨0, d, by omega, rfl, rfl, hd, rfl⟩
      case round =>
        obtain ⟨m, e, hm, rfl, rfl, he, hse⟩ := hrel
        by_cases hm8 : m < 8
        · have HS2 := Lib.hid (show sts (8 - (m + 1)) (st e) = st8 d by rw [← hse, show 8 - m = (8 - (m + 1)) + 1 by omega]; rfl)
          have h2 := st_walk he
          clear hse
          by_cases ho : e % 2 = 1
          · have e1 : (((e : Int) % 2) == 1) = true := by rw [odd_ref]; exact decide_eq_true ho
            have HO := Lib.hid (show st e = e / 2 ^^^ P from if_pos ho)
            clear ho
            go_wp2_with fail
            go_round
            case rel => exact ⟨m + 1, st e, by omega, by go_num, by rw [HO.out], st_lt he, HS2.out⟩
            case measure => simp [intOf]; omega
          · have e1 : (((e : Int) % 2) == 1) = false := by rw [odd_ref]; exact decide_eq_false ho
            have HO := Lib.hid (show st e = e / 2 from if_neg ho)
            clear ho
            go_wp2_with fail
            go_round
            case rel => exact ⟨m + 1, st e, by omega, by go_num, by rw [HO.out]; rfl, st_lt he, HS2.out⟩
            case measure => simp [intOf]; omega
        · have HE := Lib.hid (show e = cross c' x by rw [HD.out, ← hse, show m = 8 by omega]; rfl)
          clear hse
          go_wp2_with fail
          go_round
          case rel => exact ⟨k + 1, e, by omega, by go_num, rfl, he, by rw [HS.out, HE.out]⟩
          case measure => simp [intOf]; omega
    · have hkn : k = n := by omega
      have HK := Lib.hid (show on s l = c' ^^^ ones by unfold on; rw [HRUN.out, hkn, HR.out.1, List.take_length])
      have hn2 := not_ref hc'
      have d0 : decide (k < n) = false := by simp; omega
      clear hkn
      go_wp2_with fail
      go_ret
      exact ⟨by rw [HK.out]; rfl, rfl⟩

theorem of_r (A : Option Addr) (n cap : Nat) (l : List UInt8) (w : World) (hr : Rd encB w A n l) (hn : n ≤ maxLen) :
    Calls Try.prog 11 #[.slice A n cap] w fun e w' => e = .returned (.int .u32 (on 0 l : Int)) ∧ w = w' := by
  have H := Lib.hid (on_r 0 (by omega) A n cap l w hr hn)
  clear hr hn
  go_enter Try.func11, Try.ntmps11
  go_wp2_with fail
  refine H.out.mono ?_
  rintro e w' ⟨rfl, rfl⟩
  go_wp2_with fail
  go_ret
  exact ⟨rfl, rfl⟩
end Go.Proofs.Ytjfllfikeopgnaa.SumX
