/- The walks of the sums. -/
import Derived.Test.YtjfllfikeopgnaaSeq
import Derived.Test.YtjfllfikeopgnaaSumP
import Derived.Laws.BitsAllLaws
import Derived.Laws.Rows
import Derived.Deep.WholeRow
import Derived.Outline
import Derived.Deep.DeepCutAuto
import Derived.Deep.RegionHeld3
import Derived.Deep.QuietTactic
import Derived.BigQuiet
namespace Go.Proofs.Ytjfllfikeopgnaa.SumW
open Go Go.RowKit SumP Sq

def encB (b : UInt8) : Value := .int .u8 (b.toNat : Int)
theorem elB : El Try.prog 22 5 encB 0 1 := ⟨Try.underlying22, by kernel_rfl, fun _ => rfl, fun _ => rfl⟩

/-- A number of 32 bits. -/
def u (n : Nat) : Value := .int .u32 (n : Int)

theorem st_walk {c : Nat} (h : c < 4294967296) : bits .xor .u32 ((c : Int) / 2) 3988292384 = ((c / 2 ^^^ P : Nat) : Int) := by
  rw [show (c : Int) / 2 = ((c / 2 : Nat) : Int) by omega, show (3988292384 : Int) = ((3988292384 : Nat) : Int) from rfl]
  exact u32_xor_nat _ _ (by omega) (by omega)
theorem odd_walk {c : Nat} (h : c < 4294967296) : bits .and .u32 (c : Int) 1 = ((c % 2 : Nat) : Int) := by
  rw [show (1 : Int) = ((1 : Nat) : Int) from rfl, u32_and_nat _ _ h (by omega)]
  congr 1
  exact Nat.and_one_is_mod c


def zeros : Array Value := Array.replicate 256 (.int .u32 0)
theorem zero_info : (Try.prog.info? 39).map (fun i => (i.zero, i.size)) = some (some (.agg zeros), 256) := by kernel_rfl
/-- The table holds what the bytes below k come to. -/
def Tab (C : Array Value) (k : Nat) : Prop := C.size = 256 ∧ (∀ j, j < 256 → ∃ n : Nat, C[j]? = some (u n)) ∧ ∀ j, j < k → C[j]? = some (u (st8 j))
theorem tab_zero : Tab zeros 0 := ⟨by simp [zeros], fun j hj => ⟨0, by simp [zeros, hj]; rfl⟩, by omega⟩
theorem tab_set {C : Array Value} {k : Nat} (h : Tab C k) (hk : k < 256) : Tab (C.setIfInBounds k (u (st8 k))) (k + 1) := by
  obtain ⟨h1, h2, h3⟩ := h
  refine ⟨by simpa using h1, fun j hj => ?_, fun j hj => ?_⟩
  · by_cases e : k = j
    · subst e; exact ⟨st8 k, by simp [h1, hk]⟩
    · obtain ⟨n, hn⟩ := h2 j hj
      exact ⟨n, by rw [Array.getElem?_setIfInBounds_ne e]; exact hn⟩
  · by_cases e : k = j
    · subst e; simp [h1, hk]
    · rw [Array.getElem?_setIfInBounds_ne e]; exact h3 j (by omega)
theorem set_alloc (w : World) (C : Array Value) (t : TypeId) (k : Nat) (v : Value) : (w.alloc (.cells C t)).setCell ⟨w.heap.size, k, none⟩ v = w.alloc (.cells (C.setIfInBounds k v) t) := by
  rw [setCell_eq_setRow _ _ _ C t (0, 0) v (heap_alloc_last w _), World.setRow_alloc_new]
theorem cell_alloc (w : World) (C : Array Value) (t : TypeId) (k : Nat) : (w.alloc (.cells C t)).cell? ⟨w.heap.size, k, none⟩ = C[k]? := cell_of_row _ _ k C t (0, 0) (heap_alloc_last w _)
theorem frozen_alloc (w : World) (C : Array Value) (t : TypeId) (k : Nat) : (w.alloc (.cells C t)).frozen? ⟨w.heap.size, k, none⟩ = false := frozen_of_row _ _ k C t (heap_alloc_last w _)
theorem tab_one {C : Array Value} (h : Tab C 256) : C.all (·.oneCell') = true := by
  rw [Array.all_eq_true]
  intro j hj
  have := h.2.2 j (by rw [← h.1]; exact hj)
  rw [Array.getElem?_eq_getElem hj] at this
  injection this with this
  rw [this]; rfl

set_option maxRecDepth 100000 in
theorem table_i (w : World) : Calls Try.prog 18 #[] w fun e w' => ∃ C, Tab C 256 ∧ e = .returned (.agg C) ∧ w' = w.alloc (.cells C 39) := by
  obtain ⟨hz, hi⟩ := zero_of_info zero_info
  have HI := Lib.hid hi
  clear hi
  obtain ⟨Z, hZ⟩ : ∃ Z, zeros = Z := ⟨_, rfl⟩
  rw [hZ] at hz
  have HZ := Lib.hid (show Tab Z 0 from hZ ▸ tab_zero)
  clear hZ
  go_enter Try.func18, Try.ntmps18
  go_wp2_with fail
  go_loopw [1, 2, 3, 8] (fun _ _ i _ wr => ∃ (k : Nat) (C : Array Value), k ≤ 256 ∧ i = .int .i64 (k : Int) ∧ Tab C k ∧ wr = w.alloc (.cells C 39)) (fun _ _ i _ _ => 256 - (intOf i).toNat)
  case atStart => exact ⟨0, Z, by omega, rfl, HZ.out, rfl⟩
  case round =>
    obtain ⟨k, C, hk, rfl, hC, rfl⟩ := hrel
    have HC := Lib.hid hC
    clear hC
    by_cases hlt : k < 256
    · have k0 : (0 : Int) ≤ (k : Int) := by omega
      have k1 : (k : Int) < 256 := by omega
      go_wp2_with fail
      go_loopw [2, 8] (fun c j wr => ∃ (m c' : Nat), m ≤ 8 ∧ j = .int .i64 (m : Int) ∧ c = u c' ∧ c' < 4294967296 ∧ sts (8 - m) c' = st8 k ∧ wr = w.alloc (.cells C 39)) (fun _ j _ => 8 - (intOf j).toNat)
      case atStart => exact ⟨0, k, by omega, rfl, rfl, by omega, rfl, rfl⟩
      case round =>
        obtain ⟨m, c', hm, rfl, rfl, hc', hs, rfl⟩ := hrel
        by_cases hm8 : m < 8
        · have hstep : sts (8 - (m + 1)) (st c') = st8 k := by rw [← hs, show 8 - m = (8 - (m + 1)) + 1 by omega]; rfl
          have HS := Lib.hid hstep
          have h1 := odd_walk hc'
          have h2 := st_walk hc'
          clear hs hstep
          by_cases ho : c' % 2 = 1
          · have e1 : (((c' % 2 : Nat) : Int) == 1) = true := by simp; omega
            have HO := Lib.hid (show st c' = c' / 2 ^^^ P from if_pos ho)
            clear ho
            unfold u
            go_wp2_with fail
            go_roundw
            case rel => exact ⟨m + 1, st c', by omega, by go_num, by rw [HO.out], st_lt hc', HS.out, trivial⟩
            case measure => simp [intOf]; omega
          · have e1 : (((c' % 2 : Nat) : Int) == 1) = false := by simp; omega
            have HO := Lib.hid (show st c' = c' / 2 from if_neg ho)
            clear ho
            unfold u
            go_wp2_with fail
            go_roundw
            case rel => exact ⟨m + 1, st c', by omega, by go_num, by rw [HO.out]; rfl, st_lt hc', HS.out, trivial⟩
            case measure => simp [intOf]; omega
        · have hm' : m = 8 := by omega
          have HS := Lib.hid (show c' = st8 k by rw [← hs, hm']; rfl)
          clear hs hm'
          obtain ⟨n0, hn0⟩ := HC.out.2.1 k hlt
          have hcell : (w.alloc (.cells C 39)).cell? ⟨w.heap.size, k, none⟩ = some (u n0) := by rw [cell_alloc, hn0]
          have hfr := frozen_alloc w C 39 k
          have hset := set_alloc w C 39 k (u c')
          unfold u at *
          go_wp2_with fail
          go_roundw
          case rel => exact ⟨k + 1, _, by omega, by go_num, tab_set HC.out hlt, by rw [← HS.out]; rfl⟩
          case measure => simp [intOf]; omega
    · have hk256 : k = 256 := by omega
      have HC2 := Lib.hid (show Tab C 256 from hk256 ▸ HC.out)
      clear hk256
      have HR1 := Lib.hid (run_loadAt_new (P := Try.prog) w 39 C 256 23 Try.underlying39 (by rw [HI.out, HC2.out.1]))
      have HR2 := Lib.hid (run_storeAt_new (P := Try.prog) w 39 C C (by rw [HI.out, HC2.out.1]) rfl (tab_one HC2.out))
      go_wp2_with (first
        | (refine wpList_load_row rfl 39 (.tmp 0) rfl w.heap.size rfl 39 C (0, 0) _ (heap_alloc_last w _) Try.underlying39 rfl (by rw [HI.out, HC2.out.1]) ?_)
        | (refine wpList_store_row rfl 39 (.tmp 0) (.tmp 23) rfl w.heap.size C rfl rfl 39 C (heap_alloc_last w _) (by rw [HI.out, HC2.out.1]) rfl (tab_one HC2.out) ?_))
      rw [World.setRow_alloc_new]
      trace_state
      exact bodyPost_ret (v := .agg C) (results_cell_row rfl _ _ w.heap.size 39 C (0, 0) _ rfl (heap_alloc_last w _) Try.underlying39 rfl (by rw [HI.out, HC2.out.1])) rfl ⟨C, HC2.out, rfl, rfl⟩
end Go.Proofs.Ytjfllfikeopgnaa.SumW
