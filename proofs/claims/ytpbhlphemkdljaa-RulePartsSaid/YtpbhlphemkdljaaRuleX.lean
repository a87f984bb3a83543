/- The walks of the rules' order. -/
import Derived.Test.YtpbhlphemkdljaaRuleW
import Derived.Test.YtpbhlphemkdljaaIntsP
import Derived.BigRegion
import Derived.Deep.QuietTactic
import Derived.BigQuiet
namespace Go.Proofs.Ytpbhlphemkdljaa.RuleX
open Go Go.RowKit RuleP RuleW Ints

def Deed.cells (d : Deed) : List Value := [.int .i64 d.verb, .int .i64 d.phase, .int .i64 d.noun, .int .i64 d.second, .int .i64 d.onlyIf, .int .i64 d.body]
def DeedAt (w : World) (b o : Nat) (d : Deed) : Prop :=
  w.cell? ⟨b, o, none⟩ = some (.int .i64 d.verb) ∧ w.cell? ⟨b, o + 1, none⟩ = some (.int .i64 d.phase) ∧ w.cell? ⟨b, o + 2, none⟩ = some (.int .i64 d.noun) ∧
  w.cell? ⟨b, o + 3, none⟩ = some (.int .i64 d.second) ∧ w.cell? ⟨b, o + 4, none⟩ = some (.int .i64 d.onlyIf) ∧ w.cell? ⟨b, o + 5, none⟩ = some (.int .i64 d.body)

set_option maxRecDepth 100000 in
theorem ahead (g b off len cap i j : Nat) (d e : Deed) (w : World) (hi : i < len) (hj : j < len) (hgw : g < w.heap.size) (hbw : b < w.heap.size)
    (hT : w.cell? ⟨g, 10, none⟩ = some (.slice (some ⟨b, off, none⟩) len cap)) (hd : DeedAt w b (off + i * 6) d) (he : DeedAt w b (off + j * 6) e) :
    Calls Try.prog 17 #[.int .i64 i, .int .i64 j, .pointer (some ⟨g, 0, none⟩)] w fun r w' => r = .returned (.bool (decide (rank e < rank d))) ∧ Below w.heap.size w w' := by
  obtain ⟨d0, d1, d2, d3, d4, d5⟩ := hd
  obtain ⟨e0, e1, e2, e3, e4, e5⟩ := he
  have i0 : (0 : Int) ≤ (i : Int) := by omega
  have i1 : (i : Int) < (len : Int) := by omega
  have j0 : (0 : Int) ≤ (j : Int) := by omega
  have j1 : (j : Int) < (len : Int) := by omega
  go_enter Try.func17, Try.ntmps17
  go_wp2_with fail
  go_region_held3 (fun w' => w'.cell? ⟨g, 10, none⟩ = some (.slice (some ⟨b, off, none⟩) len cap) ∧ w'.cell? ⟨b, off + i * 6, none⟩ = some (.int .i64 d.verb) ∧ w'.cell? ⟨b, off + i * 6 + 1, none⟩ = some (.int .i64 d.phase) ∧ w'.cell? ⟨b, off + i * 6 + 2, none⟩ = some (.int .i64 d.noun) ∧ w'.cell? ⟨b, off + i * 6 + 3, none⟩ = some (.int .i64 d.second) ∧ w'.cell? ⟨b, off + i * 6 + 4, none⟩ = some (.int .i64 d.onlyIf) ∧ w'.cell? ⟨b, off + i * 6 + 5, none⟩ = some (.int .i64 d.body) ∧ w'.cell? ⟨b, off + j * 6, none⟩ = some (.int .i64 e.verb) ∧ w'.cell? ⟨b, off + j * 6 + 1, none⟩ = some (.int .i64 e.phase) ∧ w'.cell? ⟨b, off + j * 6 + 2, none⟩ = some (.int .i64 e.noun) ∧ w'.cell? ⟨b, off + j * 6 + 3, none⟩ = some (.int .i64 e.second) ∧ w'.cell? ⟨b, off + j * 6 + 4, none⟩ = some (.int .i64 e.onlyIf) ∧ w'.cell? ⟨b, off + j * 6 + 5, none⟩ = some (.int .i64 e.body)) (go_keep)
    (first
      | ((go_at_call 9; with_reducible refine (rank_i d _).mono ?_); rintro r w1 ⟨rfl, hb1⟩; have hk1 : ∀ b' o, b' < w.heap.size → w1.cell? ⟨b', o, none⟩ = w.cell? ⟨b', o, none⟩ := bcell (B := w.heap.size) ((Below.refl _ _).drew.trans hb1))
      | ((go_at_call 9; with_reducible refine (rank_i e _).mono ?_); rintro r w2 ⟨rfl, hb2⟩; have hk2 : ∀ b' o, b' < w.heap.size → w2.cell? ⟨b', o, none⟩ = w1.cell? ⟨b', o, none⟩ := bcell (B := w.heap.size) (hb2.mono hb1.size)))
  go_wp2
  go_ret
  exact ⟨rfl, joinB (Nat.le_refl _) ((Below.refl _ _).drew.trans hb1) hb2⟩

theorem ns_get (l : List Nat) (k : Nat) : (ns l).getD k 0 = ((l.getD k 0 : Nat) : Int) := by
  simp only [ns, List.getD_eq_getElem?_getD, List.getElem?_map]
  cases l[k]? <;> rfl
theorem ns_length (l : List Nat) : (ns l).length = l.length := by simp [ns]

/-- What is known of the tables' box and of the rules in them. -/
structure Tab (w : World) (B g b off cap : Nat) (ds : List Deed) : Prop where
  hg : g < B
  hb : b < B
  hB : B ≤ w.heap.size
  box : w.cell? ⟨g, 10, none⟩ = some (.slice (some ⟨b, off, none⟩) ds.length cap)
  deeds : ∀ i d, ds[i]? = some d → DeedAt w b (off + i * 6) d

theorem Tab.below {w w' : World} {B g b off cap : Nat} {ds : List Deed} (h : Tab w B g b off cap ds) (hb : Below B w w') : Tab w' B g b off cap ds := by
  refine ⟨h.hg, h.hb, Nat.le_trans h.hB hb.size, by rw [bcell hb _ _ h.hg]; exact h.box, fun i d hi => ?_⟩
  obtain ⟨h0, h1, h2, h3, h4, h5⟩ := h.deeds i d hi
  have hk := fun o => bcell hb b o h.hb
  exact ⟨by rw [hk]; exact h0, by rw [hk]; exact h1, by rw [hk]; exact h2, by rw [hk]; exact h3, by rw [hk]; exact h4, by rw [hk]; exact h5⟩

theorem rk_of {ds : List Deed} {i : Nat} {d : Deed} (h : ds[i]? = some d) : rk ds i = rank d := by
  simp [rk, List.getD_eq_getElem?_getD, List.getElem?_map, h]

theorem ahead_tab (B g b off cap : Nat) (ds : List Deed) (x y : Nat) (w : World) (hx : x < ds.length) (hy : y < ds.length) (ht : Tab w B g b off cap ds) :
    Calls Try.prog 17 #[.int .i64 x, .int .i64 y, .pointer (some ⟨g, 0, none⟩)] w fun r w' => r = .returned (.bool (sooner ds x y)) ∧ Below w.heap.size w w' := by
  have e1 : ds[x]? = some ds[x] := List.getElem?_eq_getElem hx
  have e2 : ds[y]? = some ds[y] := List.getElem?_eq_getElem hy
  have h := ahead g b off ds.length cap x y ds[x] ds[y] w hx hy (Nat.lt_of_lt_of_le ht.hg ht.hB) (Nat.lt_of_lt_of_le ht.hb ht.hB) ht.box (ht.deeds x _ e1) (ht.deeds y _ e2)
  unfold sooner
  rw [rk_of e1, rk_of e2]
  exact h

set_option maxRecDepth 100000 in
theorem put_i (B g b off cap : Nat) (ds : List Deed) (l : List Nat) (x : Nat) (v : Value) (w : World) (ht : Tab w B g b off cap ds)
    (hown : Own w B v (ns l)) (hl : ∀ y ∈ l, y < ds.length) (hx : x < ds.length) (hlen : l.length ≤ 600) :
    Calls Try.prog 16 #[v, .int .i64 x, .func (.func 17) #[] #[.pointer (some ⟨g, 0, none⟩)]] w fun r w' =>
      ∃ v', r = .returned v' ∧ Own w' B v' (ns (put (sooner ds) l x)) ∧ Below B w w' := by
  have HT := Lib.hid ht
  have HL := Lib.hid hl
  have HO := Lib.hid hown
  have hB := ht.hB
  have hn : (ns l).length ≤ 600 := by rw [ns_length]; exact hlen
  clear ht hl hown
  go_enter Try.func16, Try.ntmps16
  go_wp2_with (at_builtin; refine wpList_append_one rfl _ _ rfl _ _ _ rfl rfl HO.out hB (by omega) ?_; rintro v' w1 hown1 hb1 ⟨n1, g1, cap1, rfl, HN1, hn1, hn2, hg1, hg2, hc1, hc2⟩; have HO1 := Lib.hid hown1; clear hown1)
  go_loopw [7] (fun i wr => ∃ k : Nat, k < n1 ∧ i = .int .i64 (k : Int) ∧ Own wr B (.slice (some ⟨g1, 0, none⟩) n1 cap1) (ns (putAt l x k)) ∧ Below B w wr ∧ place (sooner ds) x l k = place (sooner ds) x l l.length) (fun i _ => (intOf i).toNat)
  case atStart =>
    have e := HN1.out
    rw [ns_length] at e
    refine ⟨l.length, by omega, by congr 1; omega, ?_, hb1, rfl⟩
    rw [show ns (putAt l x l.length) = ns l ++ [(x : Int)] by simp [putAt, ns]]
    exact HO1.out
  case round =>
    obtain ⟨k, hk, rfl, hownk, hbk, hpk⟩ := hrel
    have hkl : k ≤ l.length := by have e := HN1.out; rw [ns_length] at e; omega
    have HOK := Lib.hid hownk
    have HPK := Lib.hid hpk
    have hat := hownk.at
    have HAT := Lib.hid hat
    clear hpk hownk hat
    by_cases hk0 : k = 0
    · have t0 : decide ((0 : Int) < (k : Int)) = false := by simp [hk0]
      have t1 : decide (0 < k) = false := by simp [hk0]
      have HK0 := Lib.hid hk0
      clear hk0
      go_wp2
      go_quiet (fail)
      go_wp2
      go_ret
      refine ⟨_, rfl, ?_, belowN hbk _⟩
      have e := HK0.out
      have h1 := HPK.out
      have h2 := HOK.out
      unfold put
      rw [← h1, e]
      rw [e] at h2
      exact h2
    · obtain ⟨j, hj⟩ : ∃ j, k = j + 1 := ⟨k - 1, by omega⟩
      have hgw := HAT.out.2.2.2.2.1
      have hjl : j < l.length := by omega
      have c1 : wr.cell? ⟨g1, k, none⟩ = some (.int .i64 (x : Int)) := by
        rw [HAT.out.2.2.2.2.2.1 k (by rw [ns_length, putAt_length]; omega), ns_get, putAt_get _ _ _ (by omega)]
      have c0 : wr.cell? ⟨g1, j, none⟩ = some (.int .i64 ((l.getD j 0 : Nat) : Int)) := by
        rw [HAT.out.2.2.2.2.2.1 j (by rw [ns_length, putAt_length]; omega), ns_get, hj, putAt_get_pred _ _ _ hjl]
      have hyl : l.getD j 0 < ds.length := HL.out _ (by rw [List.getD_eq_getElem?_getD, List.getElem?_eq_getElem hjl]; exact List.getElem_mem hjl)
      obtain ⟨y, hy⟩ : ∃ y, l.getD j 0 = y := ⟨_, rfl⟩
      rw [hy] at c0 hyl
      have HY := Lib.hid hy
      clear hy
      have t1 : decide (0 < k) = true := by simp; omega
      have e1 : IntKind.i64.wrap ((k : Int) - 1) = (j : Int) := by rw [IntWalk.i64_in _ (by omega)]; omega
      have b0 : (0 : Int) ≤ (k : Int) := by omega
      have b1 : (k : Int) < (n1 : Int) := by omega
      have b2 : (0 : Int) ≤ (j : Int) := by omega
      have b3 : (j : Int) < (n1 : Int) := by omega
      have HTW := Lib.hid (HT.out.below hbk)
      have HJ := Lib.hid hj
      clear hj hk0
      have hbw : B ≤ wr.heap.size := Nat.le_trans hB hbk.size
      by_cases hs : sooner ds x y = true
      · go_wp2
        go_region_held3 (fun w' => w'.cell? ⟨g1, k, none⟩ = some (.int .i64 (x : Int)) ∧ w'.cell? ⟨g1, j, none⟩ = some (.int .i64 (y : Int))) (go_keep)
          (first
            | ((go_at_call 17; with_reducible refine (ahead_tab B g b off cap ds x y _ hx hyl (HTW.out.below (Below.refl _ _).drew)).mono ?_); rintro r w3 ⟨rfl, hb3⟩; have hk3 : ∀ b' o, b' < wr.heap.size → w3.cell? ⟨b', o, none⟩ = wr.cell? ⟨b', o, none⟩ := bcell (B := wr.heap.size) ((Below.refl _ _).drew.trans hb3)))
        have hb' : Below wr.heap.size wr w3 := (Below.refl _ _).drew.trans hb3
        have d1 : w3.cell? ⟨g1, k, none⟩ = some (.int .i64 (x : Int)) := by rw [hk3 _ _ hgw]; exact c1
        have d0 : w3.cell? ⟨g1, j, none⟩ = some (.int .i64 (y : Int)) := by rw [hk3 _ _ hgw]; exact c0
        have hat3 := (HOK.out.below hb').at.2.2.2.2.2.2
        have f1 := hat3 k
        have f0 := hat3 j
        have hg3 : g1 < w3.heap.size := Nat.lt_of_lt_of_le hgw hb'.size
        have own3 := HOK.out.below hb'
        have hjk : j < k := by have := HJ.out; omega
        have d2 : (w3.setCell ⟨g1, k, none⟩ (.int .i64 (y : Int))).cell? ⟨g1, j, none⟩ = some (.int .i64 (y : Int)) := by
          rw [(own3.store k (y : Int)).at.2.2.2.2.2.1 j (by rw [List.length_set, ns_length, putAt_length]; omega)]
          rw [show ((ns (putAt l x k)).set k (y : Int)).getD j 0 = (ns (putAt l x k)).getD j 0 from by
            rw [List.getD_eq_getElem?_getD, List.getD_eq_getElem?_getD, List.getElem?_set_ne (by omega)]]
          rw [← own3.at.2.2.2.2.2.1 j (by rw [ns_length, putAt_length]; omega)]
          exact d0
        have hown5 := (own3.store k (y : Int)).store j (x : Int)
        have HO5 := Lib.hid hown5
        clear hown5 own3
        have HB := Lib.hid hb'
        have HB3 := Lib.hid hb3
        clear hat3 hk3 c1 c0 hb' hb3
        go_wp2
        go_region
        go_wp2
        go_roundw
        case rel =>
          have hjk2 := HJ.out
          have hyj := HY.out
          refine ⟨j, by omega, rfl, ?_, ?_, ?_⟩
          · have h5 := HO5.out
            have e5 : ((ns (putAt l x k)).set k (y : Int)).set j (x : Int) = ns (putAt l x j) := by
              rw [← putAt_swap l x j hjl, hjk2, hyj]
              simp [ns, List.map_set]
            rw [e5] at h5
            exact h5
          · exact (((joinB hB hbk HB.out).setCell (p := ⟨g1, k, none⟩) hg1 _).setCell (p := ⟨g1, j, none⟩) hg1 _).drew
          · have h1 := HPK.out
            rw [← h1, hjk2]
            show _ = if sooner ds x (l.getD j 0) then _ else _
            rw [hyj, hs, if_pos rfl]
        case measure => simp [intOf]; omega
      · have hs' : sooner ds x y = false := by simpa using hs
        clear hs
        go_wp2
        go_region_held3 (fun w' => w'.cell? ⟨g1, k, none⟩ = some (.int .i64 (x : Int)) ∧ w'.cell? ⟨g1, j, none⟩ = some (.int .i64 (y : Int))) (go_keep)
          (first
            | ((go_at_call 17; with_reducible refine (ahead_tab B g b off cap ds x y _ hx hyl (HTW.out.below (Below.refl _ _).drew)).mono ?_); rintro r w3 ⟨rfl, hb3⟩; have hk3 : ∀ b' o, b' < wr.heap.size → w3.cell? ⟨b', o, none⟩ = wr.cell? ⟨b', o, none⟩ := bcell (B := wr.heap.size) ((Below.refl _ _).drew.trans hb3)))
        go_wp2
        go_ret
        have hb' : Below wr.heap.size wr w3 := (Below.refl _ _).drew.trans hb3
        refine ⟨_, rfl, ?_, joinB hB hbk hb'⟩
        have h1 := HPK.out
        unfold put
        rw [← h1, HJ.out]
        have h2 := HOK.out.below hb'
        rw [HJ.out] at h2
        show Own w3 B _ (ns (putAt l x (if sooner ds x (l.getD j 0) then _ else _)))
        rw [HY.out, hs']
        exact h2

end Go.Proofs.Ytpbhlphemkdljaa.RuleX
