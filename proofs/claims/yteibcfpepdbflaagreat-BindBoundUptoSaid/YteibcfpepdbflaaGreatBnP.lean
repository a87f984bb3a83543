/- What stands where in a book, plain. No walk here. -/
import Derived.Test.YteibcfpepdbflaaGreatBindN
import Derived.Test.YteibcfpepdbflaaGreatTxA
import Derived.Test.YteibcfpepdbflaaGreatBkD
import Derived.Test.YteibcfpepdbflaaGreatMkA
import Derived.Test.YteibcfpepdbflaaGreatRtX
import Derived.Test.YteibcfpepdbflaaGreatBindR
import Derived.Deep.CutBlock
import Derived.Test.YteibcfpepdbflaaGreatBindO
import Derived.Test.YteibcfpepdbflaaGreatBkI
open Go.Lib renaming hid → hI
namespace Go.Proofs.YteibcfpepdbflaaGreat.MkB
open Go Go.RowKit BindP BindD BindW BindN BindG TxA
open Byt (str)
theorem elNm : Sk.El Tryz.prog 30 116 nmE (.agg #[.string ⟨#[]⟩,.int .i64 0,.int .i64 0]) 3 32 where
 und:=Tryz.underlying30
 info:=by kernel_rfl
 len:=nmE_len
 one:=fun x u hu=>by obtain ⟨a,b,c⟩:=x;simp [nmE] at hu;rcases hu with rfl | rfl | rfl <;> rfl
 zs:=rfl
 pos:=by omega
def insN (t : List Nm) (x : Nm) : List Nm:=t.takeWhile (fun y=>lt y.1 x.1) ++ [x] ++ t.dropWhile (fun y=>lt y.1 x.1)
theorem insN_len (t : List Nm) (x : Nm) : (insN t x).length=t.length + 1:=by
 have h:=congrArg List.length (List.takeWhile_append_dropWhile (p:=fun y : Nm=>lt y.1 x.1) (l:=t))
 unfold insN
 simp only [List.length_append,List.length_cons,List.length_nil] at h ⊢
 omega
theorem ins_at : ∀ (t : List Nm) (x : Nm) (j : Nat),j≤t.length→(∀ (k : Nat) (y : Nm),k < j→t[k]?=some y→lt y.1 x.1=true)→(∀ y : Nm,t[j]?=some y→lt y.1 x.1=false)→insN t x=t.take j ++ [x] ++ t.drop j
 | [],x,j,hj,_,_=>by
  have : j=0:=by simpa using hj
  subst this;rfl
 | y :: t,x,0,_,_,h0=>by
  have h:=h0 y rfl
  unfold insN
  rw [List.takeWhile_cons_of_neg (by simpa using h),List.dropWhile_cons_of_neg (by simpa using h)]
  rfl
 | y :: t,x,j + 1,hj,h1,h0=>by
  have h:=h1 0 y (by omega) rfl
  have ih:=ins_at t x j (by simpa using hj) (fun k z hk hz=>h1 (k + 1) z (by omega) (by simpa using hz)) (fun z hz=>h0 z (by simpa using hz))
  unfold insN at ih ⊢
  rw [List.takeWhile_cons_of_pos (by simpa using h),List.dropWhile_cons_of_pos (by simpa using h)]
  simpa using ih
set_option maxRecDepth 100000 in
set_option maxHeartbeats 4000000 in
theorem put_r {A : Option Addr} {n c : Nat} (t : List Nm) (x : Nm) (w : World) (hr : Sk.Rd nmE w A n t) (hn : n≤2097152) (hnc : n≤c) :
  Calls Tryz.prog 57 #[.slice A n c,.agg #[.string (str x.1),.int .i64 x.2.1,.int .i64 x.2.2]] w fun e w'=>∃ A' c',e=.returned (.slice A' (n + 1) c')∧n + 1≤c'∧Sk.Rd nmE w' A' (n + 1) (insN t x)∧Below w.heap.size w w':=by
 obtain ⟨x0,x1,x2⟩:=x
 have HLN:=hI hr.1
 obtain ⟨V,hV⟩ : ∃ W,w.alloc (.cells #[.string (str x0),.int .i64 x1,.int .i64 x2] 116)=W:=⟨_,rfl⟩
 have hB : Below w.heap.size w V:=by rw [← hV];exact (Below.refl _ _).alloc (Nat.le_refl _) _
 have HB:=hI hB
 have mv : V.heap[w.heap.size]?=some (.cells #[.string (str x0),.int .i64 x1,.int .i64 x2] 116 (0,0)):=by rw [← hV];exact heap_alloc_new w _
 have HX:=hI (show ∀ U,Below V.heap.size V U→U.heap[w.heap.size]?=some (.cells #[.string (str x0),.int .i64 x1,.int .i64 x2] 116 (0,0)) from fun U hU=>(hU.block _ (Array.getElem?_eq_some_iff.1 mv).1).trans mv)
 obtain ⟨p,hp⟩ : ∃ p,w.heap.size=p:=⟨_,rfl⟩
 have HV:=hI (hr.below hB)
 rw [hp] at HX
 obtain ⟨p0,p1,p2,pf⟩:=cells3 (HX.out V (Below.refl _ _))
 have S1 : ∀ (h : Nat) (w0 : World),h≤c→(Instr.slice 30 (.slice A n c) none (some (.int .i64 (h : Int))) none).run Tryz.prog w0=.ok (.slice A h c) w0:=fun h w0 hh=>Slic.run_high 30 116 3 Tryz.underlying30 (by kernel_rfl) A n c h hh w0
 have S2 : ∀ (h : Nat) (w0 : World),h≤n→(Instr.slice 30 (.slice A n c) (some (.int .i64 (h : Int))) none none).run Tryz.prog w0=.ok (.slice (Slic.cutAt A c h 3) (n - h) (c - h)) w0:=fun h w0 hh=>Slic.run_low 30 116 3 Tryz.underlying30 (by kernel_rfl) A n c h hh w0
 have HS1:=hI S1
 have HS2:=hI S2
 clear S1 S2 hr hB mv
 go_enter Tryz.func57,Tryz.ntmps57
 go_wp2_with fail
 clear p0 p1 p2 pf
 go_loopw [5] (fun iv wr=>∃ j : Nat,j≤n∧iv=.int .i64 (j : Int)∧Hid (∀ (k : Nat) (y : Nm),k < j→t[k]?=some y→lt y.1 x0=true)∧Below V.heap.size V wr) (fun iv _=>n - (intOf iv).toNat)
 case atStart=>exact ⟨0,Nat.zero_le _,rfl,hI fun k y hk=>by omega,Below.refl _ _⟩
 case round=>
  obtain ⟨j,hj,rfl,HT,hbl⟩:=hrel
  have HBL:=hI hbl
  obtain ⟨p0,p1,p2,pf⟩:=cells3 (HX.out wr hbl)
  clear hbl
  have k0 : (0 : Int)≤(j : Int):=by omega
  by_cases hlt : j < n
  ·have hl : j < t.length:=by have:=HLN.out;omega
   obtain ⟨b,o,rfl,hb,hl2,hc⟩:=(HV.out.below HBL.out).at_ nmE_len hlt
   obtain ⟨⟨y0,y1,y2⟩,hy⟩ : ∃ y,t[j]=y:=⟨_,rfl⟩
   rw [hy] at hc
   have c0 : wr.cell? ⟨b,o + j * 3,none⟩=some (.string (str y0)):=hc 0 _ rfl
   have HLY:=hI (show t[j]?=some (y0,y1,y2) by rw [List.getElem?_eq_getElem hl,hy])
   have k1 : (j : Int) < (n : Int):=by omega
   clear hy hl hl2 hc hb
   obtain ⟨q,hq⟩ : ∃ q,lt y0 x0=q:=⟨_,rfl⟩
   have HQ:=hI hq
   have h1 : Op.bytesLess (str y0).toList (str x0).toList=q:=by rw [toList_str,toList_str];exact hq
   clear hq
   cases q with
   | true=>
    go_wp2_with fail
    go_quiet (fail)
    go_wp2_with fail
    go_roundw
    case rel=>exact ⟨j + 1,by omega,by go_num,hI fun k y hk hy=>by
           rcases Nat.lt_or_ge k j with h | h
           ·exact HT.out k y h hy
           ·obtain rfl : k=j:=by omega
            rw [HLY.out] at hy;cases hy;exact HQ.out,Sq.belowN HBL.out _⟩
    case measure=>simp [intOf];omega
   | false=>
    have HN:=hI (show ∀ y : Nm,t[j]?=some y→lt y.1 x0=false from fun y hy=>by rw [HLY.out] at hy;cases hy;exact HQ.out)
    go_wp2_with fail
    go_quiet (fail)
    have r1 : ∀ w0,(Instr.slice 30 (.slice (some ⟨b,o,none⟩) n c) none (some (.int .i64 (j : Int))) none).run Tryz.prog w0=.ok (.slice (some ⟨b,o,none⟩) j c) w0:=fun w0=>HS1.out j w0 (by omega)
    have r2 : ∀ w0,(Instr.slice 30 (.slice (some ⟨b,o,none⟩) n c) (some (.int .i64 (j : Int))) none none).run Tryz.prog w0=.ok (.slice (Slic.cutAt (some ⟨b,o,none⟩) c j 3) (n - j) (c - j)) w0:=fun w0=>HS2.out j w0 (by omega)
    have HE:=hI (ins_at t (x0,x1,x2) j (by have:=HLN.out;omega) HT.out HN.out)
    have HR1:=hI (((HV.out.below HBL.out).high j (by omega)))
    have HR2:=hI ((HV.out.below HBL.out).low nmE_len j c (by omega) hnc)
    have h5 : j≤maxLen:=by unfold maxLen;omega
    go_wp2_with (first
     | (at_builtin;refine Sk.wpList_append elNm rfl _ _ rfl rfl (Sk.own_nil _ _) (some ⟨b,o,none⟩) j c (t.take j) rfl HR1.out (by simpa using h5) (by simp;omega) (Nat.le_refl _) ?_;intro v3 w3 ho3 hb3 _ _ _;have HO3:=hI ho3;have HB3:=hI (show Below wr.heap.size wr w3 from (Sq.belowN (Below.refl _ wr) _).trans hb3);clear ho3 hb3;obtain ⟨q0,q1,q2,qf⟩:=cells3 (HX.out w3 (HBL.out.trans (HB3.out.mono HBL.out.size))))
     | (at_builtin;refine Sk.wpList_append elNm rfl _ _ rfl rfl (Sk.Own.below HO3.out (made rfl).2.2) (some ⟨w3.heap.size,0,none⟩) 1 1 [((x0,x1,x2) : Nm)] rfl (Sk.rd_lit (enc:=nmE) w3 116 [((x0,x1,x2) : Nm)] _ (by simp [nmE]) 1 rfl) (by have:=HR1.out.1;simp [← this];unfold maxLen;omega) (by have:=HR1.out.1;simp [← this];omega) (by have:=HB3.out.size;simp;omega) ?_;intro v4 w4 ho4 hb4 _ _ _;have HO4:=hI ho4;have HB4:=hI ((HB3.out.trans ((made (w:=w3) rfl).2.2.mono HB3.out.size)).trans hb4);clear ho4 hb4)
     | (at_builtin;refine Sk.wpList_append elNm rfl _ _ rfl rfl HO4.out (Slic.cutAt (some ⟨b,o,none⟩) c j 3) (n - j) (c - j) (t.drop j) rfl (HR2.out.below HB4.out) (by have:=HR1.out.1;simp [← this];unfold maxLen;omega) (by have:=HR1.out.1;simp [← this];omega) HB4.out.size ?_;intro v5 w5 ho5 hb5 _ _ _;have HO5:=hI ho5;have HB5:=hI (HB4.out.trans hb5);clear ho5 hb5))
    go_ret
    obtain ⟨A9,c9,h9,hc9,_⟩:=HO5.out.shape
    have e9 : (([] ++ t.take j) ++ [((x0,x1,x2) : Nm)] ++ t.drop j).length=n + 1:=by rw [List.nil_append,← HE.out,insN_len,← HLN.out]
    rw [e9] at h9 hc9
    refine ⟨A9,c9,congrArg _ h9,hc9,?_,(HB.out.trans (HBL.out.mono HB.out.size)).trans (HB5.out.mono ((HB.out.trans (HBL.out.mono HB.out.size)).size))⟩
    have h7:=HO5.out
    rw [h9] at h7
    have h8:=h7.rd
    rw [List.nil_append,← HE.out] at h8
    exact h8
  ·have HN:=hI (show ∀ y : Nm,t[j]?=some y→lt y.1 x0=false from fun y hy=>by have:=HLN.out;rw [List.getElem?_eq_none (by omega)] at hy;cases hy)
   have k1 : ¬ (j : Int) < (n : Int):=by omega
   go_wp2_with fail
   go_quiet (fail)
   have r1 : ∀ w0,(Instr.slice 30 (.slice A n c) none (some (.int .i64 (j : Int))) none).run Tryz.prog w0=.ok (.slice A j c) w0:=fun w0=>HS1.out j w0 (by omega)
   have r2 : ∀ w0,(Instr.slice 30 (.slice A n c) (some (.int .i64 (j : Int))) none none).run Tryz.prog w0=.ok (.slice (Slic.cutAt A c j 3) (n - j) (c - j)) w0:=fun w0=>HS2.out j w0 (by omega)
   have HE:=hI (ins_at t (x0,x1,x2) j (by have:=HLN.out;omega) HT.out HN.out)
   have HR1:=hI (((HV.out.below HBL.out).high j (by omega)))
   have HR2:=hI ((HV.out.below HBL.out).low nmE_len j c (by omega) hnc)
   have h5 : j≤maxLen:=by unfold maxLen;omega
   go_wp2_with (first
    | (at_builtin;refine Sk.wpList_append elNm rfl _ _ rfl rfl (Sk.own_nil _ _) A j c (t.take j) rfl HR1.out (by simpa using h5) (by simp;omega) (Nat.le_refl _) ?_;intro v3 w3 ho3 hb3 _ _ _;have HO3:=hI ho3;have HB3:=hI (show Below wr.heap.size wr w3 from (Sq.belowN (Below.refl _ wr) _).trans hb3);clear ho3 hb3;obtain ⟨q0,q1,q2,qf⟩:=cells3 (HX.out w3 (HBL.out.trans (HB3.out.mono HBL.out.size))))
    | (at_builtin;refine Sk.wpList_append elNm rfl _ _ rfl rfl (Sk.Own.below HO3.out (made rfl).2.2) (some ⟨w3.heap.size,0,none⟩) 1 1 [((x0,x1,x2) : Nm)] rfl (Sk.rd_lit (enc:=nmE) w3 116 [((x0,x1,x2) : Nm)] _ (by simp [nmE]) 1 rfl) (by have:=HR1.out.1;simp [← this];unfold maxLen;omega) (by have:=HR1.out.1;simp [← this];omega) (by have:=HB3.out.size;simp;omega) ?_;intro v4 w4 ho4 hb4 _ _ _;have HO4:=hI ho4;have HB4:=hI ((HB3.out.trans ((made (w:=w3) rfl).2.2.mono HB3.out.size)).trans hb4);clear ho4 hb4)
    | (at_builtin;refine Sk.wpList_append elNm rfl _ _ rfl rfl HO4.out (Slic.cutAt A c j 3) (n - j) (c - j) (t.drop j) rfl (HR2.out.below HB4.out) (by have:=HR1.out.1;simp [← this];unfold maxLen;omega) (by have:=HR1.out.1;simp [← this];omega) HB4.out.size ?_;intro v5 w5 ho5 hb5 _ _ _;have HO5:=hI ho5;have HB5:=hI (HB4.out.trans hb5);clear ho5 hb5))
   go_ret
   obtain ⟨A9,c9,h9,hc9,_⟩:=HO5.out.shape
   have e9 : (([] ++ t.take j) ++ [((x0,x1,x2) : Nm)] ++ t.drop j).length=n + 1:=by rw [List.nil_append,← HE.out,insN_len,← HLN.out]
   rw [e9] at h9 hc9
   refine ⟨A9,c9,congrArg _ h9,hc9,?_,(HB.out.trans (HBL.out.mono HB.out.size)).trans (HB5.out.mono ((HB.out.trans (HBL.out.mono HB.out.size)).size))⟩
   have h7:=HO5.out
   rw [h9] at h7
   have h8:=h7.rd
   rw [List.nil_append,← HE.out] at h8
   exact h8
end Go.Proofs.YteibcfpepdbflaaGreat.MkB
namespace Go.Proofs.YteibcfpepdbflaaGreat.MkP
open Go Go.RowKit BindP BindD BindO BindW BindG BindX BindB BindT BindU BindN TxA RtS RtX RtD MkA MkB
open Byt (str)
def base : List Nm:=[([98,111,120],1,2),([104,105,100,100,101,110],1,3),([108,105,116],1,0),([111,112,101,110],1,1)]
def EnP (x : En) : Prop:=x.nm ≠ []∧x.at_ < x.mo
structure Mk (l : List En) (T : List Nm) : Prop where
 up : Up T
 mem : ∀ x,x ∈ T↔x ∈ base∨∃ y ∈ l,x=(y.nm,y.ki,y.nu)
 len : T.length=4 + l.length
 ok : ∀ y ∈ l,EnP y
 nd : (l.map En.nm).Nodup
 nb : ∀ y ∈ l,∀ x ∈ base,x.1 ≠ y.nm
theorem lt_conn {a b : S} (h : lt a b=false) (hn : a ≠ b) : lt b a=true:=by
 rw [lt_eq] at h ⊢
 refine decide_eq_true ?_
 rcases List.le_iff_lt_or_eq.1 (List.not_lt.1 (of_decide_eq_false h)) with h | h
 ·exact h
 ·exact absurd h.symm hn
theorem up_base : Up base:=by
 intro i j x y hij hi hj
 have h1:=(List.getElem?_eq_some_iff.1 hj).1
 have h2 : j < 4:=h1
 obtain rfl | rfl | rfl | rfl : j=0∨j=1∨j=2∨j=3:=by omega
 ·omega
 ·obtain rfl : i=0:=by omega
  cases hi;cases hj;rfl
 ·obtain rfl | rfl : i=0∨i=1:=by omega
  all_goals (cases hi;cases hj;rfl)
 ·obtain rfl | rfl | rfl : i=0∨i=1∨i=2:=by omega
  all_goals (cases hi;cases hj;rfl)
theorem mk_base : Mk [] base:=⟨up_base,fun x=>by simp,rfl,fun y hy=>by simp at hy,List.nodup_nil,fun y hy=>by simp at hy⟩
theorem has_mem {t : List Nm} {s : S} (h : hasN t s=false) : ∀ x ∈ t,x.1 ≠ s:=by
 unfold hasN findN at h
 rw [Option.isSome_eq_false_iff,Option.isNone_iff_eq_none,List.find?_eq_none] at h
 intro x hx
 simpa using h x hx
theorem up_cons {x : Nm} {t : List Nm} : Up (x :: t)↔(∀ y ∈ t,lt x.1 y.1=true)∧Up t:=by
 constructor
 ·intro h
  refine ⟨fun y hy=>?_,fun i j a b hij ha hb=>h (i + 1) (j + 1) a b (by omega) (by simpa using ha) (by simpa using hb)⟩
  obtain ⟨k,hk,rfl⟩:=List.getElem_of_mem hy
  exact h 0 (k + 1) x _ (by omega) rfl (by simp)
 ·rintro ⟨h1,h2⟩ i j a b hij ha hb
  match i,j,hij with
  | 0,j + 1,_=>
   simp only [List.getElem?_cons_zero,Option.some.injEq] at ha
   subst ha
   exact h1 b (List.mem_of_getElem? (by simpa using hb))
  | i + 1,j + 1,hij=>exact h2 i j a b (by omega) (by simpa using ha) (by simpa using hb)
theorem ins_cons_lt {y x : Nm} {t : List Nm} (h : lt y.1 x.1=true) : insN (y :: t) x=y :: insN t x:=by
 unfold insN
 rw [List.takeWhile_cons_of_pos (by simpa using h),List.dropWhile_cons_of_pos (by simpa using h)]
 rfl
theorem ins_cons_ge {y x : Nm} {t : List Nm} (h : lt y.1 x.1=false) : insN (y :: t) x=x :: y :: t:=by
 unfold insN
 rw [List.takeWhile_cons_of_neg (by simpa using h),List.dropWhile_cons_of_neg (by simpa using h)]
 rfl
theorem ins_mem {t : List Nm} {x z : Nm} : z ∈ insN t x↔z ∈ t∨z=x:=by
 unfold insN
 have h:=List.takeWhile_append_dropWhile (p:=fun y : Nm=>lt y.1 x.1) (l:=t)
 constructor
 ·intro hz
  rcases List.mem_append.1 hz with hz | hz
  ·rcases List.mem_append.1 hz with hz | hz
   ·left;rw [← h];exact List.mem_append_left _ hz
   ·right;simpa using hz
  ·left;rw [← h];exact List.mem_append_right _ hz
 ·rintro (hz | rfl)
  ·rw [← h] at hz
   rcases List.mem_append.1 hz with hz | hz
   ·exact List.mem_append_left _ (List.mem_append_left _ hz)
   ·exact List.mem_append_right _ hz
  ·exact List.mem_append_left _ (List.mem_append_right _ (by simp))
theorem ins_up : ∀ {t : List Nm} {x : Nm},Up t→(∀ y ∈ t,y.1 ≠ x.1)→Up (insN t x)
 | [],x,_,_=>by
  intro i j a b hij ha hb
  have h1:=(List.getElem?_eq_some_iff.1 hb).1
  have h2 : j < 1:=h1
  omega
 | y :: t,x,hu,hn=>by
  have hu2:=up_cons.1 hu
  cases h : lt y.1 x.1 with
  | true=>
   rw [ins_cons_lt h]
   refine up_cons.2 ⟨fun z hz=>?_,ins_up hu2.2 (fun z hz=>hn z (List.mem_cons_of_mem _ hz))⟩
   rcases ins_mem.1 hz with hz | rfl
   ·exact hu2.1 z hz
   ·exact h
  | false=>
   rw [ins_cons_ge h]
   have hxy : lt x.1 y.1=true:=lt_conn h (hn y (by simp))
   refine up_cons.2 ⟨fun z hz=>?_,hu⟩
   rcases List.mem_cons.1 hz with rfl | hz
   ·exact hxy
   ·exact lt_tr hxy (hu2.1 z hz)
theorem mk_next {l : List En} {T : List Nm} (h : Mk l T) (y : En) (hp : EnP y) (hn : hasN T y.nm=false) : Mk (l ++ [y]) (insN T (y.nm,y.ki,y.nu)) where
 up:=ins_up h.up (has_mem hn)
 mem:=fun x=>by
  rw [ins_mem,h.mem]
  constructor
  ·rintro ((hx | ⟨z,hz,rfl⟩) | rfl)
   ·exact .inl hx
   ·exact .inr ⟨z,List.mem_append_left _ hz,rfl⟩
   ·exact .inr ⟨y,List.mem_append_right _ (by simp),rfl⟩
  ·rintro (hx | ⟨z,hz,rfl⟩)
   ·exact .inl (.inl hx)
   ·rcases List.mem_append.1 hz with hz | hz
    ·exact .inl (.inr ⟨z,hz,rfl⟩)
    ·obtain rfl : z=y:=by simpa using hz
     exact .inr rfl
 len:=by rw [insN_len,h.len,List.length_append];simp;omega
 ok:=fun z hz=>by
  rcases List.mem_append.1 hz with hz | hz
  ·exact h.ok z hz
  ·obtain rfl : z=y:=by simpa using hz
   exact hp
 nd:=by
  rw [List.map_append,List.nodup_append]
  refine ⟨h.nd,by simp,fun a ha b hb e=>?_⟩
  obtain ⟨z,hz,rfl⟩:=List.mem_map.1 ha
  obtain rfl : b=y.nm:=by simpa using hb
  exact has_mem hn _ ((h.mem _).2 (.inr ⟨z,hz,rfl⟩)) e
 nb:=fun z hz x hx=>by
  rcases List.mem_append.1 hz with hz | hz
  ·exact h.nb z hz x hx
  ·obtain rfl : z=y:=by simpa using hz
   exact has_mem hn x ((h.mem x).2 (.inl hx))
end Go.Proofs.YteibcfpepdbflaaGreat.MkP
namespace Go.Proofs.YteibcfpepdbflaaGreat.CkP
open Go Go.RowKit BindP BindD BindO BindW
open Byt (str)
def IsN (t : List Nm) (k : Int) (s : S) : Prop:=hasN t s=true∧(getN t s).2.1=k
theorem err_is {t : List Nm} {k : Int} {s : S} (h : errN t k s=0) : IsN t k s:=by
 unfold errN at h
 split at h
 ·rename_i h1
  split at h
  ·rename_i h2
   exact ⟨h1,h2⟩
  ·exact absurd h (by decide)
 ·exact absurd h (by decide)
theorem is_num {t : List Nm} {k : Int} {s : S} (h : IsN t k s) : ofN t k s=(getN t s).2.2:=by
 rw [ofN_get,if_pos h.1,if_pos h.2]
def CkX (t : List Nm) (F : List Nat) (lo : List S) (k : Int) (s : S) (m : Nat) : Prop:=
 (k=3→s ∈ lo∨(hasN t s=true∧((getN t s).2.1=3∨(getN t s).2.1=4)))∧(k=7→IsN t 1 s)∧(k=8→IsN t 2 s) ∧
 (k=9→IsN t 6 s∧∀ (i a : Nat),(getN t s).2.2=(i : Int)→F[i]?=some a→a=m)
mutual
def ckE (t : List Nm) (F : List Nat) (lo : List S) : Pe→Prop
 | .mk k _ _ s ar=>CkX t F lo k s ar.length∧ckEs t F lo ar
def ckEs (t : List Nm) (F : List Nat) (lo : List S) : List Pe→Prop
 | []=>True
 | a :: l=>ckE t F lo a∧ckEs t F lo l
end
theorem ckEs_snoc (t : List Nm) (F : List Nat) (lo : List S) : ∀ (l : List Pe) (a : Pe),ckEs t F lo (l ++ [a])↔ckEs t F lo l∧ckE t F lo a
 | [],a=>by simp [ckEs]
 | x :: l,a=>by simp only [List.cons_append,ckEs,ckEs_snoc t F lo l a,and_assoc]
theorem ckEs_take {t : List Nm} {F : List Nat} {lo : List S} {l : List Ex} {i : Nat} (h : i < l.length) : ckEs t F lo (exPs (l.take (i + 1)))↔ckEs t F lo (exPs (l.take i))∧ckE t F lo l[i].p:=by
 rw [List.take_succ_eq_append_getElem h,exPs_map,List.map_append,← exPs_map]
 exact ckEs_snoc _ _ _ _ _
def CkO (t : List Nm) (lo : List S) (made : Nat) (k : Int) (s : S) : Prop:=
 (k=2→made + 1≤16)∧(k=11→made + 2≤16)∧(k=3→s ∈ lo∨(hasN t s=true∧(getN t s).2.1=3))∧(k=4→IsN t 2 s) ∧
 (k=5∨k=6→IsN t 1 s)∧(k=17∨k=18→IsN t 7 s)
def nextL (lo : List S) : Ps→List S
 | .mk k _ s _ _ _=>if k=2 then lo ++ [s] else lo
mutual
def ckS (t : List Nm) (F : List Nat) (lo : List S) (made : Nat) : Ps→Prop
 | .mk k _ s ar b e=>ckEs t F lo ar∧CkO t lo made k s∧ckB t F (if k=11 then lo ++ [s] else lo) (if k=11 then made + 2 else made) b∧ckB t F lo ((if k=11 then made + 2 else made) + locs b) e
def ckB (t : List Nm) (F : List Nat) (lo : List S) (made : Nat) : List Ps→Prop
 | []=>True
 | a :: l=>ckS t F lo made a∧ckB t F (nextL lo a) (made + locs1 a) l
end
def nextLs (lo : List S) : List Ps→List S
 | []=>lo
 | a :: l=>nextLs (nextL lo a) l
theorem nextLs_snoc : ∀ (l : List Ps) (lo : List S) (a : Ps),nextLs lo (l ++ [a])=nextL (nextLs lo l) a
 | [],_,_=>rfl
 | x :: l,lo,a=>nextLs_snoc l (nextL lo x) a
theorem nextL_len (lo : List S) (a : Ps) : (nextL lo a).length≤lo.length + 1:=by
 cases a
 simp only [nextL]
 split
 ·simp
 ·omega
theorem ckB_snoc (t : List Nm) (F : List Nat) : ∀ (l : List Ps) (lo : List S) (made : Nat) (a : Ps),ckB t F lo made (l ++ [a])↔ckB t F lo made l∧ckS t F (nextLs lo l) (made + locs l) a
 | [],lo,made,a=>by simp [ckB,nextLs,locs]
 | x :: l,lo,made,a=>by
  simp only [List.cons_append,ckB,ckB_snoc t F l,nextLs,locs,and_assoc,Nat.add_assoc]
end Go.Proofs.YteibcfpepdbflaaGreat.CkP
namespace Go.Proofs.YteibcfpepdbflaaGreat.BnP
open Go Go.RowKit BindP BindD BindO BindW BindN BindG BindX BindB BindS BindK BindT BindA BkA BkB BkC BkD BkE BkF BkG BkI TxA
open Byt (str)
section
variable {t : List Nm} {tx : List S} {pl : List Int}
def Even (m : Mp) : Prop:=m.ps.length=m.rs.length∧m.ls.length=m.rs.length
def More (m m' : Mp) : Prop:=∃ q,m'.ps=m.ps ++ q
theorem More.refl (m : Mp) : More m m:=⟨[],by simp⟩
theorem More.trans {a b c : Mp} (h : More a b) (k : More b c) : More a c:=by
 obtain ⟨q,e⟩:=h
 obtain ⟨q2,e2⟩:=k
 exact ⟨q ++ q2,by rw [e2,e,List.append_assoc]⟩
theorem rtn_even {m : Mp} {pa : List S} {l : List Ps} (h : Even m) : Even (rtnI t tx m pa l):=by
 obtain ⟨h1,h2⟩:=h
 unfold rtnI
 exact ⟨by simp [h1],by simp [h2]⟩
theorem rtn_more {m : Mp} {pa : List S} {l : List Ps} : More m (rtnI t tx m pa l):=⟨_,rfl⟩
theorem whn_even {m : Mp} {wh : List Pe} (h : Even m) : Even (whnI t tx m wh).1:=by
 cases wh with
 | nil=>exact h
 | cons a l=>exact rtn_even h
theorem wys_even : ∀ (l : List Xt) (r : Mp × List Wy),Even r.1→Even (l.foldl (xwI t tx) r).1
 | [],_,h=>h
 | x :: l,r,h=>wys_even l (xwI t tx r x) (whn_even h)
theorem obs_even : ∀ (l : List Ob) (r : Mp × List Tp),Even r.1→Even (obsI t tx pl r l).1
 | [],_,h=>h
 | o :: l,r,h=>obs_even l (obwI t tx pl r o) (wys_even _ _ h)
theorem des_even : ∀ (l : List Rl) (r : Mp × List De),Even r.1→Even (desI t tx r l).1
 | [],_,h=>h
 | o :: l,r,h=>des_even l (dewI t tx r o) (rtn_even (whn_even h))
theorem fns_more : ∀ (l : List BindO.Fn) (r : Mp × List Int),More r.1 (fnsI t tx r l).1
 | [],r=>More.refl r.1
 | o :: l,r=>(rtn_more (t:=t) (tx:=tx) (m:=r.1) (pa:=o.ps.l) (l:=stPs o.body.l)).trans (fns_more l (fnwI t tx r o))
theorem dms_more : ∀ (l : List BindO.Fn) (r : Mp × List Int),More r.1 (dmsI t tx r l).1
 | [],r=>More.refl r.1
 | o :: l,r=>(rtn_more (t:=t) (tx:=tx) (m:=r.1) (pa:=[]) (l:=stPs o.body.l)).trans (dms_more l (dmwI t tx r o))
theorem fns_pre : ∀ (l : List BindO.Fn) (r : Mp × List Int),∃ q,(fnsI t tx r l).2=r.2 ++ q
 | [],r=>⟨[],by rw [List.append_nil];rfl⟩
 | o :: l,r=>by
  obtain ⟨q,h⟩:=fns_pre l (fnwI t tx r o)
  exact ⟨[(r.1.rs.length : Int)] ++ q,by show (fnsI t tx (fnwI t tx r o) l).2=_;rw [h];unfold fnwI;rw [List.append_assoc]⟩
theorem fns_at : ∀ (l : List BindO.Fn) (r : Mp × List Int) (j : Nat) (h : j < l.length),Even r.1→∃ k : Nat,(fnsI t tx r l).2[r.2.length + j]?=some (k : Int)∧(fnsI t tx r l).1.ps[k]?=some (l[j].ps.l.length : Int)
 | [],r,j,h,_=>by simp at h
 | o :: l,r,0,_,he=>by
  obtain ⟨q,h⟩:=fns_pre (t:=t) (tx:=tx) l (fnwI t tx r o)
  obtain ⟨q2,h2⟩:=fns_more (t:=t) (tx:=tx) l (fnwI t tx r o)
  refine ⟨r.1.rs.length,?_,?_⟩
  ·show (fnsI t tx (fnwI t tx r o) l).2[_]?=_
   rw [h]
   unfold fnwI
   simp
  ·show (fnsI t tx (fnwI t tx r o) l).1.ps[_]?=_
   rw [h2]
   unfold fnwI rtnI
   simp [← he.1]
 | o :: l,r,j + 1,h,he=>by
  obtain ⟨k,h1,h2⟩:=fns_at l (fnwI t tx r o) j (by simpa using h) (rtn_even he)
  refine ⟨k,?_,h2⟩
  show (fnsI t tx (fnwI t tx r o) l).2[_]?=_
  have e : (fnwI t tx r o).2.length=r.2.length + 1:=by simp [fnwI]
  rw [e] at h1
  rw [show r.2.length + (j + 1)=r.2.length + 1 + j by omega]
  exact h1
theorem More.at_ {m m' : Mp} (h : More m m') {k : Nat} {x : Int} (hk : m.ps[k]?=some x) : m'.ps[k]?=some x:=by
 obtain ⟨q,e⟩:=h
 rw [e,List.getElem?_append_left (List.getElem?_eq_some_iff.1 hk).1]
 exact hk
end
theorem place_at : ∀ (l : List S) (s : S),s ∈ l→∃ i : Nat,place l s=(i : Int)∧l[i]?=some s
 | [],_,h=>by cases h
 | x :: l,s,h=>by
  unfold place
  by_cases hp : 0≤place l s
  ·rw [if_pos hp]
   by_cases hm : s ∈ l
   ·obtain ⟨i,e,hi⟩:=place_at l s hm
    exact ⟨i + 1,by rw [e];rfl,by simpa using hi⟩
   ·have:=place_none l s hm;omega
  ·rw [if_neg hp]
   have hm : s ∉ l:=fun c=>by
    obtain ⟨i,e,_⟩:=place_at l s c
    omega
   have hx : x=s:=by
    rcases List.mem_cons.1 h with c | c
    ·exact c.symm
    ·exact absurd c hm
   rw [if_pos hx]
   exact ⟨0,rfl,by simp [hx]⟩
theorem wth_mem {out : List S} {s x : S} : x ∈ wth out s↔x ∈ out∨x=s:=by
 unfold wth
 split
 ·rename_i h
  constructor
  ·exact .inl
  ·rintro (c | rfl)
   ·exact c
   ·exact h
 ·simp
theorem wths_mem : ∀ (l out : List S) (x : S),x ∈ l.foldl wth out↔x ∈ out∨x ∈ l
 | [],out,x=>by simp
 | s :: l,out,x=>by rw [List.foldl_cons,wths_mem l,wth_mem,List.mem_cons,or_assoc]
end Go.Proofs.YteibcfpepdbflaaGreat.BnP
