/- clewref10.boundBlock, BoundBlock: true where what they ask holds. Conditions: sizes within the reach. -/
import Derived.Test.YteibcfpepdbflaaGreatBoW
open Go.Lib renaming hid → hI
namespace Go.Proofs.YteibcfpepdbflaaGreat.BoX
open Go Go.RowKit BindP BindD BindO BindW BindG BindX BindB BindT BindU RtS RtX RtY RtZ RtB RtC RtD BkB BoD BoW
open Byt (str)
structure B1 (w : World) (p0 : Nat) (cs1 : Array Value) (T1 : TypeId) (wr : World) : Prop where
 b1 : wr.heap[p0]?=some (.cells cs1 T1 (0,0))
 low : Below w.heap.size w wr
theorem B1.on {w : World} {p0 : Nat} {cs1 : Array Value} {T1 : TypeId} {wr w2 : World} (h : B1 w p0 cs1 T1 wr) (hb : Below wr.heap.size wr w2) : B1 w p0 cs1 T1 w2:=
 ⟨(hb.block _ (Array.getElem?_eq_some_iff.1 h.b1).1).trans h.b1,h.low.trans (hb.mono h.low.size)⟩
theorem b2one {w : World} {p0 p1 : Nat} {cs1 cs2 : Array Value} {T1 T2 : TypeId} {wr : World} (h : B2 w p0 p1 cs1 T1 cs2 T2 wr) : B1 w p0 cs1 T1 wr:=⟨h.b1,h.low⟩
theorem bBd_mem {Q : Tn} {L : Nat} : ∀ (l : List Ps),bBd Q L l→∀ a ∈ l,sBd Q L a
 | [],_,_,h=>by cases h
 | a :: l,h,b,hb=>by
  unfold bBd at h
  rcases List.mem_cons.1 hb with rfl | hb
  ·exact h.1
  ·exact bBd_mem l h.2 b hb
set_option maxRecDepth 100000 in
set_option maxHeartbeats 32000000 in
theorem boundBlock_t (Q : Tn) (L : Nat) (y0 y1 y2 y3 y8 y9 y10 y14 : Value) (tA pA gA fA dA qA : Option Addr) (tc pc gc fc dc qc nF nP : Nat) (hL : L≤1000) : ∀ (N : Nat) (l : List St),nB (stPs l)≤N→∀ (A : Option Addr) (c : Nat) (w : World),TbH Q fA qA fc qc nF nP w→Ls top w A c l→nB (stPs l)≤1048576→bBd Q L (stPs l)→l.length≤256 →
  Calls Tryz.prog 44 #[.agg #[y0,y1,y2,y3,.slice tA Q.tx tc,.int .i64 Q.fl,.slice pA Q.pr pc,.slice gA Q.gl gc,y8,y9,y10,.slice fA nF fc,.slice dA Q.da dc,.slice qA nP qc,y14],.slice A l.length c,.int .i64 (L : Int)] w (TrueV w):=by
 intro N
 induction N using Nat.strongRecOn with
 | _ N ihN=>
  intro l hlN A c w hT hsl hnB hbd h256
  have HIH:=hI (show ∀ l' : List St,nB (stPs l') < N→_ from fun l' h=>ihN _ h l' (Nat.le_refl _))
  obtain ⟨m,hm⟩ : ∃ m,l.length=m:=⟨_,rfl⟩
  have HM:=hI hm
  have HSL:=hI hsl
  have HSZ:=hI (And.intro hlN hnB)
  have HBD:=hI hbd
  have HT:=hI hT
  rw [hm] at h256 ⊢
  obtain ⟨V1,hV1⟩ : ∃ W,w.alloc (.cells #[y0,y1,y2,y3,.slice tA Q.tx tc,.int .i64 Q.fl,.slice pA Q.pr pc,.slice gA Q.gl gc,y8,y9,y10,.slice fA nF fc,.slice dA Q.da dc,.slice qA nP qc,y14] 39)=W:=⟨_,rfl⟩
  obtain ⟨m1,s1,b1⟩:=made hV1
  obtain ⟨p0,hp0⟩ : ∃ p,w.heap.size=p:=⟨_,rfl⟩
  rw [hp0] at m1
  have HB0:=hI (show B1 w p0 #[y0,y1,y2,y3,.slice tA Q.tx tc,.int .i64 Q.fl,.slice pA Q.pr pc,.slice gA Q.gl gc,y8,y9,y10,.slice fA nF fc,.slice dA Q.da dc,.slice qA nP qc,y14] 39 V1 from ⟨m1,b1⟩)
  clear hm ihN hsl hlN hnB hbd hT m1 s1 b1
  go_enter Tryz.func44,Tryz.ntmps44
  go_wp2_with fail
  clear hV1 hp0
  go_loopw [15] (fun iv wr=>∃ j : Nat,j≤m∧iv=.int .i64 (j : Int)∧B1 w p0 #[y0,y1,y2,y3,.slice tA Q.tx tc,.int .i64 Q.fl,.slice pA Q.pr pc,.slice gA Q.gl gc,y8,y9,y10,.slice fA nF fc,.slice dA Q.da dc,.slice qA nP qc,y14] 39 wr) (fun iv _=>m - (intOf iv).toNat)
  case atStart=>exact ⟨0,Nat.zero_le _,rfl,HB0.out⟩
  case round=>
   obtain ⟨wh,rfl⟩ : ∃ W,W=wr:=⟨_,rfl⟩
   obtain ⟨j,hj,rfl,hb⟩:=hrel
   have HB:=hI hb
   clear hb
   by_cases hlt : j < m
   ·have hjl : j < l.length:=by rw [HM.out];exact hlt
    obtain ⟨b1,o1,rfl,-,hc⟩:=Lg.at_ stE_len (Lg.keep stays_s (Keep.below HB.out.low) HSL.out) hjl
    have htk:=take_nB hjl
    have hbt:=bBd_mem _ HBD.out l[j].p (by rw [stPs_map];exact List.mem_map.2 ⟨_,List.getElem_mem hjl,rfl⟩)
    obtain ⟨⟨k,n,s,Ca,ca,ar,Cb,cb,bo,Ce,ce,el⟩,hy⟩ : ∃ y,l[j]=y:=⟨_,rfl⟩
    have HP:=hI ((HSL.out.2 _ (hy ▸ List.getElem_mem hjl)).open_)
    rw [hy] at hc htk hbt
    unfold St.p nS at htk
    simp only [St.p,sBd] at hbt
    rw [exPs_map,List.length_map,← exPs_map,stPs_map bo,List.length_map,← stPs_map,stPs_map el,List.length_map,← stPs_map] at hbt
    obtain ⟨rfl,⟨nm,hsh⟩,hth,h19,hxa,hbb,hbe⟩:=hbt
    have HSH:=hI hsh
    have HTH:=hI hth
    have H19:=hI h19
    have HXA:=hI hxa
    have HBE:=hI (And.intro hbb hbe)
    have hz:=HSZ.out
    have HZ:=hI (show nEs (exPs ar)≤1048576∧(nB (stPs bo) < N∧nB (stPs bo)≤1048576)∧(nB (stPs el) < N∧nB (stPs el)≤1048576) from ⟨by omega,by omega,by omega⟩)
    have har : ar.length≤nEs (exPs ar):=by
     have h1:=sum_len (m:=fun x : Ex=>nE x.p) (fun x=>nE_pos x.p) ar
     rw [← nEs_sum] at h1
     exact h1
    have zar : ar.length≤1048576:=by omega
    have c0 : wh.cell? ⟨b1,o1 + j * 6,none⟩=some (.int .i64 k):=hc 0 _ rfl
    have c1 : wh.cell? ⟨b1,o1 + j * 6 + 1,none⟩=some (.int .i64 n):=hc 1 _ rfl
    have c2 : wh.cell? ⟨b1,o1 + j * 6 + 2,none⟩=some (.string (str [])):=hc 2 _ rfl
    have c3 : wh.cell? ⟨b1,o1 + j * 6 + 3,none⟩=some (.slice Ca ar.length ca):=hc 3 _ rfl
    have c4 : wh.cell? ⟨b1,o1 + j * 6 + 4,none⟩=some (.slice Cb bo.length cb):=hc 4 _ rfl
    have c5 : wh.cell? ⟨b1,o1 + j * 6 + 5,none⟩=some (.slice Ce el.length ce):=hc 5 _ rfl
    have k0 : (0 : Int)≤(j : Int):=by omega
    have k1 : (j : Int) < (m : Int):=by omega
    obtain ⟨wa,hwa⟩ : ∃ W1,wh.alloc (.cells #[.int .i64 k,.int .i64 n,.string (str []),.slice Ca ar.length ca,.slice Cb bo.length cb,.slice Ce el.length ce] 65)=W1:=⟨_,rfl⟩
    obtain ⟨ma,sa,ba⟩:=made hwa
    obtain ⟨p1,hp1⟩ : ∃ q,wh.heap.size=q:=⟨_,rfl⟩
    rw [hp1] at ma
    have HXA2:=hI (show B2 w p0 p1 #[y0,y1,y2,y3,.slice tA Q.tx tc,.int .i64 Q.fl,.slice pA Q.pr pc,.slice gA Q.gl gc,y8,y9,y10,.slice fA nF fc,.slice dA Q.da dc,.slice qA nP qc,y14] 39 #[.int .i64 k,.int .i64 n,.string (str []),.slice Ca ar.length ca,.slice Cb bo.length cb,.slice Ce el.length ce] 65 wa from ⟨(HB.out.on ba).b1,ma,(HB.out.on ba).low⟩)
    obtain ⟨x0,x1,x2,x3,x4,x5,xf⟩:=cells6 ma
    clear hc htk hz har hy hjl hsh hth h19 hxa hbb hbe ma sa ba
    go_wp2_with fail
    clear hwa hp1
    refine (shape_t k n [] Ca Cb Ce ar.length bo.length el.length ca cb ce nm wa HSH.out).mono ?_
    rintro e w2 ⟨b,rfl,hb⟩
    have HX2:=hI (HXA2.out.on hb)
    clear hb c0 c1 c2 c3 c4 c5 x0 x1 x2 x3 x4 x5 xf
    obtain ⟨t0,t1,t2,t3,t4,t5,t6,t7,t8,t9,t10,t11,t12,t13,t14,tf⟩:=cells15 HX2.out.b1
    obtain ⟨x0,x1,x2,x3,x4,x5,xf⟩:=cells6 HX2.out.b2
    go_upto_region 5 with fail
    go_cut [45] (fun v wx=>v=.bool false∧B2 w p0 p1 #[y0,y1,y2,y3,.slice tA Q.tx tc,.int .i64 Q.fl,.slice pA Q.pr pc,.slice gA Q.gl gc,y8,y9,y10,.slice fA nF fc,.slice dA Q.da dc,.slice qA nP qc,y14] 39 #[.int .i64 k,.int .i64 n,.string (str []),.slice Ca ar.length ca,.slice Cb bo.length cb,.slice Ce el.length ce] 65 wx)
    case first=>
     by_cases hk9 : k=19
     ·subst hk9
      have hm1:=len19 HSH.out
      have z01 : (0 : Int) < (ar.length : Int):=by omega
      obtain ⟨⟨b2,o2,hA,-,hc0⟩,HQ0⟩:=And.intro (Lg.at_ exE_len HP.out.1 (show 0 < ar.length by omega)) trivial
      subst hA
      obtain ⟨⟨ek,ep,en,es,eA,ec,er⟩,hy⟩ : ∃ y,ar[0]=y:=⟨_,rfl⟩
      have HD0:=hI (show ∀ U,Below w.heap.size w U→U.cell? ⟨b2,o2,none⟩=some (.int .i64 ek) from fun U hU=>by
       obtain ⟨b3,o3,he,-,hc⟩:=Lg.at_ exE_len (show Lx top U (some ⟨b2,o2,none⟩) ca ar from Lg.keep stays_x (Keep.below hU) HP.out.1) (show 0 < ar.length by omega)
       injection he with he
       injection he with he1 he2
       subst he1 he2
       rw [hy] at hc
       have h:=hc 0 _ rfl
       simpa using h)
      have hh : headK (exPs ar)=ek:=by
       cases ar with
       | nil=>simp at hm1
       | cons a l=>
        simp only [List.getElem_cons_zero] at hy
        subst hy
        rfl
      have he:=H19.out rfl
      rw [hh] at he
      have qe : (ek != 18)=false:=by rw [he];rfl
      clear hc0 HQ0 hy hh he hm1
      go_wp2_with fail
      refine (there_t Q L y0 y1 y2 y3 y8 y9 y10 y14 tA pA gA fA dA qA tc pc gc fc dc qc nF nP 19 n (some ⟨b2,o2,none⟩) Cb Ce ar.length bo.length el.length ca cb ce w2 hL HT.out.lo HTH.out).mono ?_
      rintro e w3 ⟨rfl,hb⟩
      have HX3:=hI (HX2.out.on hb)
      have d0:=HD0.out w3 HX3.out.low
      clear hb t0 t1 t2 t3 t4 t5 t6 t7 t8 t9 t10 t11 t12 t13 t14 tf x0 x1 x2 x3 x4 x5 xf
      obtain ⟨x0,x1,x2,x3,x4,x5,xf⟩:=cells6 HX3.out.b2
      go_wp2_with fail
      go_meet
      exact ⟨rfl,HX3.out⟩
     ·have qk9 : (k == 19)=false:=beq_eq_false_iff_ne.2 hk9
      clear hk9
      go_wp2_with fail
      refine (there_t Q L y0 y1 y2 y3 y8 y9 y10 y14 tA pA gA fA dA qA tc pc gc fc dc qc nF nP k n Ca Cb Ce ar.length bo.length el.length ca cb ce w2 hL HT.out.lo HTH.out).mono ?_
      rintro e w3 ⟨rfl,hb⟩
      have HX3:=hI (HX2.out.on hb)
      clear hb t0 t1 t2 t3 t4 t5 t6 t7 t8 t9 t10 t11 t12 t13 t14 tf x0 x1 x2 x3 x4 x5 xf
      obtain ⟨x0,x1,x2,x3,x4,x5,xf⟩:=cells6 HX3.out.b2
      go_wp2_with fail
      go_meet
      exact ⟨rfl,HX3.out⟩
    case rest=>
     obtain ⟨rfl,hz⟩:=hcut
     have HX3:=hI hz
     clear hz t0 t1 t2 t3 t4 t5 t6 t7 t8 t9 t10 t11 t12 t13 t14 tf x0 x1 x2 x3 x4 x5 xf HX2
     obtain ⟨x0,x1,x2,x3,x4,x5,xf⟩:=cells6 HX3.out.b2
     go_wp2_with fail
     clear x0 x1 x2 x3 x4 x5 xf
     go_loopw [49] (fun iv wr=>∃ i : Nat,i≤ar.length∧iv=.int .i64 (i : Int)∧B2 w p0 p1 #[y0,y1,y2,y3,.slice tA Q.tx tc,.int .i64 Q.fl,.slice pA Q.pr pc,.slice gA Q.gl gc,y8,y9,y10,.slice fA nF fc,.slice dA Q.da dc,.slice qA nP qc,y14] 39 #[.int .i64 k,.int .i64 n,.string (str []),.slice Ca ar.length ca,.slice Cb bo.length cb,.slice Ce el.length ce] 65 wr) (fun iv _=>ar.length - (intOf iv).toNat)
     case atStart=>exact ⟨0,Nat.zero_le _,rfl,HX3.out⟩
     case round=>
      obtain ⟨i,hi,rfl,hz⟩:=hrel
      have HX4:=hI hz
      clear hz
      obtain ⟨t0,t1,t2,t3,t4,t5,t6,t7,t8,t9,t10,t11,t12,t13,t14,tf⟩:=cells15 HX4.out.b1
      obtain ⟨x0,x1,x2,x3,x4,x5,xf⟩:=cells6 HX4.out.b2
      by_cases hlt2 : i < ar.length
      ·obtain ⟨b2,o2,rfl,-,hc⟩:=Lg.at_ exE_len (show Lx top wr Ca ca ar from Lg.keep stays_x (Keep.below HX4.out.low) HP.out.1) hlt2
       have hmem : ar[i] ∈ ar:=List.getElem_mem hlt2
       have hbx:=HXA.out ar[i].p (by rw [exPs_map];exact List.mem_map.2 ⟨_,hmem,rfl⟩)
       obtain ⟨⟨ek,ep,en,es,eA,ec,er⟩,hy⟩ : ∃ y,ar[i]=y:=⟨_,rfl⟩
       rw [hy] at hc hmem hbx
       have HME:=hI (And.intro (HP.out.1.2 _ hmem) (And.intro (show nE (Ex.mk ek ep en es eA ec er).p≤1048576 by
        have h1:=sum_mem (m:=fun x : Ex=>nE x.p) ar _ hmem
        rw [← nEs_sum] at h1
        have:=HZ.out.1
        omega) hbx))
       have d0 : wr.cell? ⟨b2,o2 + i * 5,none⟩=some (.int .i64 ek):=hc 0 _ rfl
       have d1 : wr.cell? ⟨b2,o2 + i * 5 + 1,none⟩=some (.int .i64 ep):=hc 1 _ rfl
       have d2 : wr.cell? ⟨b2,o2 + i * 5 + 2,none⟩=some (.int .i64 en):=hc 2 _ rfl
       have d3 : wr.cell? ⟨b2,o2 + i * 5 + 3,none⟩=some (.string (str es)):=hc 3 _ rfl
       have d4 : wr.cell? ⟨b2,o2 + i * 5 + 4,none⟩=some (.slice eA er.length ec):=hc 4 _ rfl
       have k2 : (0 : Int)≤(i : Int):=by omega
       have k3 : (i : Int) < (ar.length : Int):=by omega
       obtain ⟨wb,hwb⟩ : ∃ W1,wr.alloc (.cells #[.int .i64 ek,.int .i64 ep,.int .i64 en,.string (str es),.slice eA er.length ec] 68)=W1:=⟨_,rfl⟩
       obtain ⟨mb,sb,bb⟩:=made hwb
       have HX5:=hI (HX4.out.on bb)
       obtain ⟨pd,hpd⟩ : ∃ q,wr.heap.size=q:=⟨_,rfl⟩
       rw [hpd] at mb
       obtain ⟨v0,v1,v2,v3,v4,vf⟩:=cells5 mb
       clear hc hy hmem hbx mb sb bb t0 t1 t2 t3 t4 t5 t6 t7 t8 t9 t10 t11 t12 t13 t14 tf x0 x1 x2 x3 x4 x5 xf
       obtain ⟨t0,t1,t2,t3,t4,t5,t6,t7,t8,t9,t10,t11,t12,t13,t14,tf⟩:=cells15 HX5.out.b1
       obtain ⟨x0,x1,x2,x3,x4,x5,xf⟩:=cells6 HX5.out.b2
       go_wp2_with fail
       refine (bound_t Q L y0 y1 y2 y3 y8 y9 y10 y14 tA pA gA fA dA qA tc pc gc fc dc qc nF nP hL _ (k == 1) wb (HT.out.below HX5.out.low) (RdX.keep (Keep.below HX5.out.low) HME.out.1) HME.out.2.1 HME.out.2.2).mono ?_
       rintro e w4 ⟨rfl,hb4⟩
       have HX6:=hI (HX5.out.on hb4)
       clear hb4 t0 t1 t2 t3 t4 t5 t6 t7 t8 t9 t10 t11 t12 t13 t14 tf x0 x1 x2 x3 x4 x5 xf v0 v1 v2 v3 v4 vf
       go_wp2_with fail
       go_roundw
       case rel=>exact ⟨i + 1,by omega,by go_num,HX6.out⟩
       case measure=>simp [intOf];omega
      ·obtain rfl : i=ar.length:=by omega
       go_wp2_with fail
       refine (HIH.out bo HZ.out.2.1.1 Cb cb wr (HT.out.below HX4.out.low) (Lg.keep stays_s (Keep.below HX4.out.low) HP.out.2.1) HZ.out.2.1.2 HBE.out.1.1 HBE.out.1.2).mono ?_
       rintro e w4 ⟨rfl,hb4⟩
       have HX6:=hI (HX4.out.on hb4)
       clear hb4 t0 t1 t2 t3 t4 t5 t6 t7 t8 t9 t10 t11 t12 t13 t14 tf x0 x1 x2 x3 x4 x5 xf
       obtain ⟨t0,t1,t2,t3,t4,t5,t6,t7,t8,t9,t10,t11,t12,t13,t14,tf⟩:=cells15 HX6.out.b1
       obtain ⟨x0,x1,x2,x3,x4,x5,xf⟩:=cells6 HX6.out.b2
       go_wp2_with fail
       refine (HIH.out el HZ.out.2.2.1 Ce ce w4 (HT.out.below HX6.out.low) (Lg.keep stays_s (Keep.below HX6.out.low) HP.out.2.2) HZ.out.2.2.2 HBE.out.2.1 HBE.out.2.2).mono ?_
       rintro e w5 ⟨rfl,hb5⟩
       have HX7:=hI (HX6.out.on hb5)
       clear hb5 t0 t1 t2 t3 t4 t5 t6 t7 t8 t9 t10 t11 t12 t13 t14 tf x0 x1 x2 x3 x4 x5 xf
       go_wp2_with fail
       go_roundw
       case rel=>exact ⟨j + 1,by omega,by go_num,b2one HX7.out⟩
       case measure=>simp [intOf];omega
   ·obtain rfl : m=j:=by omega
    have q : decide ((m : Int)≤256)=true:=decide_eq_true (by omega)
    go_wp2_with fail
    go_ret
    exact ⟨rfl,HB.out.low⟩
set_option maxRecDepth 100000 in
set_option maxHeartbeats 16000000 in
theorem BoundBlock_t (Q : Tn) (L : Nat) (y0 y1 y2 y3 y8 y9 y10 y14 : Value) (tA pA gA fA dA qA : Option Addr) (tc pc gc fc dc qc nF nP : Nat) (hL : L≤1000) (l : List St) (A : Option Addr) (c : Nat) (w : World) (hT : TbH Q fA qA fc qc nF nP w) (hsl : Ls top w A c l) (hn : nB (stPs l)≤1048576) (hbd : bBd Q L (stPs l)) (h256 : l.length≤256) (hd : dB 65 (stPs l)≤32) :
  Calls Tryz.prog 12 #[.agg #[y0,y1,y2,y3,.slice tA Q.tx tc,.int .i64 Q.fl,.slice pA Q.pr pc,.slice gA Q.gl gc,y8,y9,y10,.slice fA nF fc,.slice dA Q.da dc,.slice qA nP qc,y14],.slice A l.length c,.int .i64 (L : Int)] w (TrueV w):=by
 have HD:=hI (fun u (hu : Below w.heap.size w u)=>depthBlock_o l A c u (Lg.keep stays_s (Keep.below hu) hsl) hn)
 have HC:=hI (fun u (hu : Below w.heap.size w u)=>boundBlock_t Q L y0 y1 y2 y3 y8 y9 y10 y14 tA pA gA fA dA qA tc pc gc fc dc qc nF nP hL _ l (Nat.le_refl _) A c u (hT.below hu) (Lg.keep stays_s (Keep.below hu) hsl) hn hbd h256)
 obtain ⟨dq,hdq⟩ : ∃ q,dB 65 (stPs l)=q:=⟨_,rfl⟩
 rw [hdq] at HD hd
 have q : decide ((dq : Int)≤32)=true:=decide_eq_true (by omega)
 obtain ⟨V1,hV1⟩ : ∃ W,w.alloc (.cells #[y0,y1,y2,y3,.slice tA Q.tx tc,.int .i64 Q.fl,.slice pA Q.pr pc,.slice gA Q.gl gc,y8,y9,y10,.slice fA nF fc,.slice dA Q.da dc,.slice qA nP qc,y14] 39)=W:=⟨_,rfl⟩
 obtain ⟨m1,s1,b1⟩:=made hV1
 obtain ⟨p0,hp0⟩ : ∃ p,w.heap.size=p:=⟨_,rfl⟩
 rw [hp0] at m1
 have HB0:=hI (show B1 w p0 #[y0,y1,y2,y3,.slice tA Q.tx tc,.int .i64 Q.fl,.slice pA Q.pr pc,.slice gA Q.gl gc,y8,y9,y10,.slice fA nF fc,.slice dA Q.da dc,.slice qA nP qc,y14] 39 V1 from ⟨m1,b1⟩)
 clear hsl hn hdq hT hbd h256 hd m1 s1 b1
 go_enter Tryz.func12,Tryz.ntmps12
 go_wp2_with fail
 refine (HD.out V1 HB0.out.low).mono ?_
 rintro e w2 ⟨rfl,hb⟩
 have HB2:=hI (HB0.out.on hb)
 clear hb hV1 hp0
 obtain ⟨t0,t1,t2,t3,t4,t5,t6,t7,t8,t9,t10,t11,t12,t13,t14,tf⟩:=cells15 HB2.out.b1
 go_wp2_with fail
 refine (HC.out w2 HB2.out.low).mono ?_
 rintro e w3 ⟨rfl,hb⟩
 have HB3:=hI (HB2.out.on hb)
 clear hb t0 t1 t2 t3 t4 t5 t6 t7 t8 t9 t10 t11 t12 t13 t14 tf
 go_wp2_with fail
 go_ret
 exact ⟨rfl,HB3.out.low⟩
end Go.Proofs.YteibcfpepdbflaaGreat.BoX
