/- The binder's row: statements bound in the program's way, the locals kept. Conditions: the names rise; lengths and sizes within the reach. -/
import Derived.Test.YteibcfpepdbflaaGreatBkA
open Go.Lib renaming hid → hI
open Go.Proofs.YteibcfpepdbflaaGreat.RgD renaming tk → tK, sA → zA, s0 → zB, s1 → zC
namespace Go.Proofs.YteibcfpepdbflaaGreat.BindQ
open Go Go.RowKit BindP BindD BindO BindW BindN BindG BindX BindB BindS BindK BindT
open Byt (str)
theorem stI_parts (t : List Nm) (tx lo : List S) (k n : Int) (s : S) (ar : List Pe) (b e : List Ps) : stI t tx lo (.mk k n s ar b e) =
  (.mk (kd lo k s) (nm t lo k n s) [] (bindEs (exI t tx lo) ar) (rowI t tx (lo ++ ext k s) b).1 (rowI t tx (BindP.blank (lo ++ ext k s).length (rowI t tx (lo ++ ext k s) b).2) e).1,
   if k=11 then (BindP.blank (BindP.blank (lo ++ ext k s).length (rowI t tx (lo ++ ext k s) b).2).length (rowI t tx (BindP.blank (lo ++ ext k s).length (rowI t tx (lo ++ ext k s) b).2) e).2).set lo.length [] else BindP.blank (BindP.blank (lo ++ ext k s).length (rowI t tx (lo ++ ext k s) b).2).length (rowI t tx (BindP.blank (lo ++ ext k s).length (rowI t tx (lo ++ ext k s) b).2) e).2):=by
 simp only [stI]
set_option maxRecDepth 100000 in
set_option maxHeartbeats 16000000 in
theorem row_w (t : List Nm) (hu : Up t) (tx : List S) (Bb : Nat) (w0 : World) (A1 A2 : Option Addr) (n1 c1 n2 c2 : Nat) (ht : Sk.Rd nmE w0 A1 n1 t) (hx : Sq.Rd sv w0 A2 n2 tx) (hn1 : n1≤17592186043904) (hn2 : n2≤17592186043904) :
  ∀ (N : Nat) (l : List St),nB (stPs l)≤N→RowC t tx Bb w0.heap.size (.slice A1 n1 c1) (.slice A2 n2 c2) w0 l:=by
 intro N
 induction N using Nat.strongRecOn with
 | _ N ihN=>
  intro l hlN A c w lv0 lo hb0 hw0 hl0 hnB hszl
  have HT:=hI (And.intro ht hx)
  have HN:=hI (And.intro hn1 hn2)
  have HU:=hI hu
  have HW:=hI hw0
  have HL:=hI hl0
  have HIH:=hI (show ∀ l' : List St,nB (stPs l') < N→BlkC t tx Bb w0.heap.size (.slice A1 n1 c1) (.slice A2 n2 c2) w0 l' from fun l' h=>block_w t tx Bb w0.heap.size (.slice A1 n1 c1) (.slice A2 n2 c2) w0 l' (ihN _ h l' (Nat.le_refl _)))
  have HB0:=hI hb0
  have HSZ:=hI (show nB (stPs l)≤N∧nB (stPs l)≤1048576∧lo.length + 2 * nB (stPs l)≤4194304 from ⟨hlN,hnB,hszl⟩)
  have hll : l.length≤1048576:=by
   have h1:=sum_len (m:=fun x : St=>nS x.p) (fun x=>by cases x;unfold St.p nS;omega) l
   rw [← nB_sum] at h1
   omega
  obtain ⟨m,hm⟩ : ∃ m,l.length=m:=⟨_,rfl⟩
  have HM:=hI hm
  rw [hm] at hll ⊢
  clear hm ihN hlN hb0 hw0 hl0 hnB hszl ht hx hn1 hn2 hu
  go_enter Tryz.func65,Tryz.ntmps65
  go_wp2_with fail
  go_loopw [5,14] (fun vo iv wr=>∃ (j : Nat) (lv vw : Value) (out : List St),j≤m∧vw=vo∧iv=.int .i64 (j : Int)∧Rw t tx lo Bb w0.heap.size (.slice A1 n1 c1) (.slice A2 n2 c2) l lv0 w j lv vw out wr) (fun _ iv _=>m - (intOf iv).toNat)
  case atStart=>
   refine ⟨0,lv0,_,[],Nat.zero_le _,rfl,rfl,⟨?_,Ow.nil _ _,?_,rfl,Stp.refl _ _ _⟩⟩
   ·simp only [List.take_zero,stPs,rowI];exact HB0.out
   ·simp only [List.take_zero,stPs,rowI]
  case round=>
   obtain ⟨j,lv,vo,out,hj,rfl,rfl,hr⟩:=hrel
   obtain ⟨wh,rfl⟩ : ∃ W,W=wr:=⟨_,rfl⟩
   have HR:=hI hr
   clear hr
   by_cases hlt : j < m
   ·have hjl : j < l.length:=by rw [HM.out];exact hlt
    have HWr:=hI (HW.out.trans (Stp.low HR.out.stp HB0.out.le (fun b e=>(HB0.out.lvlt e).1) HW.out.size))
    obtain ⟨bl_,ol,rfl,hbl,hc⟩:=Lg.at_ stE_len (HL.out.keep stays_s (Keep.below HWr.out)) hjl
    obtain ⟨⟨k,n,s,Aa,ca,ar,Ab,cb,b,Ae,ce,e⟩,hy⟩ : ∃ y,l[j]=y:=⟨_,rfl⟩
    have hmem : l[j] ∈ l:=List.getElem_mem hjl
    have htk:=take_nB hjl
    have HNX:=hI (show rowI t tx lo (stPs (l.take (j + 1)))=((rowI t tx lo (stPs (l.take j))).1 ++ [(stI t tx (rowI t tx lo (stPs (l.take j))).2 (St.mk k n s Aa ca ar Ab cb b Ae ce e).p).1],(stI t tx (rowI t tx lo (stPs (l.take j))).2 (St.mk k n s Aa ca ar Ab cb b Ae ce e).p).2) by
     rw [List.take_succ_eq_append_getElem hjl,stPs_app,hy,← rowI_snoc];rfl)
    rw [hy] at hc hmem htk
    have HOP:=hI ((HL.out.2 _ hmem).open_)
    have c0 : wh.cell? ⟨bl_,ol + j * 6,none⟩=some (.int .i64 k):=hc 0 _ rfl
    have c1' : wh.cell? ⟨bl_,ol + j * 6 + 1,none⟩=some (.int .i64 n):=hc 1 _ rfl
    have c2' : wh.cell? ⟨bl_,ol + j * 6 + 2,none⟩=some (.string (str s)):=hc 2 _ rfl
    have c3' : wh.cell? ⟨bl_,ol + j * 6 + 3,none⟩=some (.slice Aa ar.length ca):=hc 3 _ rfl
    have c4' : wh.cell? ⟨bl_,ol + j * 6 + 4,none⟩=some (.slice Ab b.length cb):=hc 4 _ rfl
    have c5' : wh.cell? ⟨bl_,ol + j * 6 + 5,none⟩=some (.slice Ae e.length ce):=hc 5 _ rfl
    have k0 : (0 : Int)≤(j : Int):=by omega
    have k1 : (j : Int) < (m : Int):=by omega
    -- the locals here
    obtain ⟨A3,c3,rfl,_,_⟩:=HR.out.bn.own.shape
    have hge:=row_len t tx (stPs (l.take j)) lo
    obtain ⟨lo1,hlo1⟩ : ∃ lo1,(rowI t tx lo (stPs (l.take j))).2=lo1:=⟨_,rfl⟩
    rw [hlo1] at hge HNX
    obtain ⟨q3,hq3⟩ : ∃ q3,lo1.length=q3:=⟨_,rfl⟩
    have HR2:=HR.out
    rw [hlo1,hq3] at HR2
    have hbn : Bn Bb w0.heap.size (.slice A1 n1 c1) (.slice A2 n2 c2) wh (.slice A3 q3 c3) lo1:=by rw [← hlo1];exact HR2.bn
    have HR:=hI HR2
    have HBN:=hI hbn
    have HQ3:=hI hq3
    unfold St.p nS at htk
    have hsz2:=HSZ.out
    have HZ:=hI (show q3 + 2 + 2 * nB (stPs b) + 2 * nB (stPs e)≤4194304∧nEs (exPs ar)≤1048576∧nB (stPs b) < N∧nB (stPs e) < N∧nB (stPs b)≤1048576∧nB (stPs e)≤1048576 by omega)
    have har : ar.length≤1048576:=by
     have h1:=sum_len (m:=fun x : Ex=>nE x.p) (fun x=>nE_pos x.p) ar
     rw [← nEs_sum] at h1
     have:=HZ.out.2.1
     omega
    obtain ⟨kv,hkv⟩ : ∃ x,kd lo1 k s=x:=⟨_,rfl⟩
    obtain ⟨nv,hnv⟩ : ∃ x,nm t lo1 k n s=x:=⟨_,rfl⟩
    have HKV:=hI (And.intro hkv hnv)
    obtain ⟨w1,hw1⟩ : ∃ W,wh.alloc (.cells #[.int .i64 k,.int .i64 n,.string (str s),.slice Aa ar.length ca,.slice Ab b.length cb,.slice Ae e.length ce] 65)=W:=⟨_,rfl⟩
    obtain ⟨m1,s1,b1⟩:=made hw1
    have HM1:=hI (And.intro m1 (And.intro s1 b1))
    have HBl:=hI hbn.lt
    clear hc hy hmem htk hlo1 hge hq3 HR2 hbn hsz2 hkv hnv m1 s1 b1 hjl
    go_upto_region 6 with fail
    clear c0 c1' c2' c3' c4' c5'
    obtain ⟨w2,hw2⟩ : ∃ W,w1.alloc (.cells #[.int .i64 0,.int .i64 0,.string ⟨#[]⟩,.slice none 0 0,.slice none 0 0,.slice none 0 0] 65)=W:=⟨_,rfl⟩
    rw [hw2]
    obtain ⟨m1,s1,b1⟩:=HM1.out
    obtain ⟨m2,s2,b2⟩:=made hw2
    have hB2 : Below wh.heap.size wh w2:=b1.trans (b2.mono (by omega))
    have hq3:=HQ3.out
    have hz:=HZ.out
    have HEN:=hI (Bn.env HT.out.1 HT.out.2 HN.out.1 HN.out.2 rfl (HWr.out.trans (hB2.mono HWr.out.size)) (HBN.out.below hB2) (by omega))
    have HBX:=hI ((HBN.out.below hB2).box)
    have HS2:=hI (show w2.heap[wh.heap.size]?=some (.cells #[.int .i64 k,.int .i64 n,.string (str s),.slice Aa ar.length ca,.slice Ab b.length cb,.slice Ae e.length ce] 65 (0,0)) from (b2.block _ (by omega)).trans m1)
    have HX2:=hI m2
    have HB2:=hI hB2
    have HS:=hI (And.intro s1 s2)
    obtain ⟨x0,x1,x2,x3,x4,x5,xf⟩:=cells6 HS2.out
    clear m1 m2 s1 s2 b1 b2 hB2 hw1 hw2 hq3 hz
    go_wp2_with fail
    refine (named_w t HU.out tx lo1 A1 A2 A3 n1 c1 n2 c2 q3 c3 Bb w2 HEN.out HBX.out k n s Aa ca ar Ab cb b Ae ce e).mono ?_
    rintro r w3 ⟨rfl,hb3⟩
    rw [HKV.out.1,HKV.out.2]
    have HS3:=hI ((hb3.block _ (by have:=HS.out;omega)).trans HS2.out)
    have hx3:=(hb3.block _ (by have:=HS.out;omega)).trans HX2.out
    obtain ⟨y0,y1,y2,y3,y4,y5,yf⟩:=cells6 hx3
    obtain ⟨w4,hw4⟩ : ∃ W,(w3.setCell ⟨w1.heap.size,0,none⟩ (.int .i64 kv)).setCell ⟨w1.heap.size,1,none⟩ (.int .i64 nv)=W:=⟨_,rfl⟩
    have HA0:=hI (show La wh wh.heap.size w1.heap.size w3.heap.size #[.int .i64 k,.int .i64 n,.string (str s),.slice Aa ar.length ca,.slice Ab b.length cb,.slice Ae e.length ce] (.int .i64 kv) (.int .i64 nv) (.string ⟨#[]⟩) (.slice none 0 0) (.slice none 0 0) (.slice none 0 0) [] w4 by
     have hs:=HS.out
     have hs3:=hb3.size
     rw [← hw4]
     refine ⟨?_,?_,Ow.nil _ _,?_,by simp [World.setCell],⟨Nat.le_refl _,by omega,by omega⟩⟩
     ·rw [Below.heap_setCell _ _ _ _ (by simp;omega),Below.heap_setCell _ _ _ _ (by simp;omega)];exact HS3.out
     ·simp [World.setCell,Array.getElem?_modify,hx3]
     ·exact ((HB2.out.trans (hb3.mono HB2.out.size)).setCell (p:=⟨w1.heap.size,0,none⟩) (by simp;omega) _).setCell (p:=⟨w1.heap.size,1,none⟩) (by simp;omega) _)
    obtain ⟨z0,z1,z2,z3,z4,z5,zf⟩:=cells6 HA0.out.s
    clear x0 x1 x2 x3 x4 x5 xf hb3 hx3
    go_wp2_with fail
    clear y0 y1 y2 y3 y4 y5 yf z0 z1 z2 z3 z4 z5 zf hw4
    generalize w1.heap.size=xb at HA0
    generalize hBq : w3.heap.size=B at HA0
    clear hBq
    have HENh:=hI (Bn.env HT.out.1 HT.out.2 HN.out.1 HN.out.2 rfl HWr.out HBN.out (by have:=HQ3.out;have:=HZ.out;omega))
    have HBl2:=hI (show Bb < B by have h1:=HBl.out;have h2:=HA0.out.lt;omega)
    go_loopw [30] (fun iv wr=>∃ (i : Nat) (v : Value) (al : List Ex),i≤ar.length∧iv=.int .i64 (i : Int)∧al.length=i∧Hid (al.map Ex.p=(ar.take i).map fun x=>bindE (exI t tx lo1) x.p)∧La wh wh.heap.size xb B #[.int .i64 k,.int .i64 n,.string (str s),.slice Aa ar.length ca,.slice Ab b.length cb,.slice Ae e.length ce] (.int .i64 kv) (.int .i64 nv) (.string ⟨#[]⟩) v (.slice none 0 0) (.slice none 0 0) al wr) (fun iv _=>ar.length - (intOf iv).toNat)
    case atStart=>exact ⟨0,_,[],Nat.zero_le _,rfl,rfl,hI rfl,HA0.out⟩
    case round=>
     obtain ⟨i,v,al,hi,rfl,hal,HP,hla⟩:=hrel
     have HLA:=hI hla
     clear hla
     obtain rfl : al.length=i:=hal
     obtain ⟨Av,cv,rfl,_,_⟩:=HLA.out.own.own.shape
     by_cases hlt2 : al.length < ar.length
     ·have HWU:=hI (HWr.out.trans (HLA.out.low.mono HWr.out.size))
      obtain ⟨b2,o2,rfl,hbb,hc⟩:=Lg.at_ exE_len (HOP.out.1.1.keep (Keep.below HWU.out) |> fun h=>(show Lx top wr Aa ca ar from ⟨h,fun y hy=>(HOP.out.1.2 y hy).keep (Keep.below HWU.out)⟩)) hlt2
      obtain ⟨⟨k2,p2,q2,s2,A4,c4,ar2⟩,hy⟩ : ∃ y,ar[al.length]=y:=⟨_,rfl⟩
      have hmem : ar[al.length] ∈ ar:=List.getElem_mem hlt2
      have HNY:=hI (show (ar.take (al.length + 1)).map (fun x=>bindE (exI t tx lo1) x.p)=(ar.take al.length).map (fun x=>bindE (exI t tx lo1) x.p) ++ [bindE (exI t tx lo1) (Ex.mk k2 p2 q2 s2 A4 c4 ar2).p] by
       rw [List.take_succ_eq_append_getElem hlt2,List.map_append,hy];rfl)
      rw [hy] at hc hmem
      have HME:=hI (show RdX top w0 (Ex.mk k2 p2 q2 s2 A4 c4 ar2)∧nE (Ex.mk k2 p2 q2 s2 A4 c4 ar2).p≤1048576 from ⟨HOP.out.1.2 _ hmem,by
       have h1:=sum_mem (m:=fun x : Ex=>nE x.p) ar _ hmem
       rw [← nEs_sum] at h1
       have:=HZ.out.2.1
       omega⟩)
      have c0 : wr.cell? ⟨b2,o2 + al.length * 5,none⟩=some (.int .i64 k2):=hc 0 _ rfl
      have c1' : wr.cell? ⟨b2,o2 + al.length * 5 + 1,none⟩=some (.int .i64 p2):=hc 1 _ rfl
      have c2' : wr.cell? ⟨b2,o2 + al.length * 5 + 2,none⟩=some (.int .i64 q2):=hc 2 _ rfl
      have c3' : wr.cell? ⟨b2,o2 + al.length * 5 + 3,none⟩=some (.string (str s2)):=hc 3 _ rfl
      have c4' : wr.cell? ⟨b2,o2 + al.length * 5 + 4,none⟩=some (.slice A4 ar2.length c4):=hc 4 _ rfl
      have i0 : (0 : Int)≤(al.length : Int):=by omega
      have i1 : (al.length : Int) < (ar.length : Int):=by omega
      obtain ⟨w5,hw5⟩ : ∃ W,wr.alloc (.cells #[.int .i64 k2,.int .i64 p2,.int .i64 q2,.string (str s2),.slice A4 ar2.length c4] 68)=W:=⟨_,rfl⟩
      clear hc hy hmem
      go_upto_region 10 with fail
      obtain ⟨m5,s5,b5⟩:=made hw5
      clear c0 c1' c2' c3' c4' hw5
      have hlA:=HLA.out.lt
      have hszA:=HLA.out.sz
      have hBb:=HBl2.out
      have hb0:=Below.drew b5
      have hbB0 : Below B wr w5.drew:=hb0.mono hszA
      have hO0:=HLA.out.own.below stays_x hb0
      have hBx0 : w5.drew.heap[Bb]?=some (.cells #[.slice A1 n1 c1,.slice A2 n2 c2,.slice A3 q3 c3] 135 (0,0)):=(hb0.block _ (by omega)).trans ((HLA.out.low.block _ HBl.out).trans HBN.out.box)
      have hXx0 : w5.drew.heap[xb]?=some (.cells #[.int .i64 kv,.int .i64 nv,.string ⟨#[]⟩,.slice Av al.length cv,.slice none 0 0,.slice none 0 0] 65 (0,0)):=(hb0.block _ (by omega)).trans HLA.out.x
      have hEx0 : w5.drew.heap[wr.heap.size]?=some (.cells #[.int .i64 k2,.int .i64 p2,.int .i64 q2,.string (str s2),.slice A4 ar2.length c4] 68 (0,0)):=m5
      have hs0 : wr.heap.size < w5.drew.heap.size:=by show wr.heap.size < w5.heap.size;omega
      have hlo : ∀ g,(Value.slice Av al.length cv).ownBlock=some g→g < wr.heap.size:=fun g hg=>(HLA.out.own.lt hg).2
      have HD0:=hI (show al.length≤1048576 by omega)
      have HWB:=hI (show w0.heap.size≤B∧wh.heap.size≤B from ⟨by have:=HWr.out.size;omega,by omega⟩)
      clear m5 s5 b5 hb0
      refine RgD.begin_ [18,19] (fun U=>U.heap[Bb]?=some (.cells #[.slice A1 n1 c1,.slice A2 n2 c2,.slice A3 q3 c3] 135 (0,0))∧U.heap[xb]?=some (.cells #[.int .i64 kv,.int .i64 nv,.string ⟨#[]⟩,.slice Av al.length cv,.slice none 0 0,.slice none 0 0] 65 (0,0))∧U.heap[wr.heap.size]?=some (.cells #[.int .i64 k2,.int .i64 p2,.int .i64 q2,.string (str s2),.slice A4 ar2.length c4] 68 (0,0))) (by kernel_rfl) ⟨hBx0,hXx0,hEx0⟩ (fun hHeld=>?_)
      refine tK 0 34 (h:=?_)
      simp only [zA,zB,zC]
      refine tK 1 35 (v:=.slice Av al.length cv) (hy:=by intro w0 hSw;obtain ⟨z0,z1,z2,z3,z4,z5,zf⟩:=cells6 hSw.2.1;first | (go_simp;done) | (go_simp;with_reducible rfl) | (go_simp;intro hc;exfalso;omega)) (h:=?_)
      simp only [zA,zB,zC]
      refine tK 2 36 (h:=?_)
      simp only [zA,zB,zC]
      refine tK 3 37 (h:=?_)
      simp only [zA,zB,zC]
      refine tK 4 38 (h:=?_)
      simp only [zA,zB,zC]
      refine tK 5 39 (v:=.slice A1 n1 c1) (hy:=by intro w0 hSw;obtain ⟨z0,z1,z2,zf⟩:=cells3 hSw.1;first | (go_simp;done) | (go_simp;with_reducible rfl) | (go_simp;intro hc;exfalso;omega)) (h:=?_)
      simp only [zA,zB,zC]
      refine tK 6 40 (h:=?_)
      simp only [zA,zB,zC]
      refine tK 7 41 (h:=?_)
      simp only [zA,zB,zC]
      refine tK 8 42 (h:=?_)
      simp only [zA,zB,zC]
      refine tK 9 43 (v:=.slice A2 n2 c2) (hy:=by intro w0 hSw;obtain ⟨z0,z1,z2,zf⟩:=cells3 hSw.1;first | (go_simp;done) | (go_simp;with_reducible rfl) | (go_simp;intro hc;exfalso;omega)) (h:=?_)
      simp only [zA,zB,zC]
      refine tK 10 44 (h:=?_)
      simp only [zA,zB,zC]
      refine tK 11 45 (h:=?_)
      simp only [zA,zB,zC]
      refine tK 12 46 (h:=?_)
      simp only [zA,zB,zC]
      refine tK 13 47 (v:=.slice A3 q3 c3) (hy:=by intro w0 hSw;obtain ⟨z0,z1,z2,zf⟩:=cells3 hSw.1;first | (go_simp;done) | (go_simp;with_reducible rfl) | (go_simp;intro hc;exfalso;omega)) (h:=?_)
      simp only [zA,zB,zC]
      refine tK 14 48 (v:=.agg #[.int .i64 k2,.int .i64 p2,.int .i64 q2,.string (str s2),.slice A4 ar2.length c4]) (hy:=by intro w0 hSw;obtain ⟨z0,z1,z2,z3,z4,zf⟩:=cells5 hSw.2.2;first | (go_simp;done) | (go_simp;with_reducible rfl) | (go_simp;intro hc;exfalso;omega)) (h:=?_)
      simp only [zA,zB,zC]
      refine RgD.one (i:=15) (by kernel_rfl) ?_
      refine RgD.call (i:=15) (t:=49) rfl rfl (by rfl) (by go_simp;exact ⟨rfl,rfl⟩) ?_
      refine (expr_w t HU.out tx lo1 A1 A2 A3 n1 c1 n2 c2 q3 c3 _ w5.drew (HENh.out.below (HLA.out.low.trans (hbB0.mono HWB.out.2))) (HME.out.1.keep (Keep.below (HWU.out.trans (hbB0.mono HWB.out.1)))) HME.out.2).mono ?_
      rintro r w6 ⟨x,rfl,hx,hpx,hb⟩
      have hbB1:=hbB0.trans (hb.mono (by omega))
      have hO1:=hO0.below stays_x hb
      have hBx1:=(hb.block _ (by omega)).trans hBx0
      have hXx1:=(hb.block _ (by omega)).trans hXx0
      have hEx1:=(hb.block _ hs0).trans hEx0
      have hs1:=Nat.lt_of_lt_of_le hs0 hb.size
      have hx1 : RdX (fun b=>B≤b∧(Value.slice Av al.length cv).ownBlock ≠ some b) w6 x:=hx.keep (Keep.weak fun b hb1 _=>⟨by omega,fun hc=>by have:=hlo b hc;omega⟩)
      have HPX:=hI hpx
      clear hb hx hpx
      obtain ⟨xk,xo,xn,xs,xA,xc,xr⟩:=x
      have gS1:=And.intro hBx1 (And.intro hXx1 hEx1)
      refine ⟨.agg #[.int .i64 xk,.int .i64 xo,.int .i64 xn,.string (str xs),.slice xA xr.length xc],rfl,gS1,?_⟩
      simp only [zA,zB,zC]
      refine RgD.one (i:=16) (by kernel_rfl) ?_
      obtain ⟨w7,hw⟩ : ∃ W,w6.alloc (.cells #[.int .i64 xk,.int .i64 xo,.int .i64 xn,.string (str xs),.slice xA xr.length xc] 68)=W:=⟨_,rfl⟩
      have hb:=(made hw).2.2
      have hbB2:=hbB1.trans (hb.mono (by omega))
      have hO2:=hO1.below stays_x hb
      have hBx2:=(hb.block _ (by omega)).trans hBx1
      have hXx2:=(hb.block _ (by omega)).trans hXx1
      have hEx2:=(hb.block _ hs1).trans hEx1
      have hs2:=Nat.lt_of_lt_of_le hs1 hb.size
      have hx2:=hx1.keep (Keep.below hb)
      have hz : Sk.Rd exE w7 (some ⟨w6.heap.size,0,none⟩) 1 [Ex.mk xk xo xn xs xA xc xr]:=by rw [← hw];exact Sk.rd_lit (enc:=exE) _ 68 [Ex.mk xk xo xn xs xA xc xr] _ rfl 1 rfl
      have gS2:=And.intro hBx2 (And.intro hXx2 hEx2)
      refine RgD.eff (i:=16) (t:=50) (v:=.slice (some ⟨w6.heap.size,0,none⟩) 1 1) (w1:=w7) rfl rfl (by rfl) (by first | (go_simp;done) | (go_simp;with_reducible rfl) | (go_simp;rw [hw];rfl)) gS2 ?_
      simp only [zA,zB,zC]
      clear hb hw
      refine RgD.one (i:=17) (by kernel_rfl) ?_
      refine RgD.app elX (i:=17) (t:=51) (.tmp 35) (.tmp 50) rfl rfl (by rfl) rfl rfl hO2.own (some ⟨w6.heap.size,0,none⟩) 1 1 [Ex.mk xk xo xn xs xA xc xr] rfl hz (by have:=HD0.out;unfold maxLen;omega) (by have:=HD0.out;omega) (by omega) ?_
      intro v8 w8 ho8 hb8 hg8 hv8
      have hO3:=Ow.append stays_x hO2 ho8 hg8 hv8 (show B≤w7.heap.size by omega) (fun y hy=>by obtain rfl : y=Ex.mk xk xo xn xs xA xc xr:=(by simpa using hy);exact hx2)
      have hbB3:=hbB2.trans hb8
      have hBx3:=(hb8.block _ (by omega)).trans hBx2
      have hXx3:=(hb8.block _ (by omega)).trans hXx2
      have hEx3:=(hg8.block _ hs2 (fun hc=>by have:=hlo _ hc.symm;omega)).trans hEx2
      have gS3:=And.intro hBx3 (And.intro hXx3 hEx3)
      refine ⟨gS3,?_⟩
      simp only [zA,zB,zC]
      obtain ⟨A8,c8,rfl,_,_⟩:=ho8.shape
      have e8 : (al ++ [Ex.mk xk xo xn xs xA xc xr]).length=al.length + 1:=by simp
      rw [e8] at hO3 ⊢
      have HNL:=hI (HLA.out.next hbB3 hO3)
      obtain ⟨a0,a1,a2,a3,a4,a5,af⟩:=cells6 hXx3
      refine RgD.tk0 18 52 (h:=?_)
      simp only [zA,zB,zC]
      refine RgD.one (i:=19) (by kernel_rfl) ?_
      refine RgD.store (i:=19) (w1:=w8.setCell ⟨xb,3,none⟩ (.slice A8 (al.length + 1) c8)) rfl rfl (by rfl) (by kernel_rfl) (by first | (go_simp;done) | (go_simp;with_reducible rfl)) ?_
      refine RgD.done (by kernel_rfl) ?_ _
      clear a0 a1 a2 a3 a4 a5 af
      go_wp2_with fail
      go_roundw
      case rel=>exact ⟨al.length + 1,_,al ++ [Ex.mk xk xo xn xs xA xc xr],by omega,by go_num,by simp,hI (by rw [List.map_append,HP.out,HNY.out,← HPX.out];rfl),HNL.out⟩
      case measure=>simp [intOf];omega
     ·obtain hie : al.length=ar.length:=by omega
      have HQ:=hI (show exPs al=bindEs (exI t tx lo1) (exPs ar) by
       rw [exPs_map,HP.out,List.take_of_length_le (by omega),bindEs_map,exPs_map,List.map_map];rfl)
      obtain ⟨u6,rfl⟩ : ∃ W,W=wr:=⟨_,rfl⟩
      have HBN6:=hI (HBN.out.below HLA.out.low)
      have HLB6:=hI (Lb.of (lv:=.slice A3 q3 c3) HLA.out HBl.out (fun g hg=>(HBN.out.lvlt hg).2))
      have HST6:=hI (Stp.below (Bb:=Bb) (lv:=.slice A3 q3 c3) HLA.out.low)
      have HXL:=hI (show wh.heap.size < xb∧xb < B∧B≤u6.heap.size from ⟨HLA.out.lt.2.1,HLA.out.lt.2.2,HLA.out.sz⟩)
      have HSTI:=hI (stI_parts t tx lo1 k n s (exPs ar) (stPs b) (stPs e))
      rw [HKV.out.1,HKV.out.2,← HQ.out] at HSTI
      have HKW:=hI (show w0.heap.size≤w.heap.size∧Bb < w.heap.size from ⟨HW.out.size,HB0.out.lt⟩)
      obtain ⟨x0,x1,x2,x3,x4,x5,xf⟩:=cells6 HLB6.out.s
      obtain ⟨y0,y1,y2,yf⟩:=cells3 HBN6.out.box
      clear hie
      by_cases h2 : k=2
      ·subst h2
       go_upto_region 15 with fail
       clear x0 x1 x2 x3 x4 x5 xf y0 y1 y2 yf
       refine RgD.begin_ [9,10,11] (fun U=>U.heap[Bb]?=some (.cells #[.slice A1 n1 c1,.slice A2 n2 c2,.slice A3 q3 c3] 135 (0,0))∧U.heap[wh.heap.size]?=some (.cells #[.int .i64 2,.int .i64 n,.string (str s),.slice Aa ar.length ca,.slice Ab b.length cb,.slice Ae e.length ce] 65 (0,0))) (by kernel_rfl) ⟨(HBN6.out.below (Below.drew (Below.refl _ _))).box,(HLB6.out.stp (Stp.below (Below.drew (Below.refl _ _)))).s⟩ (fun hHeld=>?_)
       refine tK 0 63 (h:=?_)
       simp only [zA,zB,zC]
       refine tK 1 64 (h:=?_)
       simp only [zA,zB,zC]
       refine tK 2 65 (h:=?_)
       simp only [zA,zB,zC]
       refine tK 3 66 (h:=?_)
       simp only [zA,zB,zC]
       refine tK 4 67 (v:=.slice A3 q3 c3) (hy:=by intro w0 hSw;obtain ⟨z0,z1,z2,zf⟩:=cells3 hSw.1;first | (go_simp;done) | (go_simp;with_reducible rfl) | (go_simp;intro hc;exfalso;omega)) (h:=?_)
       simp only [zA,zB,zC]
       refine tK 5 68 (h:=?_)
       simp only [zA,zB,zC]
       refine tK 6 69 (v:=.string (str s)) (hy:=by intro w0 hSw;obtain ⟨z0,z1,z2,z3,z4,z5,zf⟩:=cells6 hSw.2;first | (go_simp;done) | (go_simp;with_reducible rfl) | (go_simp;intro hc;exfalso;omega)) (h:=?_)
       simp only [zA,zB,zC]
       refine RgD.one (i:=7) (by kernel_rfl) ?_
       obtain ⟨ua,hw⟩ : ∃ W,u6.drew.alloc (.cells #[.string (str s)] 9)=W:=⟨_,rfl⟩
       have hb:=(made hw).2.2
       have hba : Below u6.heap.size u6 ua:=(Below.drew (Below.refl _ _)).trans hb
       have hBa:=HBN6.out.below hba
       have hLa:=HLB6.out.stp (Stp.below hba)
       have hSTa:=HST6.out.trans (Stp.below hba)
       have hz : Sq.Rd sv ua (some ⟨u6.drew.heap.size,0,none⟩) 1 [s]:=by rw [← hw];exact Sq.rd_lit (enc:=sv) _ 9 [s] _ rfl 1 rfl
       have gSa:=And.intro hBa.box hLa.s
       refine RgD.eff (i:=7) (t:=70) (v:=.slice (some ⟨u6.drew.heap.size,0,none⟩) 1 1) (w1:=ua) rfl rfl (by rfl) (by first | (go_simp;done) | (go_simp;with_reducible rfl) | (go_simp;rw [hw];rfl)) gSa ?_
       simp only [zA,zB,zC]
       clear hb hw
       refine RgD.one (i:=8) (by kernel_rfl) ?_
       refine RgD.appQ elS (i:=8) (t:=71) (.tmp 67) (.tmp 70) rfl rfl (by rfl) rfl rfl hBa.own (some ⟨u6.drew.heap.size,0,none⟩) 1 1 [s] rfl hz (by have:=HQ3.out;have:=HZ.out;unfold maxLen;omega) (by have:=HQ3.out;have:=HZ.out;omega) (Nat.le_trans hBa.le (Nat.le_of_lt hBa.lt)) ?_
       intro v8 w8 ho8 hb8 hg8 hv8
       obtain ⟨A8,c8,rfl,_,_⟩:=ho8.shape
       have hb8b:=(hg8.block _ hBa.lt (Ne.symm hBa.ne)).trans hBa.box
       have hs8:=(hg8.block _ (Nat.lt_trans HXL.out.1 hLa.sz) (Ne.symm hLa.sn)).trans hLa.s
       have gS8:=And.intro hb8b hs8
       obtain ⟨lo2,hlo2⟩ : ∃ z,lo1 ++ [s]=z:=⟨_,rfl⟩
       rw [hlo2] at ho8 hv8 ⊢
       have HLO2:=hI (show lo1 ++ ext 2 s=lo2 from hlo2)
       have HL2:=hI (show lo2.length≤q3 + 2∧q3≤lo2.length by rw [← hlo2,List.length_append,HQ3.out];simp)
       obtain ⟨q8,hq8⟩ : ∃ z,lo2.length=z:=⟨_,rfl⟩
       rw [hq8] at ho8 hv8 ⊢
       have hap:=hBa.app ho8 hg8 hv8
       have HBN7:=hI hap.1
       have HLB7:=hI (hLa.stp hap.2)
       have HST7:=hI (hSTa.trans hap.2)
       have HU7:=hI (Nat.le_trans hba.size hap.2.size)
       obtain ⟨a0,a1,a2,af⟩:=cells3 hb8b
       refine ⟨gS8,?_⟩
       simp only [zA,zB,zC]
       refine RgD.tk0 9 72 (h:=?_)
       simp only [zA,zB,zC]
       refine RgD.tk0 10 73 (h:=?_)
       simp only [zA,zB,zC]
       refine RgD.one (i:=11) (by kernel_rfl) ?_
       obtain ⟨u7,hu7⟩ : ∃ W,w8.setCell ⟨Bb,2,none⟩ (.slice A8 q8 c8)=W:=⟨_,rfl⟩
       rw [hu7] at HBN7 HLB7 HST7 HU7
       refine RgD.store (i:=11) (w1:=u7) rfl rfl (by rfl) (by kernel_rfl) (by first | (go_simp;done) | (go_simp;exact hu7)) ?_
       refine RgD.done (by kernel_rfl) ?_ _
       clear a0 a1 a2 af hu7 gS8 hs8 hb8b ho8 hb8 hg8 hv8 hap hlo2 hq8 gSa hz hSTa hLa hBa hba
       obtain ⟨x0,x1,x2,x3,x4,x5,xf⟩:=cells6 HLB7.out.s
       go_upto_region 18 with fail
       clear x0 x1 x2 x3 x4 x5 xf
       have hLB0:=HLB7.out.stp (Stp.below (Below.drew (Below.refl u7.heap.size u7)))
       have HBN0:=hI (HBN7.out.below (Below.drew (Below.refl u7.heap.size u7)))
       have HST0:=hI (HST7.out.trans (Stp.below (Below.drew (Below.refl u7.heap.size u7))))
       have HW0:=hI (HWr.out.trans (HST0.out.low HBN.out.le (fun b e=>(HBN.out.lvlt e).1) HWr.out.size))
       have h1:=HL2.out
       have h2z:=HZ.out
       have g1:=row_len t tx (stPs b) lo2
       have g2:=row_ge t tx (stPs b) lo2
       obtain ⟨lo3,hlo3⟩ : ∃ z,BindP.blank lo2.length (rowI t tx lo2 (stPs b)).2=z:=⟨_,rfl⟩
       have g3 : lo3.length=(rowI t tx lo2 (stPs b)).2.length:=by rw [← hlo3,blank_len]
       have HLO3:=hI hlo3
       have g4:=row_len t tx (stPs e) lo3
       have g5:=row_ge t tx (stPs e) lo3
       obtain ⟨lo4,hlo4⟩ : ∃ z,BindP.blank lo3.length (rowI t tx lo3 (stPs e)).2=z:=⟨_,rfl⟩
       have g6 : lo4.length=(rowI t tx lo3 (stPs e)).2.length:=by rw [← hlo4,blank_len]
       have HLO4:=hI hlo4
       have HG:=hI (show lo2.length + 2 * nB (stPs b)≤4194304∧lo3.length + 2 * nB (stPs e)≤4194304∧lo2.length≤lo4.length∧lo4.length≤4194304 by omega)
       clear h1 h2z g1 g2 g3 g4 g5 g6 hlo3 hlo4
       refine RgD.begin_ [] (fun U=>U.heap[wh.heap.size]?=some (.cells #[.int .i64 2,.int .i64 n,.string (str s),.slice Aa ar.length ca,.slice Ab b.length cb,.slice Ae e.length ce] 65 (0,0))) (by kernel_rfl) hLB0.s (fun hHeld=>?_)
       refine tK 0 87 (h:=?_)
       simp only [zA,zB,zC]
       refine tK 1 88 (h:=?_)
       simp only [zA,zB,zC]
       refine tK 2 89 (v:=.slice Ab b.length cb) (hy:=by intro w0 hSw;obtain ⟨z0,z1,z2,z3,z4,z5,zf⟩:=cells6 hSw;first | (go_simp;done) | (go_simp;with_reducible rfl) | (go_simp;intro hc;exfalso;omega)) (h:=?_)
       simp only [zA,zB,zC]
       refine tK 4 91 (h:=?_)
       simp only [zA,zB,zC]
       refine tK 5 92 (h:=?_)
       simp only [zA,zB,zC]
       refine tK 6 93 (v:=.slice Ae e.length ce) (hy:=by intro w0 hSw;obtain ⟨z0,z1,z2,z3,z4,z5,zf⟩:=cells6 hSw;first | (go_simp;done) | (go_simp;with_reducible rfl) | (go_simp;intro hc;exfalso;omega)) (h:=?_)
       simp only [zA,zB,zC]
       refine RgD.one (i:=3) (by kernel_rfl) ?_
       refine RgD.call (i:=3) (t:=90) rfl rfl (by rfl) (by go_simp;exact ⟨rfl,rfl⟩) ?_
       refine (HIH.out b HZ.out.2.2.1 Ab cb u7.drew _ lo2 HBN0.out HW0.out HOP.out.2.1 HZ.out.2.2.2.2.1 HG.out.1).mono ?_
       rintro r u8 ⟨lv8,Ab2,cb2,b2,rfl,hpb,hbn8,hst8,hls8⟩
       rw [HLO3.out] at hbn8
       have HPB:=hI hpb
       have HBN8:=hI hbn8
       have HST8:=hI (HST0.out.trans hst8)
       have hLB8:=hLB0.stp hst8
       have HLS8:=hI hls8
       have HU8:=hI hst8.size
       clear hpb hbn8 hst8 hls8
       have HW8:=hI (HWr.out.trans (HST8.out.low HBN.out.le (fun b e=>(HBN.out.lvlt e).1) HWr.out.size))
       have gS8:=hLB8.s
       refine ⟨_,rfl,gS8,?_⟩
       simp only [zA,zB,zC]
       refine tK 8 95 (v:=.pointer (some ⟨xb,4,none⟩)) (h:=?_)
       simp only [zA,zB,zC]
       refine RgD.one (i:=7) (by kernel_rfl) ?_
       refine RgD.call (i:=7) (t:=94) rfl rfl (by rfl) (by go_simp;exact ⟨rfl,rfl⟩) ?_
       refine (HIH.out e HZ.out.2.2.2.1 Ae ce u8 _ lo3 HBN8.out HW8.out HOP.out.2.2 HZ.out.2.2.2.2.2 HG.out.2.1).mono ?_
       rintro r u9 ⟨lv9,Ae2,ce2,e2,rfl,hpe,hbn9,hst9,hls9⟩
       rw [HLO4.out] at hbn9
       have HPE:=hI hpe
       have HST9:=hI (HST8.out.trans hst9)
       have hLB9:=hLB8.stp hst9
       have HU9:=HU7.out
       have hu8:=HU8.out
       have hxl:=HXL.out
       have hbl:=HBl.out
       have hs6:=HST6.out.size
       have hs7:=HST7.out.size
       have hks : Bb < u7.heap.size:=Nat.lt_of_lt_of_le hbl hs7
       have hxu : xb < u7.heap.size:=by omega
       have hLS8:=HLS8.out.keep stays_s (Keep.stp hst9 hks)
       have hx9:=hLB9.xn
       have hbn9b : Bn Bb w0.heap.size (.slice A1 n1 c1) (.slice A2 n2 c2) u9 lv9 lo4:=hbn9
       obtain ⟨a0,a1,a2,a3,a4,a5,af⟩:=cells6 hLB9.x
       have hLBa:=hLB9.set4 (.slice Ab2 b2.length cb2)
       have hLBb:=hLBa.set5 (.slice Ae2 e2.length ce2)
       have hne : xb ≠ Bb:=by omega
       have hBNb:=(hbn9b.set (o:=4) hne hx9 (.slice Ab2 b2.length cb2)).set (o:=5) hne hx9 (.slice Ae2 e2.length ce2)
       have hSTb:=Stp.setx (o:=5) (Stp.setx (o:=4) HST9.out (Nat.le_of_lt hxl.1) (.slice Ab2 b2.length cb2)) (Nat.le_of_lt hxl.1) (.slice Ae2 e2.length ce2)
       have hLS8b:=(hLS8.keep stays_s (keep_set (K:=fun b=>u7.drew.heap.size≤b∧lv9.ownBlock ≠ some b) (g:=xb) 4 (.slice Ab2 b2.length cb2) (fun c=>by have:=c.1;have h7 : u7.drew.heap.size=u7.heap.size:=rfl;omega))).keep stays_s (keep_set (K:=fun b=>u7.drew.heap.size≤b∧lv9.ownBlock ≠ some b) (g:=xb) 5 (.slice Ae2 e2.length ce2) (fun c=>by have:=c.1;have h7 : u7.drew.heap.size=u7.heap.size:=rfl;omega))
       have hLS9b:=(hls9.keep stays_s (keep_set (K:=fun b=>u8.heap.size≤b∧lv9.ownBlock ≠ some b) (g:=xb) 4 (.slice Ab2 b2.length cb2) (fun c=>by have:=c.1;have h7 : u7.drew.heap.size=u7.heap.size:=rfl;omega))).keep stays_s (keep_set (K:=fun b=>u8.heap.size≤b∧lv9.ownBlock ≠ some b) (g:=xb) 5 (.slice Ae2 e2.length ce2) (fun c=>by have:=c.1;have h7 : u7.drew.heap.size=u7.heap.size:=rfl;omega))
       clear hpe hbn9 hst9 hls9 hLS8
       have gS9:=hLB9.s
       refine ⟨_,rfl,gS9,?_⟩
       simp only [zA,zB,zC]
       refine RgD.one (i:=9) (by kernel_rfl) ?_
       obtain ⟨ua,hua⟩ : ∃ W,u9.setCell ⟨xb,4,none⟩ (.slice Ab2 b2.length cb2)=W:=⟨_,rfl⟩
       rw [hua] at hLBa hLBb hBNb hSTb hLS8b hLS9b
       have gSa:=hLBa.s
       refine RgD.storeS (i:=9) (w1:=ua) rfl rfl (by rfl) (by first | (go_simp;done) | (go_simp;exact hua)) gSa ?_
       clear a0 a1 a2 a3 a4 a5 af
       obtain ⟨a0,a1,a2,a3,a4,a5,af⟩:=cells6 hLBa.x
       refine tK 10 96 (v:=.pointer (some ⟨xb,5,none⟩)) (h:=?_)
       simp only [zA,zB,zC]
       refine RgD.one (i:=11) (by kernel_rfl) ?_
       obtain ⟨ub,hub⟩ : ∃ W,ua.setCell ⟨xb,5,none⟩ (.slice Ae2 e2.length ce2)=W:=⟨_,rfl⟩
       rw [hub] at hLBb hBNb hSTb hLS8b hLS9b
       have gSb:=hLBb.s
       refine RgD.storeS (i:=11) (w1:=ub) rfl rfl (by rfl) (by first | (go_simp;done) | (go_simp;exact hub)) gSb ?_
       clear a0 a1 a2 a3 a4 a5 af
       refine RgD.done (by kernel_rfl) ?_ _
       have HLBb:=hI hLBb
       have HBNb:=hI hBNb
       have HSTb:=hI hSTb
       have HLS8b:=hI hLS8b
       have HLS9b:=hI hLS9b
       have HUb:=hI (And.intro hxu (And.intro hu8 hs7))
       clear hLBb hBNb hSTb hLS8b hLS9b hLB8 hLB9 hLBa hLB0 gSb gSa gS8 gS9 HU9 hu8 hxl hbl hs6 hs7 hks hxu hx9 hbn9b hne hua hub
       obtain ⟨x0,x1,x2,x3,x4,x5,xf⟩:=cells6 HLBb.out.s
       obtain ⟨a0,a1,a2,a3,a4,a5,af⟩:=cells6 HLBb.out.x
       have HLOL:=hI (show (if (2 : Int)=11 then lo4.set lo1.length [] else lo4)=lo4 from if_neg (by decide))
       have hmz : Bb < w.heap.size:=HKW.out.2
       have hOu:=HR.out.own.keep stays_s (Keep.stp HSTb.out hmz)
       have hsz:=HSTb.out.size
       obtain ⟨ud,hud⟩ : ∃ W,ub.alloc (.cells #[.int .i64 kv,.int .i64 nv,.string ⟨#[]⟩,.slice Av al.length cv,.slice Ab2 b2.length cb2,.slice Ae2 e2.length ce2] 65)=W:=⟨_,rfl⟩
       have hbd:=(made hud).2.2
       have hOd:=hOu.below stays_s hbd
       have hyd : RdS (fun b=>(w.heap.size≤b∧(lv9).ownBlock ≠ some b)∧vo.ownBlock ≠ some b) ud (St.mk kv nv [] Av cv al Ab2 cb2 b2 Ae2 ce2 e2):=by
        have hvo : ∀ b,wh.heap.size≤b→vo.ownBlock ≠ some b:=fun b hb c=>by have:=(HR.out.own.lt c).2;omega
        have hww : w.heap.size≤wh.heap.size:=HR.out.stp.size
        have hub2:=HUb.out
        have hxl:=HXL.out
        have h7 : u7.drew.heap.size=u7.heap.size:=rfl
        have ka:=(HLBb.out.args.keep stays_x (Keep.below hbd)).keep stays_x (Keep.weak (K':=fun b=>(w.heap.size≤b∧(lv9).ownBlock ≠ some b)∧vo.ownBlock ≠ some b) fun b hb _=>⟨⟨by have:=hb.1;omega,hb.2⟩,hvo b (by have:=hb.1;omega)⟩)
        have kb:=(HLS8b.out.keep stays_s (Keep.below hbd)).keep stays_s (Keep.weak (K':=fun b=>(w.heap.size≤b∧(lv9).ownBlock ≠ some b)∧vo.ownBlock ≠ some b) fun b hb _=>⟨⟨by have:=hb.1;omega,hb.2⟩,hvo b (by have:=hb.1;omega)⟩)
        have kc:=(HLS9b.out.keep stays_s (Keep.below hbd)).keep stays_s (Keep.weak (K':=fun b=>(w.heap.size≤b∧(lv9).ownBlock ≠ some b)∧vo.ownBlock ≠ some b) fun b hb _=>⟨⟨by have:=hb.1;omega,hb.2⟩,hvo b (by have:=hb.1;omega)⟩)
        exact .mk ka.1 ka.2 kb.1 kb.2 kc.1 kc.2
       have HYD:=hI hyd
       have HOD:=hI hOd
       have HBD:=hI hbd
       have HSU:=hI hsz
       have hzd : Sk.Rd stE ud (some ⟨ub.heap.size,0,none⟩) 1 [(St.mk kv nv [] Av cv al Ab2 cb2 b2 Ae2 ce2 e2)]:=by rw [← hud];exact Sk.rd_lit (enc:=stE) _ 65 [(St.mk kv nv [] Av cv al Ab2 cb2 b2 Ae2 ce2 e2)] _ rfl 1 rfl
       have HZD:=hI hzd
       have HJ:=hI (show out.length≤1048576 by have:=HR.out.len;omega)
       have HWW:=hI (show w.heap.size≤wh.heap.size from HR.out.stp.size)
       clear hyd hOd hbd hzd hsz hOu hmz
       go_wp2_with (at_builtin;refine Sk.wpList_append elT rfl _ _ rfl rfl HOD.out.own (some ⟨ub.heap.size,0,none⟩) 1 1 [(St.mk kv nv [] Av cv al Ab2 cb2 b2 Ae2 ce2 e2)] rfl HZD.out (by have:=HJ.out;unfold maxLen;omega) (by have:=HJ.out;omega) (by have h1:=HWW.out;have h2:=HSU.out;have h3:=HBD.out.size;omega) ?_;intro v9 w9 ho9 hb9 hg9 _ hv9;have HO9:=hI ho9;have HG9:=hI hg9;have HV9:=hI hv9;clear ho9 hb9 hg9 hv9)
       go_roundw
       case rel=>
        have hBd:=HBNb.out.below HBD.out
        have hrow : ∀ g2,vo.ownBlock=some g2→w.heap.size≤g2∧(lv9).ownBlock ≠ some g2:=fun g2 hg=>HOD.out.row g2 hg
        refine ⟨j + 1,lv9,_,out ++ [(St.mk kv nv [] Av cv al Ab2 cb2 b2 Ae2 ce2 e2)],by omega,rfl,by go_num,⟨?_,?_,?_,by rw [List.length_append,HR.out.len];rfl,?_⟩⟩
        ·rw [HNX.out]
         have h9:=Bn.grown hBd HG9.out (fun c=>by have:=(hrow _ c).1;have:=HKW.out.2;omega) (fun g2 hg=>(hrow g2 hg).2)
         have e9:=congrArg Prod.snd HSTI.out
         rw [HLO2.out,HLO3.out,HLO4.out,HLOL.out] at e9
         exact (show (stI t tx lo1 (Ps.mk 2 n s (exPs ar) (stPs b) (stPs e))).2=lo4 from e9) ▸ h9
        ·exact Ow.append stays_s HOD.out HO9.out HG9.out HV9.out ⟨by have h1:=HWW.out;have h2:=HSU.out;have h3:=HBD.out.size;omega,fun c=>by have:=(hBd.lvlt c).2;omega⟩ (fun y hy=>by obtain rfl : y=(St.mk kv nv [] Av cv al Ab2 cb2 b2 Ae2 ce2 e2):=(by simpa using hy);exact HYD.out)
        ·rw [HNX.out,stPs_app,HR.out.ps]
         have e9:=congrArg Prod.fst HSTI.out
         rw [HLO2.out,HLO3.out,← HPB.out,← HPE.out] at e9
         exact congrArg (fun z=>_ ++ [z]) e9.symm
        ·exact Stp.grown ((HR.out.stp.trans HSTb.out).trans (Stp.below HBD.out)) HG9.out (fun g2 hg=>(hrow g2 hg).1)
       case measure=>simp [intOf];omega
      by_cases h11 : k=11
      ·subst h11
       go_upto_region 17 with fail
       clear x0 x1 x2 x3 x4 x5 xf y0 y1 y2 yf
       refine RgD.begin_ [9,10,11] (fun U=>U.heap[Bb]?=some (.cells #[.slice A1 n1 c1,.slice A2 n2 c2,.slice A3 q3 c3] 135 (0,0))∧U.heap[wh.heap.size]?=some (.cells #[.int .i64 11,.int .i64 n,.string (str s),.slice Aa ar.length ca,.slice Ab b.length cb,.slice Ae e.length ce] 65 (0,0))) (by kernel_rfl) ⟨(HBN6.out.below (Below.drew (Below.refl _ _))).box,(HLB6.out.stp (Stp.below (Below.drew (Below.refl _ _)))).s⟩ (fun hHeld=>?_)
       refine tK 0 76 (h:=?_)
       simp only [zA,zB,zC]
       refine tK 1 77 (h:=?_)
       simp only [zA,zB,zC]
       refine tK 2 78 (h:=?_)
       simp only [zA,zB,zC]
       refine tK 3 79 (h:=?_)
       simp only [zA,zB,zC]
       refine tK 4 80 (v:=.slice A3 q3 c3) (hy:=by intro w0 hSw;obtain ⟨z0,z1,z2,zf⟩:=cells3 hSw.1;first | (go_simp;done) | (go_simp;with_reducible rfl) | (go_simp;intro hc;exfalso;omega)) (h:=?_)
       simp only [zA,zB,zC]
       refine tK 5 81 (h:=?_)
       simp only [zA,zB,zC]
       refine tK 6 82 (v:=.string (str s)) (hy:=by intro w0 hSw;obtain ⟨z0,z1,z2,z3,z4,z5,zf⟩:=cells6 hSw.2;first | (go_simp;done) | (go_simp;with_reducible rfl) | (go_simp;intro hc;exfalso;omega)) (h:=?_)
       simp only [zA,zB,zC]
       refine RgD.one (i:=7) (by kernel_rfl) ?_
       obtain ⟨ua,hw⟩ : ∃ W,u6.drew.alloc (.cells #[.string (str s),.string ⟨#[]⟩] 9)=W:=⟨_,rfl⟩
       have hb:=(made hw).2.2
       have hba : Below u6.heap.size u6 ua:=(Below.drew (Below.refl _ _)).trans hb
       have hBa:=HBN6.out.below hba
       have hLa:=HLB6.out.stp (Stp.below hba)
       have hSTa:=HST6.out.trans (Stp.below hba)
       have hz : Sq.Rd sv ua (some ⟨u6.drew.heap.size,0,none⟩) 2 [s,[]]:=by rw [← hw];exact Sq.rd_lit (enc:=sv) _ 9 [s,[]] _ rfl 2 rfl
       have gSa:=And.intro hBa.box hLa.s
       refine RgD.eff (i:=7) (t:=83) (v:=.slice (some ⟨u6.drew.heap.size,0,none⟩) 2 2) (w1:=ua) rfl rfl (by rfl) (by first | (go_simp;done) | (go_simp;with_reducible rfl) | (go_simp;rw [hw];rfl)) gSa ?_
       simp only [zA,zB,zC]
       clear hb hw
       refine RgD.one (i:=8) (by kernel_rfl) ?_
       refine RgD.appQ elS (i:=8) (t:=84) (.tmp 80) (.tmp 83) rfl rfl (by rfl) rfl rfl hBa.own (some ⟨u6.drew.heap.size,0,none⟩) 2 2 [s,[]] rfl hz (by have:=HQ3.out;have:=HZ.out;unfold maxLen;omega) (by have:=HQ3.out;have:=HZ.out;omega) (Nat.le_trans hBa.le (Nat.le_of_lt hBa.lt)) ?_
       intro v8 w8 ho8 hb8 hg8 hv8
       obtain ⟨A8,c8,rfl,_,_⟩:=ho8.shape
       have hb8b:=(hg8.block _ hBa.lt (Ne.symm hBa.ne)).trans hBa.box
       have hs8:=(hg8.block _ (Nat.lt_trans HXL.out.1 hLa.sz) (Ne.symm hLa.sn)).trans hLa.s
       have gS8:=And.intro hb8b hs8
       obtain ⟨lo2,hlo2⟩ : ∃ z,lo1 ++ [s,[]]=z:=⟨_,rfl⟩
       rw [hlo2] at ho8 hv8 ⊢
       have HLO2:=hI (show lo1 ++ ext 11 s=lo2 from hlo2)
       have HL2:=hI (show lo2.length≤q3 + 2∧q3≤lo2.length by rw [← hlo2,List.length_append,HQ3.out];simp)
       obtain ⟨q8,hq8⟩ : ∃ z,lo2.length=z:=⟨_,rfl⟩
       rw [hq8] at ho8 hv8 ⊢
       have hap:=hBa.app ho8 hg8 hv8
       have HBN7:=hI hap.1
       have HLB7:=hI (hLa.stp hap.2)
       have HST7:=hI (hSTa.trans hap.2)
       have HU7:=hI (Nat.le_trans hba.size hap.2.size)
       obtain ⟨a0,a1,a2,af⟩:=cells3 hb8b
       refine ⟨gS8,?_⟩
       simp only [zA,zB,zC]
       refine RgD.tk0 9 85 (h:=?_)
       simp only [zA,zB,zC]
       refine RgD.tk0 10 86 (h:=?_)
       simp only [zA,zB,zC]
       refine RgD.one (i:=11) (by kernel_rfl) ?_
       obtain ⟨u7,hu7⟩ : ∃ W,w8.setCell ⟨Bb,2,none⟩ (.slice A8 q8 c8)=W:=⟨_,rfl⟩
       rw [hu7] at HBN7 HLB7 HST7 HU7
       refine RgD.store (i:=11) (w1:=u7) rfl rfl (by rfl) (by kernel_rfl) (by first | (go_simp;done) | (go_simp;exact hu7)) ?_
       refine RgD.done (by kernel_rfl) ?_ _
       clear a0 a1 a2 af hu7 gS8 hs8 hb8b ho8 hb8 hg8 hv8 hap hlo2 hq8 gSa hz hSTa hLa hBa hba
       obtain ⟨x0,x1,x2,x3,x4,x5,xf⟩:=cells6 HLB7.out.s
       go_upto_region 18 with fail
       clear x0 x1 x2 x3 x4 x5 xf
       have hLB0:=HLB7.out.stp (Stp.below (Below.drew (Below.refl u7.heap.size u7)))
       have HBN0:=hI (HBN7.out.below (Below.drew (Below.refl u7.heap.size u7)))
       have HST0:=hI (HST7.out.trans (Stp.below (Below.drew (Below.refl u7.heap.size u7))))
       have HW0:=hI (HWr.out.trans (HST0.out.low HBN.out.le (fun b e=>(HBN.out.lvlt e).1) HWr.out.size))
       have h1:=HL2.out
       have h2z:=HZ.out
       have g1:=row_len t tx (stPs b) lo2
       have g2:=row_ge t tx (stPs b) lo2
       obtain ⟨lo3,hlo3⟩ : ∃ z,BindP.blank lo2.length (rowI t tx lo2 (stPs b)).2=z:=⟨_,rfl⟩
       have g3 : lo3.length=(rowI t tx lo2 (stPs b)).2.length:=by rw [← hlo3,blank_len]
       have HLO3:=hI hlo3
       have g4:=row_len t tx (stPs e) lo3
       have g5:=row_ge t tx (stPs e) lo3
       obtain ⟨lo4,hlo4⟩ : ∃ z,BindP.blank lo3.length (rowI t tx lo3 (stPs e)).2=z:=⟨_,rfl⟩
       have g6 : lo4.length=(rowI t tx lo3 (stPs e)).2.length:=by rw [← hlo4,blank_len]
       have HLO4:=hI hlo4
       have HG:=hI (show lo2.length + 2 * nB (stPs b)≤4194304∧lo3.length + 2 * nB (stPs e)≤4194304∧lo2.length≤lo4.length∧lo4.length≤4194304 by omega)
       clear h1 h2z g1 g2 g3 g4 g5 g6 hlo3 hlo4
       refine RgD.begin_ [] (fun U=>U.heap[wh.heap.size]?=some (.cells #[.int .i64 11,.int .i64 n,.string (str s),.slice Aa ar.length ca,.slice Ab b.length cb,.slice Ae e.length ce] 65 (0,0))) (by kernel_rfl) hLB0.s (fun hHeld=>?_)
       refine tK 0 87 (h:=?_)
       simp only [zA,zB,zC]
       refine tK 1 88 (h:=?_)
       simp only [zA,zB,zC]
       refine tK 2 89 (v:=.slice Ab b.length cb) (hy:=by intro w0 hSw;obtain ⟨z0,z1,z2,z3,z4,z5,zf⟩:=cells6 hSw;first | (go_simp;done) | (go_simp;with_reducible rfl) | (go_simp;intro hc;exfalso;omega)) (h:=?_)
       simp only [zA,zB,zC]
       refine tK 4 91 (h:=?_)
       simp only [zA,zB,zC]
       refine tK 5 92 (h:=?_)
       simp only [zA,zB,zC]
       refine tK 6 93 (v:=.slice Ae e.length ce) (hy:=by intro w0 hSw;obtain ⟨z0,z1,z2,z3,z4,z5,zf⟩:=cells6 hSw;first | (go_simp;done) | (go_simp;with_reducible rfl) | (go_simp;intro hc;exfalso;omega)) (h:=?_)
       simp only [zA,zB,zC]
       refine RgD.one (i:=3) (by kernel_rfl) ?_
       refine RgD.call (i:=3) (t:=90) rfl rfl (by rfl) (by go_simp;exact ⟨rfl,rfl⟩) ?_
       refine (HIH.out b HZ.out.2.2.1 Ab cb u7.drew _ lo2 HBN0.out HW0.out HOP.out.2.1 HZ.out.2.2.2.2.1 HG.out.1).mono ?_
       rintro r u8 ⟨lv8,Ab2,cb2,b2,rfl,hpb,hbn8,hst8,hls8⟩
       rw [HLO3.out] at hbn8
       have HPB:=hI hpb
       have HBN8:=hI hbn8
       have HST8:=hI (HST0.out.trans hst8)
       have hLB8:=hLB0.stp hst8
       have HLS8:=hI hls8
       have HU8:=hI hst8.size
       clear hpb hbn8 hst8 hls8
       have HW8:=hI (HWr.out.trans (HST8.out.low HBN.out.le (fun b e=>(HBN.out.lvlt e).1) HWr.out.size))
       have gS8:=hLB8.s
       refine ⟨_,rfl,gS8,?_⟩
       simp only [zA,zB,zC]
       refine tK 8 95 (v:=.pointer (some ⟨xb,4,none⟩)) (h:=?_)
       simp only [zA,zB,zC]
       refine RgD.one (i:=7) (by kernel_rfl) ?_
       refine RgD.call (i:=7) (t:=94) rfl rfl (by rfl) (by go_simp;exact ⟨rfl,rfl⟩) ?_
       refine (HIH.out e HZ.out.2.2.2.1 Ae ce u8 _ lo3 HBN8.out HW8.out HOP.out.2.2 HZ.out.2.2.2.2.2 HG.out.2.1).mono ?_
       rintro r u9 ⟨lv9,Ae2,ce2,e2,rfl,hpe,hbn9,hst9,hls9⟩
       rw [HLO4.out] at hbn9
       have HPE:=hI hpe
       have HST9:=hI (HST8.out.trans hst9)
       have hLB9:=hLB8.stp hst9
       have HU9:=HU7.out
       have hu8:=HU8.out
       have hxl:=HXL.out
       have hbl:=HBl.out
       have hs6:=HST6.out.size
       have hs7:=HST7.out.size
       have hks : Bb < u7.heap.size:=Nat.lt_of_lt_of_le hbl hs7
       have hxu : xb < u7.heap.size:=by omega
       have hLS8:=HLS8.out.keep stays_s (Keep.stp hst9 hks)
       have hx9:=hLB9.xn
       have hbn9b : Bn Bb w0.heap.size (.slice A1 n1 c1) (.slice A2 n2 c2) u9 lv9 lo4:=hbn9
       obtain ⟨a0,a1,a2,a3,a4,a5,af⟩:=cells6 hLB9.x
       have hLBa:=hLB9.set4 (.slice Ab2 b2.length cb2)
       have hLBb:=hLBa.set5 (.slice Ae2 e2.length ce2)
       have hne : xb ≠ Bb:=by omega
       have hBNb:=(hbn9b.set (o:=4) hne hx9 (.slice Ab2 b2.length cb2)).set (o:=5) hne hx9 (.slice Ae2 e2.length ce2)
       have hSTb:=Stp.setx (o:=5) (Stp.setx (o:=4) HST9.out (Nat.le_of_lt hxl.1) (.slice Ab2 b2.length cb2)) (Nat.le_of_lt hxl.1) (.slice Ae2 e2.length ce2)
       have hLS8b:=(hLS8.keep stays_s (keep_set (K:=fun b=>u7.drew.heap.size≤b∧lv9.ownBlock ≠ some b) (g:=xb) 4 (.slice Ab2 b2.length cb2) (fun c=>by have:=c.1;have h7 : u7.drew.heap.size=u7.heap.size:=rfl;omega))).keep stays_s (keep_set (K:=fun b=>u7.drew.heap.size≤b∧lv9.ownBlock ≠ some b) (g:=xb) 5 (.slice Ae2 e2.length ce2) (fun c=>by have:=c.1;have h7 : u7.drew.heap.size=u7.heap.size:=rfl;omega))
       have hLS9b:=(hls9.keep stays_s (keep_set (K:=fun b=>u8.heap.size≤b∧lv9.ownBlock ≠ some b) (g:=xb) 4 (.slice Ab2 b2.length cb2) (fun c=>by have:=c.1;have h7 : u7.drew.heap.size=u7.heap.size:=rfl;omega))).keep stays_s (keep_set (K:=fun b=>u8.heap.size≤b∧lv9.ownBlock ≠ some b) (g:=xb) 5 (.slice Ae2 e2.length ce2) (fun c=>by have:=c.1;have h7 : u7.drew.heap.size=u7.heap.size:=rfl;omega))
       clear hpe hbn9 hst9 hls9 hLS8
       have gS9:=hLB9.s
       refine ⟨_,rfl,gS9,?_⟩
       simp only [zA,zB,zC]
       refine RgD.one (i:=9) (by kernel_rfl) ?_
       obtain ⟨ua,hua⟩ : ∃ W,u9.setCell ⟨xb,4,none⟩ (.slice Ab2 b2.length cb2)=W:=⟨_,rfl⟩
       rw [hua] at hLBa hLBb hBNb hSTb hLS8b hLS9b
       have gSa:=hLBa.s
       refine RgD.storeS (i:=9) (w1:=ua) rfl rfl (by rfl) (by first | (go_simp;done) | (go_simp;exact hua)) gSa ?_
       clear a0 a1 a2 a3 a4 a5 af
       obtain ⟨a0,a1,a2,a3,a4,a5,af⟩:=cells6 hLBa.x
       refine tK 10 96 (v:=.pointer (some ⟨xb,5,none⟩)) (h:=?_)
       simp only [zA,zB,zC]
       refine RgD.one (i:=11) (by kernel_rfl) ?_
       obtain ⟨ub,hub⟩ : ∃ W,ua.setCell ⟨xb,5,none⟩ (.slice Ae2 e2.length ce2)=W:=⟨_,rfl⟩
       rw [hub] at hLBb hBNb hSTb hLS8b hLS9b
       have gSb:=hLBb.s
       refine RgD.storeS (i:=11) (w1:=ub) rfl rfl (by rfl) (by first | (go_simp;done) | (go_simp;exact hub)) gSb ?_
       clear a0 a1 a2 a3 a4 a5 af
       refine RgD.done (by kernel_rfl) ?_ _
       have HLBb:=hI hLBb
       have HBNb:=hI hBNb
       have HSTb:=hI hSTb
       have HLS8b:=hI hLS8b
       have HLS9b:=hI hLS9b
       have HUb:=hI (And.intro hxu (And.intro hu8 hs7))
       clear hLBb hBNb hSTb hLS8b hLS9b hLB8 hLB9 hLBa hLB0 gSb gSa gS8 gS9 HU9 hu8 hxl hbl hs6 hs7 hks hxu hx9 hbn9b hne hua hub
       obtain ⟨x0,x1,x2,x3,x4,x5,xf⟩:=cells6 HLBb.out.s
       obtain ⟨a0,a1,a2,a3,a4,a5,af⟩:=cells6 HLBb.out.x
       obtain ⟨A9,c9,rfl,_,_⟩:=HBNb.out.own.shape
       obtain ⟨q9,hq9⟩ : ∃ z,lo4.length=z:=⟨_,rfl⟩
       have hqq : q3 < q9:=by have h1:=HG.out;have h2:=HLO2.out;have h3:=HQ3.out;rw [← hq9];have h4:=congrArg List.length h2;simp [ext] at h4;omega
       have hb9:=HBNb.out
       have hl9:=HLBb.out
       have hs9:=HSTb.out
       have h8b:=HLS8b.out
       have h9b:=HLS9b.out
       rw [hq9] at hb9 hl9 hs9 h8b h9b
       obtain ⟨g,rfl,_,_,hc9,hf9⟩:=hb9.own.at_ (by omega)
       have d0:=hc9 q3 (by rw [hq9];exact hqq)
       unfold sv at d0
       have d1:=hf9 q3
       have hbk:=hb9.blank q3 []
       obtain ⟨d2,d3,d4,df⟩:=cells3 hb9.box
       obtain ⟨uc,huc⟩ : ∃ W,ub.setCell ⟨g,q3,none⟩ (.string ⟨#[]⟩)=W:=⟨_,rfl⟩
       have huc2 : ub.setCell ⟨g,q3,none⟩ (sv [])=uc:=huc
       rw [huc2] at hbk
       have HBNc:=hI hbk.1
       have HLBc:=hI (hl9.stp hbk.2)
       have HSTc:=hI (hs9.trans hbk.2)
       have HLS8c:=hI (h8b.keep stays_s (Keep.stp hbk.2 (by have h7 : u7.drew.heap.size=u7.heap.size:=rfl;have:=HBl.out;have:=HUb.out.2.2;omega)))
       have HLS9c:=hI (h9b.keep stays_s (Keep.stp hbk.2 (by have h7 : u7.drew.heap.size=u7.heap.size:=rfl;have:=HBl.out;have:=HUb.out;omega)))
       clear HBNb HLBb HSTb HLS8b HLS9b
       have HLOL:=hI (show (if (11 : Int)=11 then lo4.set lo1.length [] else lo4)=lo4.set q3 [] by rw [if_pos rfl,HQ3.out])
       have l0 : (0 : Int)≤(q3 : Int):=by omega
       have l1 : (q3 : Int) < (q9 : Int):=by omega
       obtain ⟨e0,e1,e2_,e3,e4,e5,ef⟩:=cells6 HLBc.out.x
       clear hb9 hl9 hs9 h8b h9b hc9 hf9 hbk
       have hmz : Bb < w.heap.size:=HKW.out.2
       have hOu:=HR.out.own.keep stays_s (Keep.stp HSTc.out hmz)
       have hsz:=HSTc.out.size
       obtain ⟨ud,hud⟩ : ∃ W,uc.alloc (.cells #[.int .i64 kv,.int .i64 nv,.string ⟨#[]⟩,.slice Av al.length cv,.slice Ab2 b2.length cb2,.slice Ae2 e2.length ce2] 65)=W:=⟨_,rfl⟩
       have hbd:=(made hud).2.2
       have hOd:=hOu.below stays_s hbd
       have hyd : RdS (fun b=>(w.heap.size≤b∧(Value.slice (some ⟨g,0,none⟩) q9 c9).ownBlock ≠ some b)∧vo.ownBlock ≠ some b) ud (St.mk kv nv [] Av cv al Ab2 cb2 b2 Ae2 ce2 e2):=by
        have hvo : ∀ b,wh.heap.size≤b→vo.ownBlock ≠ some b:=fun b hb c=>by have:=(HR.out.own.lt c).2;omega
        have hww : w.heap.size≤wh.heap.size:=HR.out.stp.size
        have hub2:=HUb.out
        have hxl:=HXL.out
        have h7 : u7.drew.heap.size=u7.heap.size:=rfl
        have ka:=(HLBc.out.args.keep stays_x (Keep.below hbd)).keep stays_x (Keep.weak (K':=fun b=>(w.heap.size≤b∧(Value.slice (some ⟨g,0,none⟩) q9 c9).ownBlock ≠ some b)∧vo.ownBlock ≠ some b) fun b hb _=>⟨⟨by have:=hb.1;omega,hb.2⟩,hvo b (by have:=hb.1;omega)⟩)
        have kb:=(HLS8c.out.keep stays_s (Keep.below hbd)).keep stays_s (Keep.weak (K':=fun b=>(w.heap.size≤b∧(Value.slice (some ⟨g,0,none⟩) q9 c9).ownBlock ≠ some b)∧vo.ownBlock ≠ some b) fun b hb _=>⟨⟨by have:=hb.1;omega,hb.2⟩,hvo b (by have:=hb.1;omega)⟩)
        have kc:=(HLS9c.out.keep stays_s (Keep.below hbd)).keep stays_s (Keep.weak (K':=fun b=>(w.heap.size≤b∧(Value.slice (some ⟨g,0,none⟩) q9 c9).ownBlock ≠ some b)∧vo.ownBlock ≠ some b) fun b hb _=>⟨⟨by have:=hb.1;omega,hb.2⟩,hvo b (by have:=hb.1;omega)⟩)
        exact .mk ka.1 ka.2 kb.1 kb.2 kc.1 kc.2
       have HYD:=hI hyd
       have HOD:=hI hOd
       have HBD:=hI hbd
       have HSU:=hI hsz
       have hzd : Sk.Rd stE ud (some ⟨uc.heap.size,0,none⟩) 1 [(St.mk kv nv [] Av cv al Ab2 cb2 b2 Ae2 ce2 e2)]:=by rw [← hud];exact Sk.rd_lit (enc:=stE) _ 65 [(St.mk kv nv [] Av cv al Ab2 cb2 b2 Ae2 ce2 e2)] _ rfl 1 rfl
       have HZD:=hI hzd
       have HJ:=hI (show out.length≤1048576 by have:=HR.out.len;omega)
       have HWW:=hI (show w.heap.size≤wh.heap.size from HR.out.stp.size)
       clear hyd hOd hbd hzd hsz hOu hmz
       go_wp2_with (at_builtin;refine Sk.wpList_append elT rfl _ _ rfl rfl HOD.out.own (some ⟨uc.heap.size,0,none⟩) 1 1 [(St.mk kv nv [] Av cv al Ab2 cb2 b2 Ae2 ce2 e2)] rfl HZD.out (by have:=HJ.out;unfold maxLen;omega) (by have:=HJ.out;omega) (by have h1:=HWW.out;have h2:=HSU.out;have h3:=HBD.out.size;omega) ?_;intro v9 w9 ho9 hb9 hg9 _ hv9;have HO9:=hI ho9;have HG9:=hI hg9;have HV9:=hI hv9;clear ho9 hb9 hg9 hv9)
       go_roundw
       case rel=>
        have hBd:=HBNc.out.below HBD.out
        have hrow : ∀ g2,vo.ownBlock=some g2→w.heap.size≤g2∧(Value.slice (some ⟨g,0,none⟩) q9 c9).ownBlock ≠ some g2:=fun g2 hg=>HOD.out.row g2 hg
        refine ⟨j + 1,Value.slice (some ⟨g,0,none⟩) q9 c9,_,out ++ [(St.mk kv nv [] Av cv al Ab2 cb2 b2 Ae2 ce2 e2)],by omega,rfl,by go_num,⟨?_,?_,?_,by rw [List.length_append,HR.out.len];rfl,?_⟩⟩
        ·rw [HNX.out]
         have h9:=Bn.grown hBd HG9.out (fun c=>by have:=(hrow _ c).1;have:=HKW.out.2;omega) (fun g2 hg=>(hrow g2 hg).2)
         have e9:=congrArg Prod.snd HSTI.out
         rw [HLO2.out,HLO3.out,HLO4.out,HLOL.out] at e9
         exact (show (stI t tx lo1 (Ps.mk 11 n s (exPs ar) (stPs b) (stPs e))).2=lo4.set q3 [] from e9) ▸ h9
        ·exact Ow.append stays_s HOD.out HO9.out HG9.out HV9.out ⟨by have h1:=HWW.out;have h2:=HSU.out;have h3:=HBD.out.size;omega,fun c=>by have:=(hBd.lvlt c).2;omega⟩ (fun y hy=>by obtain rfl : y=(St.mk kv nv [] Av cv al Ab2 cb2 b2 Ae2 ce2 e2):=(by simpa using hy);exact HYD.out)
        ·rw [HNX.out,stPs_app,HR.out.ps]
         have e9:=congrArg Prod.fst HSTI.out
         rw [HLO2.out,HLO3.out,← HPB.out,← HPE.out] at e9
         exact congrArg (fun z=>_ ++ [z]) e9.symm
        ·exact Stp.grown ((HR.out.stp.trans HSTc.out).trans (Stp.below HBD.out)) HG9.out (fun g2 hg=>(hrow g2 hg).1)
       case measure=>simp [intOf];omega
      obtain ⟨lo2,hlo2⟩ : ∃ z,lo1 ++ ext k s=z:=⟨_,rfl⟩
      have HLO2:=hI hlo2
      have hl2 : lo2=lo1:=by rw [← hlo2];unfold ext;rw [if_neg h2,if_neg h11,List.append_nil]
      have HBN7:=hI (show Bn Bb w0.heap.size (.slice A1 n1 c1) (.slice A2 n2 c2) u6 (.slice A3 q3 c3) lo2 from hl2 ▸ HBN6.out)
      have HLB7:=HLB6
      have HST7:=HST6
      have HL2:=hI (show lo2.length≤q3 + 2∧q3≤lo2.length by rw [hl2,HQ3.out];omega)
      clear hlo2 hl2
      obtain ⟨u7,rfl⟩ : ∃ W,W=u6:=⟨_,rfl⟩
      have HU7:=hI (show u7.heap.size≤u7.heap.size from Nat.le_refl _)
      go_upto_region 18 with fail
      clear x0 x1 x2 x3 x4 x5 xf y0 y1 y2 yf
      have hLB0:=HLB7.out.stp (Stp.below (Below.drew (Below.refl u7.heap.size u7)))
      have HBN0:=hI (HBN7.out.below (Below.drew (Below.refl u7.heap.size u7)))
      have HST0:=hI (HST7.out.trans (Stp.below (Below.drew (Below.refl u7.heap.size u7))))
      have HW0:=hI (HWr.out.trans (HST0.out.low HBN.out.le (fun b e=>(HBN.out.lvlt e).1) HWr.out.size))
      have h1:=HL2.out
      have h2z:=HZ.out
      have g1:=row_len t tx (stPs b) lo2
      have g2:=row_ge t tx (stPs b) lo2
      obtain ⟨lo3,hlo3⟩ : ∃ z,BindP.blank lo2.length (rowI t tx lo2 (stPs b)).2=z:=⟨_,rfl⟩
      have g3 : lo3.length=(rowI t tx lo2 (stPs b)).2.length:=by rw [← hlo3,blank_len]
      have HLO3:=hI hlo3
      have g4:=row_len t tx (stPs e) lo3
      have g5:=row_ge t tx (stPs e) lo3
      obtain ⟨lo4,hlo4⟩ : ∃ z,BindP.blank lo3.length (rowI t tx lo3 (stPs e)).2=z:=⟨_,rfl⟩
      have g6 : lo4.length=(rowI t tx lo3 (stPs e)).2.length:=by rw [← hlo4,blank_len]
      have HLO4:=hI hlo4
      have HG:=hI (show lo2.length + 2 * nB (stPs b)≤4194304∧lo3.length + 2 * nB (stPs e)≤4194304∧lo2.length≤lo4.length∧lo4.length≤4194304 by omega)
      clear h1 h2z g1 g2 g3 g4 g5 g6 hlo3 hlo4
      refine RgD.begin_ [] (fun U=>U.heap[wh.heap.size]?=some (.cells #[.int .i64 k,.int .i64 n,.string (str s),.slice Aa ar.length ca,.slice Ab b.length cb,.slice Ae e.length ce] 65 (0,0))) (by kernel_rfl) hLB0.s (fun hHeld=>?_)
      refine tK 0 87 (h:=?_)
      simp only [zA,zB,zC]
      refine tK 1 88 (h:=?_)
      simp only [zA,zB,zC]
      refine tK 2 89 (v:=.slice Ab b.length cb) (hy:=by intro w0 hSw;obtain ⟨z0,z1,z2,z3,z4,z5,zf⟩:=cells6 hSw;first | (go_simp;done) | (go_simp;with_reducible rfl) | (go_simp;intro hc;exfalso;omega)) (h:=?_)
      simp only [zA,zB,zC]
      refine tK 4 91 (h:=?_)
      simp only [zA,zB,zC]
      refine tK 5 92 (h:=?_)
      simp only [zA,zB,zC]
      refine tK 6 93 (v:=.slice Ae e.length ce) (hy:=by intro w0 hSw;obtain ⟨z0,z1,z2,z3,z4,z5,zf⟩:=cells6 hSw;first | (go_simp;done) | (go_simp;with_reducible rfl) | (go_simp;intro hc;exfalso;omega)) (h:=?_)
      simp only [zA,zB,zC]
      refine RgD.one (i:=3) (by kernel_rfl) ?_
      refine RgD.call (i:=3) (t:=90) rfl rfl (by rfl) (by go_simp;exact ⟨rfl,rfl⟩) ?_
      refine (HIH.out b HZ.out.2.2.1 Ab cb u7.drew _ lo2 HBN0.out HW0.out HOP.out.2.1 HZ.out.2.2.2.2.1 HG.out.1).mono ?_
      rintro r u8 ⟨lv8,Ab2,cb2,b2,rfl,hpb,hbn8,hst8,hls8⟩
      rw [HLO3.out] at hbn8
      have HPB:=hI hpb
      have HBN8:=hI hbn8
      have HST8:=hI (HST0.out.trans hst8)
      have hLB8:=hLB0.stp hst8
      have HLS8:=hI hls8
      have HU8:=hI hst8.size
      clear hpb hbn8 hst8 hls8
      have HW8:=hI (HWr.out.trans (HST8.out.low HBN.out.le (fun b e=>(HBN.out.lvlt e).1) HWr.out.size))
      have gS8:=hLB8.s
      refine ⟨_,rfl,gS8,?_⟩
      simp only [zA,zB,zC]
      refine tK 8 95 (v:=.pointer (some ⟨xb,4,none⟩)) (h:=?_)
      simp only [zA,zB,zC]
      refine RgD.one (i:=7) (by kernel_rfl) ?_
      refine RgD.call (i:=7) (t:=94) rfl rfl (by rfl) (by go_simp;exact ⟨rfl,rfl⟩) ?_
      refine (HIH.out e HZ.out.2.2.2.1 Ae ce u8 _ lo3 HBN8.out HW8.out HOP.out.2.2 HZ.out.2.2.2.2.2 HG.out.2.1).mono ?_
      rintro r u9 ⟨lv9,Ae2,ce2,e2,rfl,hpe,hbn9,hst9,hls9⟩
      rw [HLO4.out] at hbn9
      have HPE:=hI hpe
      have HST9:=hI (HST8.out.trans hst9)
      have hLB9:=hLB8.stp hst9
      have HU9:=HU7.out
      have hu8:=HU8.out
      have hxl:=HXL.out
      have hbl:=HBl.out
      have hs6:=HST6.out.size
      have hs7:=HST7.out.size
      have hks : Bb < u7.heap.size:=Nat.lt_of_lt_of_le hbl hs7
      have hxu : xb < u7.heap.size:=by omega
      have hLS8:=HLS8.out.keep stays_s (Keep.stp hst9 hks)
      have hx9:=hLB9.xn
      have hbn9b : Bn Bb w0.heap.size (.slice A1 n1 c1) (.slice A2 n2 c2) u9 lv9 lo4:=hbn9
      obtain ⟨a0,a1,a2,a3,a4,a5,af⟩:=cells6 hLB9.x
      have hLBa:=hLB9.set4 (.slice Ab2 b2.length cb2)
      have hLBb:=hLBa.set5 (.slice Ae2 e2.length ce2)
      have hne : xb ≠ Bb:=by omega
      have hBNb:=(hbn9b.set (o:=4) hne hx9 (.slice Ab2 b2.length cb2)).set (o:=5) hne hx9 (.slice Ae2 e2.length ce2)
      have hSTb:=Stp.setx (o:=5) (Stp.setx (o:=4) HST9.out (Nat.le_of_lt hxl.1) (.slice Ab2 b2.length cb2)) (Nat.le_of_lt hxl.1) (.slice Ae2 e2.length ce2)
      have hLS8b:=(hLS8.keep stays_s (keep_set (K:=fun b=>u7.drew.heap.size≤b∧lv9.ownBlock ≠ some b) (g:=xb) 4 (.slice Ab2 b2.length cb2) (fun c=>by have:=c.1;have h7 : u7.drew.heap.size=u7.heap.size:=rfl;omega))).keep stays_s (keep_set (K:=fun b=>u7.drew.heap.size≤b∧lv9.ownBlock ≠ some b) (g:=xb) 5 (.slice Ae2 e2.length ce2) (fun c=>by have:=c.1;have h7 : u7.drew.heap.size=u7.heap.size:=rfl;omega))
      have hLS9b:=(hls9.keep stays_s (keep_set (K:=fun b=>u8.heap.size≤b∧lv9.ownBlock ≠ some b) (g:=xb) 4 (.slice Ab2 b2.length cb2) (fun c=>by have:=c.1;have h7 : u7.drew.heap.size=u7.heap.size:=rfl;omega))).keep stays_s (keep_set (K:=fun b=>u8.heap.size≤b∧lv9.ownBlock ≠ some b) (g:=xb) 5 (.slice Ae2 e2.length ce2) (fun c=>by have:=c.1;have h7 : u7.drew.heap.size=u7.heap.size:=rfl;omega))
      clear hpe hbn9 hst9 hls9 hLS8
      have gS9:=hLB9.s
      refine ⟨_,rfl,gS9,?_⟩
      simp only [zA,zB,zC]
      refine RgD.one (i:=9) (by kernel_rfl) ?_
      obtain ⟨ua,hua⟩ : ∃ W,u9.setCell ⟨xb,4,none⟩ (.slice Ab2 b2.length cb2)=W:=⟨_,rfl⟩
      rw [hua] at hLBa hLBb hBNb hSTb hLS8b hLS9b
      have gSa:=hLBa.s
      refine RgD.storeS (i:=9) (w1:=ua) rfl rfl (by rfl) (by first | (go_simp;done) | (go_simp;exact hua)) gSa ?_
      clear a0 a1 a2 a3 a4 a5 af
      obtain ⟨a0,a1,a2,a3,a4,a5,af⟩:=cells6 hLBa.x
      refine tK 10 96 (v:=.pointer (some ⟨xb,5,none⟩)) (h:=?_)
      simp only [zA,zB,zC]
      refine RgD.one (i:=11) (by kernel_rfl) ?_
      obtain ⟨ub,hub⟩ : ∃ W,ua.setCell ⟨xb,5,none⟩ (.slice Ae2 e2.length ce2)=W:=⟨_,rfl⟩
      rw [hub] at hLBb hBNb hSTb hLS8b hLS9b
      have gSb:=hLBb.s
      refine RgD.storeS (i:=11) (w1:=ub) rfl rfl (by rfl) (by first | (go_simp;done) | (go_simp;exact hub)) gSb ?_
      clear a0 a1 a2 a3 a4 a5 af
      refine RgD.done (by kernel_rfl) ?_ _
      have HLBb:=hI hLBb
      have HBNb:=hI hBNb
      have HSTb:=hI hSTb
      have HLS8b:=hI hLS8b
      have HLS9b:=hI hLS9b
      have HUb:=hI (And.intro hxu (And.intro hu8 hs7))
      clear hLBb hBNb hSTb hLS8b hLS9b hLB8 hLB9 hLBa hLB0 gSb gSa gS8 gS9 HU9 hu8 hxl hbl hs6 hs7 hks hxu hx9 hbn9b hne hua hub
      obtain ⟨x0,x1,x2,x3,x4,x5,xf⟩:=cells6 HLBb.out.s
      obtain ⟨a0,a1,a2,a3,a4,a5,af⟩:=cells6 HLBb.out.x
      have HLOL:=hI (show (if (k : Int)=11 then lo4.set lo1.length [] else lo4)=lo4 from if_neg h11)
      have hmz : Bb < w.heap.size:=HKW.out.2
      have hOu:=HR.out.own.keep stays_s (Keep.stp HSTb.out hmz)
      have hsz:=HSTb.out.size
      obtain ⟨ud,hud⟩ : ∃ W,ub.alloc (.cells #[.int .i64 kv,.int .i64 nv,.string ⟨#[]⟩,.slice Av al.length cv,.slice Ab2 b2.length cb2,.slice Ae2 e2.length ce2] 65)=W:=⟨_,rfl⟩
      have hbd:=(made hud).2.2
      have hOd:=hOu.below stays_s hbd
      have hyd : RdS (fun b=>(w.heap.size≤b∧(lv9).ownBlock ≠ some b)∧vo.ownBlock ≠ some b) ud (St.mk kv nv [] Av cv al Ab2 cb2 b2 Ae2 ce2 e2):=by
       have hvo : ∀ b,wh.heap.size≤b→vo.ownBlock ≠ some b:=fun b hb c=>by have:=(HR.out.own.lt c).2;omega
       have hww : w.heap.size≤wh.heap.size:=HR.out.stp.size
       have hub2:=HUb.out
       have hxl:=HXL.out
       have h7 : u7.drew.heap.size=u7.heap.size:=rfl
       have ka:=(HLBb.out.args.keep stays_x (Keep.below hbd)).keep stays_x (Keep.weak (K':=fun b=>(w.heap.size≤b∧(lv9).ownBlock ≠ some b)∧vo.ownBlock ≠ some b) fun b hb _=>⟨⟨by have:=hb.1;omega,hb.2⟩,hvo b (by have:=hb.1;omega)⟩)
       have kb:=(HLS8b.out.keep stays_s (Keep.below hbd)).keep stays_s (Keep.weak (K':=fun b=>(w.heap.size≤b∧(lv9).ownBlock ≠ some b)∧vo.ownBlock ≠ some b) fun b hb _=>⟨⟨by have:=hb.1;omega,hb.2⟩,hvo b (by have:=hb.1;omega)⟩)
       have kc:=(HLS9b.out.keep stays_s (Keep.below hbd)).keep stays_s (Keep.weak (K':=fun b=>(w.heap.size≤b∧(lv9).ownBlock ≠ some b)∧vo.ownBlock ≠ some b) fun b hb _=>⟨⟨by have:=hb.1;omega,hb.2⟩,hvo b (by have:=hb.1;omega)⟩)
       exact .mk ka.1 ka.2 kb.1 kb.2 kc.1 kc.2
      have HYD:=hI hyd
      have HOD:=hI hOd
      have HBD:=hI hbd
      have HSU:=hI hsz
      have hzd : Sk.Rd stE ud (some ⟨ub.heap.size,0,none⟩) 1 [(St.mk kv nv [] Av cv al Ab2 cb2 b2 Ae2 ce2 e2)]:=by rw [← hud];exact Sk.rd_lit (enc:=stE) _ 65 [(St.mk kv nv [] Av cv al Ab2 cb2 b2 Ae2 ce2 e2)] _ rfl 1 rfl
      have HZD:=hI hzd
      have HJ:=hI (show out.length≤1048576 by have:=HR.out.len;omega)
      have HWW:=hI (show w.heap.size≤wh.heap.size from HR.out.stp.size)
      clear hyd hOd hbd hzd hsz hOu hmz
      go_wp2_with (at_builtin;refine Sk.wpList_append elT rfl _ _ rfl rfl HOD.out.own (some ⟨ub.heap.size,0,none⟩) 1 1 [(St.mk kv nv [] Av cv al Ab2 cb2 b2 Ae2 ce2 e2)] rfl HZD.out (by have:=HJ.out;unfold maxLen;omega) (by have:=HJ.out;omega) (by have h1:=HWW.out;have h2:=HSU.out;have h3:=HBD.out.size;omega) ?_;intro v9 w9 ho9 hb9 hg9 _ hv9;have HO9:=hI ho9;have HG9:=hI hg9;have HV9:=hI hv9;clear ho9 hb9 hg9 hv9)
      go_roundw
      case rel=>
       have hBd:=HBNb.out.below HBD.out
       have hrow : ∀ g2,vo.ownBlock=some g2→w.heap.size≤g2∧(lv9).ownBlock ≠ some g2:=fun g2 hg=>HOD.out.row g2 hg
       refine ⟨j + 1,lv9,_,out ++ [(St.mk kv nv [] Av cv al Ab2 cb2 b2 Ae2 ce2 e2)],by omega,rfl,by go_num,⟨?_,?_,?_,by rw [List.length_append,HR.out.len];rfl,?_⟩⟩
       ·rw [HNX.out]
        have h9:=Bn.grown hBd HG9.out (fun c=>by have:=(hrow _ c).1;have:=HKW.out.2;omega) (fun g2 hg=>(hrow g2 hg).2)
        have e9:=congrArg Prod.snd HSTI.out
        rw [HLO2.out,HLO3.out,HLO4.out,HLOL.out] at e9
        exact (show (stI t tx lo1 (Ps.mk k n s (exPs ar) (stPs b) (stPs e))).2=lo4 from e9) ▸ h9
       ·exact Ow.append stays_s HOD.out HO9.out HG9.out HV9.out ⟨by have h1:=HWW.out;have h2:=HSU.out;have h3:=HBD.out.size;omega,fun c=>by have:=(hBd.lvlt c).2;omega⟩ (fun y hy=>by obtain rfl : y=(St.mk kv nv [] Av cv al Ab2 cb2 b2 Ae2 ce2 e2):=(by simpa using hy);exact HYD.out)
       ·rw [HNX.out,stPs_app,HR.out.ps]
        have e9:=congrArg Prod.fst HSTI.out
        rw [HLO2.out,HLO3.out,← HPB.out,← HPE.out] at e9
        exact congrArg (fun z=>_ ++ [z]) e9.symm
       ·exact Stp.grown ((HR.out.stp.trans HSTb.out).trans (Stp.below HBD.out)) HG9.out (fun g2 hg=>(hrow g2 hg).1)
      case measure=>simp [intOf];omega
   ·obtain rfl : m=j:=by omega
    have HTK:=hI (show l.take m=l from List.take_of_length_le (by rw [HM.out];exact Nat.le_refl _))
    have HR2:=HR.out
    obtain ⟨A9,c9,e9,hlg⟩:=HR2.own.list stays_s
    have HLG:=hI hlg
    have HE9:=hI e9
    clear HR2 hlg
    subst e9
    go_wp2_with fail
    go_ret
    refine ⟨lv,A9,c9,out,rfl,?_,?_,HR.out.stp,HLG.out⟩
    ·have h:=HR.out.ps;rw [HTK.out] at h;exact h
    ·have h:=HR.out.bn;rw [HTK.out] at h;exact h
end Go.Proofs.YteibcfpepdbflaaGreat.BindQ
