/- clewref16.block: what is wrong with statements, without a panic; nothing: what that says. Conditions: sizes within the reach. -/
import Derived.Test.YteibcfpepdbflaaGreatBindV
import Derived.Test.YteibcfpepdbflaaGreatBindZ
open Go.Lib renaming hid → hI
open Go.Proofs.YteibcfpepdbflaaGreat.RgD renaming tk → tK, sA → zA, s0 → zB, s1 → zC
namespace Go.Proofs.YteibcfpepdbflaaGreat.CkE
open Go Go.RowKit BindP BindD BindO BindW BindG BindX BindB BindS BindK BindT BindU BindL TxA RtS RtX RtD CkP CkA CkB CkC
open Byt (str)
theorem ret_w (p : Tmp) (g : Nat) (y0 y1 : Value) {fn : Func} {Q : Ending→World→Prop} {a : Act} {w : World} (hg : w.heap[g]?=some (.cells #[y0,y1] 125 (0,0)))
  (h : fn.results=#[.cell p 125]) (hp : a.tmps.getD p undef=.pointer (some ⟨g,0,none⟩)) (hdf : a.defers=[]) (hq : Q (.returned (.agg #[y0,y1])) w) : bodyPost Tryz.prog fn Q .ret a w:=
 ret_c (d:=_) (cs:=#[y0,y1]) (t':=125) (fr:=(0,0)) hg h hp Tryz.underlying125 rfl (by kernel_rfl) hdf hq
theorem ckB_take {t : List Nm} {F : List Nat} {lo : List S} {mad : Nat} {l : List St} {j : Nat} (h : j < l.length) : ckB t F lo mad (stPs (l.take (j + 1)))↔ckB t F lo mad (stPs (l.take j))∧ckS t F (nextLs lo (stPs (l.take j))) (mad + locs (stPs (l.take j))) l[j].p:=by
 rw [List.take_succ_eq_append_getElem h,stPs_app]
 exact ckB_snoc _ _ _ _ _ _
theorem nextLs_take {lo : List S} {l : List St} {j : Nat} (h : j < l.length) : nextLs lo (stPs (l.take (j + 1)))=nextL (nextLs lo (stPs (l.take j))) l[j].p:=by
 rw [List.take_succ_eq_append_getElem h,stPs_app]
 exact nextLs_snoc _ _ _
theorem nextLs_nB (lo : List S) : ∀ l : List Ps,(nextLs lo l).length≤lo.length + nB l:=by
 intro l
 induction l generalizing lo with
 | nil=>simp [nextLs]
 | cons a l ih=>
  have h1:=ih (nextL lo a)
  have h2:=nextL_len lo a
  have h3 : 1≤nS a:=by cases a;unfold nS;omega
  unfold nextLs nB
  omega
def BlkW (t : List Nm) (A1 nA : Option Addr) (n1 c1 nc : Nat) (fn : List BindO.Fn) (a0 a1 a2 a3 a4 a5 a6 a7 a8 a9 a10 a12 : Value) (wh : Int) (l : List St) : Prop:=
 ∀ (lo : List S) (mad : Nat) (A3 A : Option Addr) (n3 c3 c : Nat) (w : World),Cv w A1 n1 t nA nc fn→Sq.Rd sv w A3 n3 lo→Ls top w A c l→lo.length + nB (stPs l)≤4194304→mad + 2 * nB (stPs l)≤8388608 →
  Calls Tryz.prog 64 #[.slice A1 n1 c1,.agg #[a0,a1,a2,a3,a4,a5,a6,a7,a8,a9,a10,.slice nA fn.length nc,a12],.slice A3 n3 c3,.int .i64 wh,.int .i64 (mad : Int),.slice A l.length c] w (WrV (ckB t (pars fn) lo mad (stPs l)) w)
set_option maxRecDepth 100000 in
set_option maxHeartbeats 64000000 in
theorem block_c (t : List Nm) (A1 nA : Option Addr) (n1 c1 nc : Nat) (fn : List BindO.Fn) (a0 a1 a2 a3 a4 a5 a6 a7 a8 a9 a10 a12 : Value) (wh : Int) : ∀ (N : Nat) (l : List St),nB (stPs l)≤N→nB (stPs l)≤1048576→BlkW t A1 nA n1 c1 nc fn a0 a1 a2 a3 a4 a5 a6 a7 a8 a9 a10 a12 wh l:=by
 intro N
 induction N using Nat.strongRecOn with
 | _ N ihN=>
  intro l hlN hnB lo mad A3 A n3 c3 c w hcv hlo hl hsz hmd
  have HIH:=hI (show ∀ l' : List St,nB (stPs l') < N∧nB (stPs l')≤1048576→BlkW t A1 nA n1 c1 nc fn a0 a1 a2 a3 a4 a5 a6 a7 a8 a9 a10 a12 wh l' from fun l' h=>ihN _ h.1 l' (Nat.le_refl _) h.2)
  have hll : l.length≤1048576:=by
   have h1:=sum_len (m:=fun x : St=>nS x.p) (fun x=>by cases x;unfold St.p nS;omega) l
   rw [← nB_sum] at h1
   omega
  have HTOT:=hI (show ∀ j,locs (stPs (l.take j))≤2 * nB (stPs (l.take j))∧(nextLs lo (stPs (l.take j))).length≤lo.length + nB (stPs (l.take j))∧nB (stPs (l.take j))≤nB (stPs l) from fun j=>by
   have h1:=locs_le.2 (stPs (l.take j))
   have h3:=nextLs_nB lo (stPs (l.take j))
   have e : l=l.take j ++ l.drop j:=(List.take_append_drop _ _).symm
   have h2 : nB (stPs l)=nB (stPs (l.take j)) + nB (stPs (l.drop j)):=by rw [← nB_app,← stPs_app,← e]
   omega)
  have HLN:=hI hlo.len
  have HCV:=hI hcv
  have HLO:=hI hlo
  have HL:=hI hl
  have HNN:=hI (show (nB (stPs l)≤N∧nB (stPs l)≤1048576)∧lo.length + nB (stPs l)≤4194304∧mad + 2 * nB (stPs l)≤8388608 from ⟨⟨hlN,hnB⟩,hsz,hmd⟩)
  obtain ⟨CX,hCX⟩ : ∃ p,p=ckB t (pars fn) lo mad (stPs l):=⟨_,rfl⟩
  have HCX:=hI hCX
  rw [← hCX]
  obtain ⟨m,hm⟩ : ∃ m,l.length=m:=⟨_,rfl⟩
  have HM:=hI hm
  rw [hm] at hll ⊢
  have hmd2 : mad≤8388608:=by omega
  clear hm ihN hlN hl hnB hcv hlo hsz hCX hmd
  obtain ⟨V1,hV1⟩ : ∃ W,w.alloc (.cells #[a0,a1,a2,a3,a4,a5,a6,a7,a8,a9,a10,.slice nA fn.length nc,a12] 29)=W:=⟨_,rfl⟩
  obtain ⟨V,hV⟩ : ∃ W,V1.alloc (.cells #[.int .i64 0,.string ⟨#[]⟩] 125)=W:=⟨_,rfl⟩
  obtain ⟨m1,s1,b1⟩:=made hV1
  obtain ⟨m2,s2,b2⟩:=made hV
  have m1':=(b2.block w.heap.size (by omega)).trans m1
  have HO0:=hI (show ∀ U,Below V.heap.size V U→U.heap[w.heap.size]?=some (.cells #[a0,a1,a2,a3,a4,a5,a6,a7,a8,a9,a10,.slice nA fn.length nc,a12] 29 (0,0)) from fun U h=>(h.block _ (Array.getElem?_eq_some_iff.1 m1').1).trans m1')
  have HO1:=hI (show ∀ U,Below V.heap.size V U→U.heap[V1.heap.size]?=some (.cells #[.int .i64 0,.string ⟨#[]⟩] 125 (0,0)) from fun U h=>(h.block _ (Array.getElem?_eq_some_iff.1 m2).1).trans m2)
  have HBV:=hI (b1.trans (b2.mono b1.size))
  have HPV:=hI (show w.heap.size≤V1.heap.size∧V1.heap.size < V.heap.size∧w.heap.size < V.heap.size by omega)
  obtain ⟨p0,hp0⟩ : ∃ p,w.heap.size=p:=⟨_,rfl⟩
  obtain ⟨p1,hp1⟩ : ∃ p,V1.heap.size=p:=⟨_,rfl⟩
  rw [hp0] at HO0
  rw [hp1] at HO1 HPV
  clear m1' m1 m2 s1 s2 b1 b2
  go_enter Tryz.func64,Tryz.ntmps64
  go_wp2_with fail
  clear hV1 hV hp0 hp1
  go_loopw [2,4,13] (fun lv mv iv wr=>∃ (j q : Nat) (A4 : Option Addr) (c4 : Nat) (lj : List S),j≤m∧lv=.slice A4 lj.length c4∧mv=.int .i64 (q : Int)∧iv=.int .i64 (j : Int)∧Hid (lj=nextLs lo (stPs (l.take j))∧q=mad + locs (stPs (l.take j))∧ckB t (pars fn) lo mad (stPs (l.take j)))∧Sq.Rd sv wr A4 lj.length lj∧Below V.heap.size V wr) (fun _ _ iv _=>m - (intOf iv).toNat)
  case atStart=>exact ⟨0,mad,A3,c3,lo,Nat.zero_le _,by rw [HLN.out],rfl,rfl,hI ⟨by simp [stPs,nextLs],by simp [stPs,locs],by simp [stPs,ckB]⟩,by rw [← HLN.out];exact HLO.out.below HBV.out,Below.refl _ _⟩
  case round=>
   obtain ⟨j,q,A4,c4,lj,hj,rfl,rfl,rfl,HQ,hrd,hb⟩:=hrel
   have HB:=hI hb
   have HRD:=hI hrd
   clear hb hrd
   obtain ⟨qn,hqn⟩ : ∃ x,lj.length=x:=⟨_,rfl⟩
   have HQN:=hI hqn
   rw [hqn] at HRD ⊢
   clear hqn
   have k0 : (0 : Int)≤(j : Int):=by omega
   by_cases hlt : j < m
   ·have hjl : j < l.length:=by rw [HM.out];exact hlt
    have HBW:=hI (HBV.out.trans (HB.out.mono HBV.out.size))
    obtain ⟨b_,o_,rfl,hbl,hc⟩:=Lg.at_ stE_len (show Ls top wr A c l from Lg.keep stays_s (Keep.below HBW.out) HL.out) hjl
    obtain ⟨⟨k,n,s,Aa,ca,ar,Ab,cb,b,Ae,ce,e⟩,hy⟩ : ∃ y,l[j]=y:=⟨_,rfl⟩
    have hmem : l[j] ∈ l:=List.getElem_mem hjl
    have htk:=take_nB hjl
    have hlk:=locs_take hjl
    have hnx:=nextLs_take (lo:=lo) hjl
    have hck:=ckB_take (t:=t) (F:=pars fn) (lo:=lo) (mad:=mad) hjl
    rw [hy] at hc hmem htk hlk hnx hck
    have HOP:=hI ((HL.out.2 _ hmem).open_)
    have c0 : wr.cell? ⟨b_,o_ + j * 6,none⟩=some (.int .i64 k):=hc 0 _ rfl
    have c1_ : wr.cell? ⟨b_,o_ + j * 6 + 1,none⟩=some (.int .i64 n):=hc 1 _ rfl
    have c2 : wr.cell? ⟨b_,o_ + j * 6 + 2,none⟩=some (.string (str s)):=hc 2 _ rfl
    have c3_ : wr.cell? ⟨b_,o_ + j * 6 + 3,none⟩=some (.slice Aa ar.length ca):=hc 3 _ rfl
    have c4_ : wr.cell? ⟨b_,o_ + j * 6 + 4,none⟩=some (.slice Ab b.length cb):=hc 4 _ rfl
    have c5 : wr.cell? ⟨b_,o_ + j * 6 + 5,none⟩=some (.slice Ae e.length ce):=hc 5 _ rfl
    have k1 : (j : Int) < (m : Int):=by omega
    rw [← HQ.out.1] at hnx hck
    rw [← HQ.out.2.1] at hck
    simp only [St.p] at hck hnx hlk
    simp only [ckS] at hck
    simp only [nextL] at hnx
    simp only [locs1] at hlk
    unfold St.p nS at htk
    have hlkq : mad + locs (stPs (l.take (j + 1)))=q + (mine k + (locs (stPs b) + locs (stPs e))):=by have:=HQ.out.2.1;omega
    have har : ar.length≤nEs (exPs ar):=by
     have h1:=sum_len (m:=fun x : Ex=>nE x.p) (fun x=>nE_pos x.p) ar
     rw [← nEs_sum] at h1
     exact h1
    have hbe:=locs_le.2 (stPs b)
    have hee:=locs_le.2 (stPs e)
    have h9:=HTOT.out j
    have h10:=HNN.out
    have h11:=HQ.out.2.1
    have h12 : qn≤lo.length + nB (stPs (l.take j)):=by rw [← HQN.out,HQ.out.1];exact h9.2.1
    have HZ:=hI (show ((nB (stPs b) < N∧nB (stPs b)≤1048576)∧(nB (stPs e) < N∧nB (stPs e)≤1048576))∧nEs (exPs ar)≤1048576∧qn + 1 + nB (stPs b)≤4194304∧qn + 1 + nB (stPs e)≤4194304∧q + 2 + 2 * nB (stPs b) + 2 * nB (stPs e)≤8388608∧locs (stPs b)≤2 * nB (stPs b)∧locs (stPs e)≤2 * nB (stPs e) by omega)
    have hqz : q≤8388606:=by have:=HZ.out;omega
    have zar : ar.length≤1048576:=by omega
    obtain ⟨lb,hlb⟩ : ∃ x,locs (stPs b)=x:=⟨_,rfl⟩
    obtain ⟨le,hle⟩ : ∃ x,locs (stPs e)=x:=⟨_,rfl⟩
    rw [hlb,hle] at hlkq
    rw [hlb] at hck
    have hlbz : lb≤2097152:=by have:=HZ.out;omega
    have hlez : le≤2097152:=by have:=HZ.out;omega
    have hsumz : q + 2 + lb + le≤8388608:=by have:=HZ.out;omega
    have HLB:=hI (And.intro hlb hle)
    have HCK:=hI hck
    have HNX:=hI hnx
    have HLK:=hI hlkq
    clear hc hy hmem htk hlk hlkq hnx hck har hbe hee h9 h10 h11 h12 hlb hle
    go_upto_region 5 with fail
    clear c0 c1_ c2 c3_ c4_ c5
    obtain ⟨wa,hwa⟩ : ∃ W1,wr.alloc (.cells #[.int .i64 k,.int .i64 n,.string (str s),.slice Aa ar.length ca,.slice Ab b.length cb,.slice Ae e.length ce] 65)=W1:=⟨_,rfl⟩
    rw [hwa]
    obtain ⟨m2,s2,b2'⟩:=made hwa
    have HBA:=hI (HB.out.trans (b2'.mono HB.out.size))
    have HRA:=hI (HRD.out.below b2')
    obtain ⟨pb,hpb⟩ : ∃ x,wr.heap.size=x:=⟨_,rfl⟩
    rw [hpb] at m2 ⊢
    have HO2:=hI (show ∀ U,Below wa.heap.size wa U→U.heap[pb]?=some (.cells #[.int .i64 k,.int .i64 n,.string (str s),.slice Aa ar.length ca,.slice Ab b.length cb,.slice Ae e.length ce] 65 (0,0)) from fun U h=>(h.block _ (Array.getElem?_eq_some_iff.1 m2).1).trans m2)
    have HBU:=hI (show ∀ U,Below wa.heap.size wa U→Below V.heap.size V U from fun U h=>HBA.out.trans (h.mono HBA.out.size))
    have HBT:=hI (show ∀ U,Below wa.heap.size wa U→Below w.heap.size w U from fun U h=>HBV.out.trans ((HBU.out U h).mono HBV.out.size))
    clear m2 s2 b2' hwa hpb
    obtain ⟨y0,y1,y2,y3,y4,y5,yf⟩:=cells6 (HO2.out wa (Below.refl _ _))
    go_wp2_with fail
    clear y0 y1 y2 y3 y4 y5 yf
    go_loopw [15] (fun iv wx=>∃ i : Nat,i≤ar.length∧iv=.int .i64 (i : Int)∧Hid (ckEs t (pars fn) lj (exPs (ar.take i)))∧Below wa.heap.size wa wx) (fun iv _=>ar.length - (intOf iv).toNat)
    case atStart=>exact ⟨0,Nat.zero_le _,rfl,hI (by simp [exPs,ckEs]),Below.refl _ _⟩
    case round=>
     obtain ⟨i,hi,rfl,HE,hb⟩:=hrel
     have HBX:=hI hb
     clear hb
     obtain ⟨y0,y1,y2,y3,y4,y5,yf⟩:=cells6 (HO2.out wr HBX.out)
     have i0 : (0 : Int)≤(i : Int):=by omega
     by_cases hli : i < ar.length
     ·have i1 : (i : Int) < (ar.length : Int):=by omega
      obtain ⟨b2,o2,rfl,hb2,hc⟩:=Lg.at_ exE_len (show Lx top wr Aa ca ar from Lg.keep stays_x (Keep.below (HBT.out wr HBX.out)) HOP.out.1) hli
      obtain ⟨⟨ek,ep,en,es,eA,ec,el⟩,hy⟩ : ∃ y,ar[i]=y:=⟨_,rfl⟩
      have HNY:=hI (show ckEs t (pars fn) lj (exPs (ar.take (i + 1)))↔ckEs t (pars fn) lj (exPs (ar.take i))∧ckE t (pars fn) lj (Ex.mk ek ep en es eA ec el).p by rw [ckEs_take hli,hy])
      have hmem : ar[i] ∈ ar:=List.getElem_mem hli
      rw [hy] at hc hmem
      have HME:=hI (And.intro hmem (show nE (Ex.mk ek ep en es eA ec el).p≤1048576 by
       have h1:=sum_mem (m:=fun x : Ex=>nE x.p) ar _ hmem
       rw [← nEs_sum] at h1
       have:=HZ.out
       omega))
      have HSc:=hI (show ∀ U,Below wr.heap.size wr U→(U.cell? ⟨b2,o2 + i * 5,none⟩=some (.int .i64 ek)∧U.cell? ⟨b2,o2 + i * 5 + 1,none⟩=some (.int .i64 ep)∧U.cell? ⟨b2,o2 + i * 5 + 2,none⟩=some (.int .i64 en)∧U.cell? ⟨b2,o2 + i * 5 + 3,none⟩=some (.string (str es))∧U.cell? ⟨b2,o2 + i * 5 + 4,none⟩=some (.slice eA el.length ec)) from fun U hU=>⟨(hU.cell (p:=⟨b2,_,none⟩) hb2).trans (hc 0 _ rfl),(hU.cell (p:=⟨b2,_,none⟩) hb2).trans (hc 1 _ rfl),(hU.cell (p:=⟨b2,_,none⟩) hb2).trans (hc 2 _ rfl),(hU.cell (p:=⟨b2,_,none⟩) hb2).trans (hc 3 _ rfl),(hU.cell (p:=⟨b2,_,none⟩) hb2).trans (hc 4 _ rfl)⟩)
      have HBY:=hI (show ∀ U,Below wr.heap.size wr U→Below wa.heap.size wa U from fun U h=>HBX.out.trans (h.mono HBX.out.size))
      clear hc hy hmem hb2
      go_upto_region 8 with fail
      have hS0 : Below wr.heap.size wr wr.drew:=Below.drew (Below.refl _ _)
      refine RgD.begin_ [] (fun U=>Below wr.heap.size wr U) (by kernel_rfl) hS0 (fun hHeld=>?_)
      refine tK 0 38 (h:=?_)
      simp only [zA,zB,zC]
      refine tK 1 39 (v:=.agg #[a0,a1,a2,a3,a4,a5,a6,a7,a8,a9,a10,.slice nA fn.length nc,a12]) (hy:=by intro w0 hSw;obtain ⟨x0,x1,x2,x3,x4,x5,x6,x7,x8,x9,x10,x11,x12,xf⟩:=cellz13 (HO0.out _ (HBU.out _ (HBY.out _ hSw)));first | (go_simp;done) | (go_simp;with_reducible rfl) | (go_simp;intro hc;exfalso;omega)) (h:=?_)
      simp only [zA,zB,zC]
      refine tK 2 40 (h:=?_)
      simp only [zA,zB,zC]
      refine tK 3 41 (h:=?_)
      simp only [zA,zB,zC]
      refine tK 4 42 (v:=.slice (some ⟨b2,o2,none⟩) ar.length ca) (hy:=by intro w0 hSw;obtain ⟨y0,y1,y2,y3,y4,y5,yf⟩:=cells6 (HO2.out _ (HBY.out _ hSw));first | (go_simp;done) | (go_simp;with_reducible rfl) | (go_simp;intro hc;exfalso;omega)) (h:=?_)
      simp only [zA,zB,zC]
      refine tK 5 43 (h:=?_)
      simp only [zA,zB,zC]
      refine tK 6 44 (h:=?_)
      simp only [zA,zB,zC]
      refine tK 7 45 (v:=.agg #[.int .i64 ek,.int .i64 ep,.int .i64 en,.string (str es),.slice eA el.length ec]) (hy:=by intro w0 hSw;obtain ⟨z0,z1,z2,z3,z4⟩:=HSc.out _ hSw;first | (go_simp;done) | (go_simp;with_reducible rfl) | (go_simp;intro hc;exfalso;omega)) (h:=?_)
      simp only [zA,zB,zC]
      refine RgD.two (i:=8) (j:=9) (by kernel_rfl) ?_ ?_
      ·refine RgD.call (i:=8) (t:=46) rfl rfl (by rfl) (by go_simp;exact ⟨rfl,rfl⟩) ?_
       have hF9:=HBT.out _ (HBY.out _ hS0)
       refine (expr_c t lj A1 A4 nA n1 c1 qn c4 nc fn a0 a1 a2 a3 a4 a5 a6 a7 a8 a9 a10 a12 _ wr.drew (HCV.out.below hF9) (HRA.out.below (HBY.out _ hS0)) (by have:=HZ.out;omega) (RdX.keep (Keep.below hF9) (HOP.out.1.2 _ HME.out.1)) HME.out.2).mono ?_
       rintro r w9 ⟨er9,s9,rfl,hp,hb⟩
       have HP9:=hI hp
       have hS9:=(hS0).trans (hb.mono (hS0).size)
       have HS9:=hI hS9
       clear hb hp hF9
       refine ⟨_,rfl,hS9,?_⟩
       simp only [zA,zB,zC]
       refine RgD.one (i:=9) (by kernel_rfl) ?_
       obtain ⟨w10,hw10⟩ : ∃ W,w9.alloc (.cells #[.int .i64 0,.string ⟨#[]⟩] 125)=W:=⟨_,rfl⟩
       obtain ⟨m10,s10,b10⟩:=made hw10
       have hS10:=(HS9.out).trans (b10.mono (HS9.out).size)
       have HS10:=hI hS10
       have HM10:=hI (show w10.heap[w9.heap.size]?=_ from m10)
       have HQ10:=hI (show wr.heap.size≤w9.heap.size from (HS9.out).size)
       refine RgD.eff (i:=9) (t:=16) (v:=.pointer (some ⟨w9.heap.size,0,none⟩)) (w1:=w10) rfl rfl (by rfl) (by first | (go_simp;done) | (go_simp;exact ⟨rfl,hw10⟩) | (go_simp;rw [hw10];rfl) | (go_simp;exact hw10)) hS10 ?_
       simp only [zA,zB,zC]
       clear hw10
       refine RgD.one (i:=10) (by kernel_rfl) ?_
       obtain ⟨g0,g1,gf⟩:=cells2 HM10.out
       have HM11:=hI (set2 (y0:=.int .i64 er9) (y1:=.string (str s9)) HM10.out)
       have HS11:=hI (set2_below (y0:=.int .i64 er9) (y1:=.string (str s9)) (HS10.out) HQ10.out)
       obtain ⟨w11,hw11⟩ : ∃ W,(w10.setCell ⟨w9.heap.size,0,none⟩ (.int .i64 er9)).setCell ⟨w9.heap.size,1,none⟩ (.string (str s9))=W:=⟨_,rfl⟩
       rw [hw11] at HM11 HS11
       refine RgD.storeS (i:=10) (w1:=w11) rfl rfl (by rfl) (by first | (go_simp;done) | (go_simp;exact hw11) | (go_simp;rw [hw11])) HS11.out ?_
       refine RgD.done (by kernel_rfl) ?_ _
       clear g0 g1 gf hS0 hS9 hS10
       obtain ⟨g0,g1,gf⟩:=cells2 HM11.out
       by_cases he0 : er9=0
       ·have qe : (er9 != 0)=false:=by simp [he0]
        have HE9:=hI (HP9.out he0)
        clear he0
        go_wp2_with fail
        go_roundw
        case rel=>exact ⟨i + 1,by omega,by go_num,hI (HNY.out.2 ⟨HE.out,HE9.out⟩),HBY.out _ HS11.out⟩
        case measure=>simp [intOf];omega
       ·have qe : (er9 != 0)=true:=by simp [he0]
        have HE9:=hI he0
        clear he0
        obtain ⟨r0,r1,rf⟩:=cells2 (HO1.out w11 (HBU.out _ (HBY.out _ HS11.out)))
        obtain ⟨X,hX⟩ : ∃ X,(w11.setCell ⟨p1,0,none⟩ (.int .i64 er9)).setCell ⟨p1,1,none⟩ (.string (str s9))=X:=⟨_,rfl⟩
        have HX:=hI (show X.heap[p1]?=some (.cells #[.int .i64 er9,.string (str s9)] 125 (0,0)) by rw [← hX];exact set2 (HO1.out w11 (HBU.out _ (HBY.out _ HS11.out))))
        have HXB:=hI (show Below w.heap.size w X by rw [← hX];exact set2_below (HBV.out.trans ((HBU.out _ (HBY.out _ HS11.out)).mono HBV.out.size)) HPV.out.1)
        go_wp2_with ((with_reducible refine ret_w 12 p1 (.int .i64 er9) (.string (str s9)) ?_ ?_ ?_ ?_ ?_);exact HX.out;rfl;rfl;rfl;exact ⟨er9,s9,rfl,(fun h=>absurd h HE9.out),HXB.out⟩)
      ·obtain ⟨w10,hw10⟩ : ∃ W,wr.drew.alloc (.cells #[.int .i64 0,.string ⟨#[]⟩] 125)=W:=⟨_,rfl⟩
       obtain ⟨m10,s10,b10⟩:=made hw10
       have hS10:=(hS0).trans (b10.mono (hS0).size)
       have HS10:=hI hS10
       have HM10:=hI (show w10.heap[wr.heap.size]?=_ from m10)
       have HQ10:=hI (show wr.heap.size≤wr.heap.size from (hS0).size)
       refine RgD.eff (i:=9) (t:=16) (v:=.pointer (some ⟨wr.heap.size,0,none⟩)) (w1:=w10) rfl rfl (by rfl) (by first | (go_simp;done) | (go_simp;exact ⟨rfl,hw10⟩) | (go_simp;rw [hw10];rfl) | (go_simp;exact hw10)) hS10 ?_
       simp only [zA,zB,zC]
       clear hw10
       refine RgD.one (i:=8) (by kernel_rfl) ?_
       refine RgD.call (i:=8) (t:=46) rfl rfl (by rfl) (by go_simp;exact ⟨rfl,rfl⟩) ?_
       have hF9:=HBT.out _ (HBY.out _ HS10.out)
       refine (expr_c t lj A1 A4 nA n1 c1 qn c4 nc fn a0 a1 a2 a3 a4 a5 a6 a7 a8 a9 a10 a12 _ w10 (HCV.out.below hF9) (HRA.out.below (HBY.out _ HS10.out)) (by have:=HZ.out;omega) (RdX.keep (Keep.below hF9) (HOP.out.1.2 _ HME.out.1)) HME.out.2).mono ?_
       rintro r w9 ⟨er9,s9,rfl,hp,hb⟩
       have HP9:=hI hp
       have hS9:=(HS10.out).trans (hb.mono (HS10.out).size)
       have HS9:=hI hS9
       have HM10:=hI ((hb.block _ (Array.getElem?_eq_some_iff.1 HM10.out).1).trans HM10.out)
       clear hb hp hF9
       refine ⟨_,rfl,hS9,?_⟩
       simp only [zA,zB,zC]
       refine RgD.one (i:=10) (by kernel_rfl) ?_
       obtain ⟨g0,g1,gf⟩:=cells2 HM10.out
       have HM11:=hI (set2 (y0:=.int .i64 er9) (y1:=.string (str s9)) HM10.out)
       have HS11:=hI (set2_below (y0:=.int .i64 er9) (y1:=.string (str s9)) (HS9.out) HQ10.out)
       obtain ⟨w11,hw11⟩ : ∃ W,(w9.setCell ⟨wr.heap.size,0,none⟩ (.int .i64 er9)).setCell ⟨wr.heap.size,1,none⟩ (.string (str s9))=W:=⟨_,rfl⟩
       rw [hw11] at HM11 HS11
       refine RgD.storeS (i:=10) (w1:=w11) rfl rfl (by rfl) (by first | (go_simp;done) | (go_simp;exact hw11) | (go_simp;rw [hw11])) HS11.out ?_
       refine RgD.done (by kernel_rfl) ?_ _
       clear g0 g1 gf hS0 hS9 hS10
       obtain ⟨g0,g1,gf⟩:=cells2 HM11.out
       by_cases he0 : er9=0
       ·have qe : (er9 != 0)=false:=by simp [he0]
        have HE9:=hI (HP9.out he0)
        clear he0
        go_wp2_with fail
        go_roundw
        case rel=>exact ⟨i + 1,by omega,by go_num,hI (HNY.out.2 ⟨HE.out,HE9.out⟩),HBY.out _ HS11.out⟩
        case measure=>simp [intOf];omega
       ·have qe : (er9 != 0)=true:=by simp [he0]
        have HE9:=hI he0
        clear he0
        obtain ⟨r0,r1,rf⟩:=cells2 (HO1.out w11 (HBU.out _ (HBY.out _ HS11.out)))
        obtain ⟨X,hX⟩ : ∃ X,(w11.setCell ⟨p1,0,none⟩ (.int .i64 er9)).setCell ⟨p1,1,none⟩ (.string (str s9))=X:=⟨_,rfl⟩
        have HX:=hI (show X.heap[p1]?=some (.cells #[.int .i64 er9,.string (str s9)] 125 (0,0)) by rw [← hX];exact set2 (HO1.out w11 (HBU.out _ (HBY.out _ HS11.out))))
        have HXB:=hI (show Below w.heap.size w X by rw [← hX];exact set2_below (HBV.out.trans ((HBU.out _ (HBY.out _ HS11.out)).mono HBV.out.size)) HPV.out.1)
        go_wp2_with ((with_reducible refine ret_w 12 p1 (.int .i64 er9) (.string (str s9)) ?_ ?_ ?_ ?_ ?_);exact HX.out;rfl;rfl;rfl;exact ⟨er9,s9,rfl,(fun h=>absurd h HE9.out),HXB.out⟩)
     ·obtain rfl : i=ar.length:=by omega
      have HE2:=hI (show ckEs t (pars fn) lj (exPs ar) by have h:=HE.out;rwa [List.take_length] at h)
      clear HE
      go_wp2_with fail
      refine (own_c t lj wh q k n s _ _ _ wr (HCV.out.below (HBT.out wr HBX.out)).t HCV.out.n1 (HRA.out.below HBX.out) (by have:=HZ.out;omega) (by have:=HZ.out;omega)).mono ?_
      rintro ee w5 ⟨er5,s5,rfl,hp,hb⟩
      have HP5:=hI hp
      have HB5:=hI ((HBX.out).trans (hb.mono (HBX.out).size))
      clear hp hb y0 y1 y2 y3 y4 y5 yf
      obtain ⟨V5,hV5⟩ : ∃ W,w5.alloc (.cells #[.int .i64 er5,.string (str s5)] 125)=W:=⟨_,rfl⟩
      obtain ⟨m5,z5,b5⟩:=made hV5
      have HV5:=hI (HB5.out.trans (b5.mono HB5.out.size))
      obtain ⟨g0,g1,gf⟩:=cells2 m5
      clear m5 z5 b5
      by_cases he0 : er5=0
      ·have qe : (er5 != 0)=false:=by simp [he0]
       have HC5:=hI (HP5.out he0)
       clear he0
       obtain ⟨y0,y1,y2,y3,y4,y5,yf⟩:=cells6 (HO2.out V5 HV5.out)
       by_cases hk11 : k=11
       ·subst hk11
        have HCK2:=hI (show _ from by have h:=HCK.out;simp only at h;exact h)
        obtain ⟨q2,hq2⟩ : ∃ x : Nat,(q : Int) + 2=(x : Int):=⟨q + 2,by omega⟩
        have HQ2:=hI (show q2=q + 2 by omega)
        go_wp2_with (first
         | (at_builtin;refine Sq.wpList_append elS rfl _ _ rfl rfl (Sq.own_lit elS V5 [] #[] rfl (by simp) (Nat.le_refl _) 0 rfl) A4 qn c4 lj rfl ((HRA.out.below HV5.out).alloc (.cells #[] 9)) (by have:=HZ.out;unfold maxLen;simp;omega) (by have:=HZ.out;simp;omega) (by simp) ?_;intro v6 w6 ho6 hb6 _ _;have HO6:=hI ho6;have HV56:=hI (((Below.refl _ V5).alloc (Nat.le_refl _) _).trans hb6);have HB6:=hI (HV5.out.trans (HV56.out.mono HV5.out.size));clear ho6 hb6 g0 g1 gf y0 y1 y2 y3 y4 y5 yf;obtain ⟨y0,y1,y2,y3,y4,y5,yf⟩:=cells6 (HO2.out w6 HB6.out))
         | (at_builtin;refine Sq.wpList_append elS rfl _ _ rfl rfl (HO6.out.alloc (.cells #[.string (str s)] 9)) (some ⟨w6.heap.size,0,none⟩) 1 1 [s] rfl (Sq.rd_lit (enc:=sv) w6 9 [s] _ rfl 1 rfl) (by have:=HZ.out;have:=HQN.out;unfold maxLen;simp;omega) (by have:=HZ.out;have:=HQN.out;simp;omega) (by have:=HV56.out.size;simp;omega) ?_;intro v7 w7 ho7 hb7 _ _;obtain ⟨A7,cc7,rfl,_,_⟩:=ho7.shape;have HR7:=hI (show Sq.Rd sv w7 A7 ([] ++ lj ++ [s]).length (lj ++ [s]) from ho7.rd);obtain ⟨n7,hn7⟩ : ∃ x,([] ++ lj ++ [s]).length=x:=⟨_,rfl⟩;rw [hn7] at HR7 ⊢;have HNn7:=hI hn7;clear hn7;have HB7:=hI (HV5.out.trans (((HV56.out.alloc HV56.out.size _).trans hb7).mono HV5.out.size));clear ho7 hb7 y0 y1 y2 y3 y4 y5 yf;obtain ⟨y0,y1,y2,y3,y4,y5,yf⟩:=cells6 (HO2.out w7 HB7.out);obtain ⟨x0,x1,x2,x3,x4,x5,x6,x7,x8,x9,x10,x11,x12,xf⟩:=cellz13 (HO0.out w7 (HBU.out _ HB7.out))))
        skip
        clear x0 x1 x2 x3 x4 x5 x6 x7 x8 x9 x10 x11 x12 xf
        refine (HIH.out b HZ.out.1.1 (lj ++ [s]) q2 A7 Ab n7 cc7 cb w7 (HCV.out.below (HBT.out w7 HB7.out)) HR7.out (Lg.keep stays_s (Keep.below (HBT.out w7 HB7.out)) HOP.out.2.1) (by have:=HZ.out;have:=HQN.out;simp;omega) (by have:=HZ.out;have:=HQ2.out;omega)).mono ?_
        rintro ee w8 ⟨er8,s8,rfl,hp,hb⟩
        have HP8:=hI hp
        have HB8:=hI ((HB7.out).trans (hb.mono (HB7.out).size))
        clear hp hb y0 y1 y2 y3 y4 y5 yf
        obtain ⟨V8,hV8⟩ : ∃ W,w8.alloc (.cells #[.int .i64 er8,.string (str s8)] 125)=W:=⟨_,rfl⟩
        obtain ⟨m8,z8,b8⟩:=made hV8
        have HV8:=hI (HB8.out.trans (b8.mono HB8.out.size))
        obtain ⟨g0,g1,gf⟩:=cells2 m8
        clear m8 z8 b8
        by_cases he0 : er8=0
        ·have qe : (er8 != 0)=false:=by simp [he0]
         have HC8:=hI (HP8.out he0)
         clear he0
         obtain ⟨y0,y1,y2,y3,y4,y5,yf⟩:=cells6 (HO2.out V8 HV8.out)
         obtain ⟨q3,hq3⟩ : ∃ x : Nat,(q2 : Int) + (lb : Int)=(x : Int):=⟨q2 + lb,by omega⟩
         have HQ3:=hI (show q3=q2 + lb by omega)
         have hq3z : q3 + le≤8388608:=by have:=HQ2.out;omega
         go_wp2_with (go_at_call 36;refine (locals_r _ b (Nat.le_refl _) HZ.out.1.1.2 Ab cb V8 (Lg.keep stays_s (Keep.below (HBT.out V8 HV8.out)) HOP.out.2.1)).mono ?_;rintro ee w9 ⟨rfl,hb⟩;rw [HLB.out.1];have HB9:=hI (HV8.out.trans (hb.mono HV8.out.size));clear hb g0 g1 gf y0 y1 y2 y3 y4 y5 yf;obtain ⟨y0,y1,y2,y3,y4,y5,yf⟩:=cells6 (HO2.out w9 HB9.out);obtain ⟨x0,x1,x2,x3,x4,x5,x6,x7,x8,x9,x10,x11,x12,xf⟩:=cellz13 (HO0.out w9 (HBU.out _ HB9.out)))
         clear x0 x1 x2 x3 x4 x5 x6 x7 x8 x9 x10 x11 x12 xf
         refine (HIH.out e HZ.out.1.2 lj q3 A4 Ae qn c4 ce w9 (HCV.out.below (HBT.out w9 HB9.out)) (HRA.out.below HB9.out) (Lg.keep stays_s (Keep.below (HBT.out w9 HB9.out)) HOP.out.2.2) (by have:=HZ.out;have:=HQN.out;omega) (by have:=HZ.out;have:=HQ3.out;have:=HLB.out;have:=HQ2.out;omega)).mono ?_
         rintro ee w10 ⟨er10,s10,rfl,hp,hb⟩
         have HP10:=hI hp
         have HB10:=hI ((HB9.out).trans (hb.mono (HB9.out).size))
         clear hp hb y0 y1 y2 y3 y4 y5 yf
         obtain ⟨V10,hV10⟩ : ∃ W,w10.alloc (.cells #[.int .i64 er10,.string (str s10)] 125)=W:=⟨_,rfl⟩
         obtain ⟨m10,z10,b10⟩:=made hV10
         have HV10:=hI (HB10.out.trans (b10.mono HB10.out.size))
         obtain ⟨g0,g1,gf⟩:=cells2 m10
         clear m10 z10 b10
         by_cases he0 : er10=0
         ·have qe : (er10 != 0)=false:=by simp [he0]
          have HC10:=hI (HP10.out he0)
          clear he0
          obtain ⟨y0,y1,y2,y3,y4,y5,yf⟩:=cells6 (HO2.out V10 HV10.out)
          obtain ⟨q4,hq4⟩ : ∃ x : Nat,(q3 : Int) + (le : Int)=(x : Int):=⟨q3 + le,by omega⟩
          have HQ4:=hI (show q4=q3 + le by omega)
          have hq4z : q4≤8388608:=by omega
          go_upto_if 110 with (go_at_call 36;refine (locals_r _ e (Nat.le_refl _) HZ.out.1.2.2 Ae ce V10 (Lg.keep stays_s (Keep.below (HBT.out V10 HV10.out)) HOP.out.2.2)).mono ?_;rintro ee w11 ⟨rfl,hb⟩;rw [HLB.out.2];have HB11:=hI (HV10.out.trans (hb.mono HV10.out.size));clear hb g0 g1 gf y0 y1 y2 y3 y4 y5 yf;obtain ⟨y0,y1,y2,y3,y4,y5,yf⟩:=cells6 (HO2.out w11 HB11.out))
          go_wp2_with fail
          go_roundw
          case rel=>exact ⟨j + 1,q4,A4,c4,lj,by omega,by rw [HQN.out],rfl,by go_num,hI ⟨by have h:=HNX.out;rw [if_neg (by decide)] at h;exact h.symm,by have h:=HLK.out;have hmn : mine 11=2:=rfl;have:=HQ4.out;have:=HQ3.out;have:=HQ2.out;omega,(HCK2.out.2 ⟨HQ.out.2.2,HE2.out,HC5.out,by have h:=HC8.out;rw [HQ2.out] at h;exact h,by have h:=HC10.out;rw [HQ3.out,HQ2.out] at h;exact h⟩)⟩,by rw [HQN.out];exact HRA.out.below HB11.out,HBU.out _ HB11.out⟩
          case measure=>simp [intOf];omega
         ·have qe : (er10 != 0)=true:=by simp [he0]
          have HN10:=hI he0
          clear he0
          obtain ⟨r0,r1,rf⟩:=cells2 (HO1.out V10 (HBU.out _ HV10.out))
          obtain ⟨X,hX⟩ : ∃ X,(V10.setCell ⟨p1,0,none⟩ (.int .i64 er10)).setCell ⟨p1,1,none⟩ (.string (str s10))=X:=⟨_,rfl⟩
          have HX:=hI (show X.heap[p1]?=some (.cells #[.int .i64 er10,.string (str s10)] 125 (0,0)) by rw [← hX];exact set2 (HO1.out V10 (HBU.out _ HV10.out)))
          have HXB:=hI (show Below w.heap.size w X by rw [← hX];exact set2_below (HBV.out.trans ((HBU.out _ HV10.out).mono HBV.out.size)) HPV.out.1)
          go_wp2_with ((with_reducible refine ret_w 12 p1 (.int .i64 er10) (.string (str s10)) ?_ ?_ ?_ ?_ ?_);exact HX.out;rfl;rfl;rfl;exact ⟨er10,s10,rfl,(fun h=>absurd h HN10.out),HXB.out⟩)
        ·have qe : (er8 != 0)=true:=by simp [he0]
         have HN8:=hI he0
         clear he0
         obtain ⟨r0,r1,rf⟩:=cells2 (HO1.out V8 (HBU.out _ HV8.out))
         obtain ⟨X,hX⟩ : ∃ X,(V8.setCell ⟨p1,0,none⟩ (.int .i64 er8)).setCell ⟨p1,1,none⟩ (.string (str s8))=X:=⟨_,rfl⟩
         have HX:=hI (show X.heap[p1]?=some (.cells #[.int .i64 er8,.string (str s8)] 125 (0,0)) by rw [← hX];exact set2 (HO1.out V8 (HBU.out _ HV8.out)))
         have HXB:=hI (show Below w.heap.size w X by rw [← hX];exact set2_below (HBV.out.trans ((HBU.out _ HV8.out).mono HBV.out.size)) HPV.out.1)
         go_wp2_with ((with_reducible refine ret_w 12 p1 (.int .i64 er8) (.string (str s8)) ?_ ?_ ?_ ?_ ?_);exact HX.out;rfl;rfl;rfl;exact ⟨er8,s8,rfl,(fun h=>absurd h HN8.out),HXB.out⟩)
       by_cases hk2 : k=2
       ·subst hk2
        have HCK2:=hI (show _ from by have h:=HCK.out;simp only [if_neg hk11] at h;exact h)
        go_wp2_with (first
         | (at_builtin;refine Sq.wpList_append elS rfl _ _ rfl rfl (Sq.own_lit elS V5 [] #[] rfl (by simp) (Nat.le_refl _) 0 rfl) A4 qn c4 lj rfl ((HRA.out.below HV5.out).alloc (.cells #[] 9)) (by have:=HZ.out;unfold maxLen;simp;omega) (by have:=HZ.out;simp;omega) (by simp) ?_;intro v6 w6 ho6 hb6 _ _;obtain ⟨A6,cc6,rfl,_,_⟩:=ho6.shape;have HR6:=hI (show Sq.Rd sv w6 A6 ([] ++ lj).length (lj) from ho6.rd);obtain ⟨n6,hn6⟩ : ∃ x,([] ++ lj).length=x:=⟨_,rfl⟩;rw [hn6] at HR6 ⊢;have HNn6:=hI hn6;clear hn6;have HV56:=hI (((Below.refl _ V5).alloc (Nat.le_refl _) _).trans hb6);have HB6:=hI (HV5.out.trans (HV56.out.mono HV5.out.size));clear ho6 hb6 g0 g1 gf y0 y1 y2 y3 y4 y5 yf;obtain ⟨y0,y1,y2,y3,y4,y5,yf⟩:=cells6 (HO2.out w6 HB6.out);obtain ⟨x0,x1,x2,x3,x4,x5,x6,x7,x8,x9,x10,x11,x12,xf⟩:=cellz13 (HO0.out w6 (HBU.out _ HB6.out))))
        skip
        clear x0 x1 x2 x3 x4 x5 x6 x7 x8 x9 x10 x11 x12 xf
        refine (HIH.out b HZ.out.1.1 (lj) q A6 Ab n6 cc6 cb w6 (HCV.out.below (HBT.out w6 HB6.out)) HR6.out (Lg.keep stays_s (Keep.below (HBT.out w6 HB6.out)) HOP.out.2.1) (by have:=HZ.out;have:=HQN.out;simp;omega) (by have:=HZ.out;omega)).mono ?_
        rintro ee w8 ⟨er8,s8,rfl,hp,hb⟩
        have HP8:=hI hp
        have HB8:=hI ((HB6.out).trans (hb.mono (HB6.out).size))
        clear hp hb y0 y1 y2 y3 y4 y5 yf
        obtain ⟨V8,hV8⟩ : ∃ W,w8.alloc (.cells #[.int .i64 er8,.string (str s8)] 125)=W:=⟨_,rfl⟩
        obtain ⟨m8,z8,b8⟩:=made hV8
        have HV8:=hI (HB8.out.trans (b8.mono HB8.out.size))
        obtain ⟨g0,g1,gf⟩:=cells2 m8
        clear m8 z8 b8
        by_cases he0 : er8=0
        ·have qe : (er8 != 0)=false:=by simp [he0]
         have HC8:=hI (HP8.out he0)
         clear he0
         obtain ⟨y0,y1,y2,y3,y4,y5,yf⟩:=cells6 (HO2.out V8 HV8.out)
         obtain ⟨q3,hq3⟩ : ∃ x : Nat,(q : Int) + (lb : Int)=(x : Int):=⟨q + lb,by omega⟩
         have HQ3:=hI (show q3=q + lb by omega)
         have hq3z : q3 + le + 1≤8388608:=by omega
         go_wp2_with (go_at_call 36;refine (locals_r _ b (Nat.le_refl _) HZ.out.1.1.2 Ab cb V8 (Lg.keep stays_s (Keep.below (HBT.out V8 HV8.out)) HOP.out.2.1)).mono ?_;rintro ee w9 ⟨rfl,hb⟩;rw [HLB.out.1];have HB9:=hI (HV8.out.trans (hb.mono HV8.out.size));clear hb g0 g1 gf y0 y1 y2 y3 y4 y5 yf;obtain ⟨y0,y1,y2,y3,y4,y5,yf⟩:=cells6 (HO2.out w9 HB9.out);obtain ⟨x0,x1,x2,x3,x4,x5,x6,x7,x8,x9,x10,x11,x12,xf⟩:=cellz13 (HO0.out w9 (HBU.out _ HB9.out)))
         clear x0 x1 x2 x3 x4 x5 x6 x7 x8 x9 x10 x11 x12 xf
         refine (HIH.out e HZ.out.1.2 lj q3 A4 Ae qn c4 ce w9 (HCV.out.below (HBT.out w9 HB9.out)) (HRA.out.below HB9.out) (Lg.keep stays_s (Keep.below (HBT.out w9 HB9.out)) HOP.out.2.2) (by have:=HZ.out;have:=HQN.out;omega) (by have:=HZ.out;have:=HQ3.out;have:=HLB.out;omega)).mono ?_
         rintro ee w10 ⟨er10,s10,rfl,hp,hb⟩
         have HP10:=hI hp
         have HB10:=hI ((HB9.out).trans (hb.mono (HB9.out).size))
         clear hp hb y0 y1 y2 y3 y4 y5 yf
         obtain ⟨V10,hV10⟩ : ∃ W,w10.alloc (.cells #[.int .i64 er10,.string (str s10)] 125)=W:=⟨_,rfl⟩
         obtain ⟨m10,z10,b10⟩:=made hV10
         have HV10:=hI (HB10.out.trans (b10.mono HB10.out.size))
         obtain ⟨g0,g1,gf⟩:=cells2 m10
         clear m10 z10 b10
         by_cases he0 : er10=0
         ·have qe : (er10 != 0)=false:=by simp [he0]
          have HC10:=hI (HP10.out he0)
          clear he0
          obtain ⟨y0,y1,y2,y3,y4,y5,yf⟩:=cells6 (HO2.out V10 HV10.out)
          obtain ⟨q4,hq4⟩ : ∃ x : Nat,(q3 : Int) + (le : Int)=(x : Int):=⟨q3 + le,by omega⟩
          have HQ4:=hI (show q4=q3 + le by omega)
          have hq4z : q4 + 1≤8388608:=by omega
          go_upto_if 110 with (go_at_call 36;refine (locals_r _ e (Nat.le_refl _) HZ.out.1.2.2 Ae ce V10 (Lg.keep stays_s (Keep.below (HBT.out V10 HV10.out)) HOP.out.2.2)).mono ?_;rintro ee w11 ⟨rfl,hb⟩;rw [HLB.out.2];have HB11:=hI (HV10.out.trans (hb.mono HV10.out.size));clear hb g0 g1 gf y0 y1 y2 y3 y4 y5 yf;obtain ⟨y0,y1,y2,y3,y4,y5,yf⟩:=cells6 (HO2.out w11 HB11.out))
          go_upto_region 27 with fail
          have hS0 : Below w11.heap.size w11 w11.drew:=Below.drew (Below.refl _ _)
          refine RgD.begin_ [] (fun U=>Below w11.heap.size w11 U) (by kernel_rfl) hS0 (fun hHeld=>?_)
          refine tK 1 112 (v:=.slice A4 qn c4) (h:=?_)
          simp only [zA,zB,zC]
          refine tK 3 114 (h:=?_)
          simp only [zA,zB,zC]
          refine tK 4 115 (v:=.string (str s)) (hy:=by intro w0 hSw;obtain ⟨y0,y1,y2,y3,y4,y5,yf⟩:=cells6 (HO2.out _ (HB11.out.trans ((hSw).mono HB11.out.size)));first | (go_simp;done) | (go_simp;with_reducible rfl) | (go_simp;intro hc;exfalso;omega)) (h:=?_)
          simp only [zA,zB,zC]
          refine RgD.two (i:=0) (j:=5) (by kernel_rfl) ?_ ?_
          ·obtain ⟨u1,hu1⟩ : ∃ W,w11.drew.alloc (.cells #[] 9)=W:=⟨_,rfl⟩
           have hS1:=(hS0).trans ((made hu1).2.2.mono (hS0).size)
           have HS1:=hI hS1
           have HOa:=hI (show Sq.Own sv 9 u1 w11.heap.size (.slice (some ⟨w11.heap.size,0,none⟩) 0 0) [] by rw [← hu1];exact Sq.own_lit elS _ [] #[] rfl (by simp) ((hS0).size) 0 rfl)
           refine RgD.eff (i:=0) (t:=111) (v:=.slice (some ⟨w11.heap.size,0,none⟩) 0 0) (w1:=u1) rfl rfl (by rfl) (by first | (go_simp;done) | (go_simp;exact ⟨rfl,hu1⟩) | (go_simp;rw [hu1];rfl) | (go_simp;exact hu1)) hS1 ?_
           simp only [zA,zB,zC]
           have HLT:=hI (show w11.heap.size < u1.heap.size by have h:=(made hu1).2.1;simp at h ⊢;omega)
           clear hu1
           refine RgD.two (i:=2) (j:=5) (by kernel_rfl) ?_ ?_
           ·refine RgD.appQ elS (i:=2) (t:=113) (.tmp 111) (.tmp 112) rfl rfl (by rfl) rfl rfl (HOa.out) A4 qn c4 lj rfl (HRA.out.below (HB11.out.trans ((HS1.out).mono HB11.out.size))) (by have:=HZ.out;unfold maxLen;simp;omega) (by have:=HZ.out;simp;omega) ((HS1.out).size) ?_
            intro v2 u2 ho hb hg hv
            have hS2:=(HS1.out).trans hb
            have HS2:=hI hS2
            have HOa:=hI ho
            clear ho hb hg hv
            refine ⟨hS2,?_⟩
            simp only [zA,zB,zC]
            refine RgD.one (i:=5) (by kernel_rfl) ?_
            obtain ⟨u5,hu5⟩ : ∃ W,u2.alloc (.cells #[.string (str s)] 9)=W:=⟨_,rfl⟩
            have hS5:=(HS2.out).trans ((made hu5).2.2.mono (HS2.out).size)
            have HS5:=hI hS5
            have HRl:=hI (show Sq.Rd sv u5 (some ⟨u2.heap.size,0,none⟩) 1 [s] by rw [← hu5];exact Sq.rd_lit (enc:=sv) _ 9 [s] _ rfl 1 rfl)
            have HOa:=hI (show Sq.Own sv 9 u5 w11.heap.size v2 ([] ++ lj) by rw [← hu5];exact (HOa.out).alloc _)
            refine RgD.eff (i:=5) (t:=116) (v:=.slice (some ⟨u2.heap.size,0,none⟩) 1 1) (w1:=u5) rfl rfl (by rfl) (by first | (go_simp;done) | (go_simp;exact ⟨rfl,hu5⟩) | (go_simp;rw [hu5];rfl) | (go_simp;exact hu5)) hS5 ?_
            simp only [zA,zB,zC]
            clear hu5
            refine RgD.one (i:=6) (by kernel_rfl) ?_
            refine RgD.appQ elS (i:=6) (t:=117) (.tmp 113) (.tmp 116) rfl rfl (by rfl) rfl rfl (HOa.out) (some ⟨u2.heap.size,0,none⟩) 1 1 [s] rfl HRl.out (by have:=HZ.out;have:=HQN.out;unfold maxLen;simp;omega) (by have:=HZ.out;have:=HQN.out;simp;omega) ((HS5.out).size) ?_
            intro v6 u6 ho hb hg hv
            have hS6:=(HS5.out).trans hb
            have HS6:=hI hS6
            obtain ⟨A6,c6,rfl,_,_⟩:=ho.shape
            have HR6:=hI (show Sq.Rd sv u6 A6 ([] ++ lj ++ [s]).length (lj ++ [s]) from ho.rd)
            clear ho hb hg hv
            refine ⟨hS6,?_⟩
            simp only [zA,zB,zC]
            refine tK 7 2 (h:=?_)
            simp only [zA,zB,zC]
            refine RgD.done (by kernel_rfl) ?_ _
            obtain ⟨q5,hq5⟩ : ∃ x : Nat,(q4 : Int) + 1=(x : Int):=⟨q4 + 1,by omega⟩
            have HQ5:=hI (show q5=q4 + 1 by omega)
            clear hS0 y0 y1 y2 y3 y4 y5 yf
            go_wp2_with fail
            go_roundw
            case rel=>exact ⟨j + 1,q5,A6,c6,lj ++ [s],by omega,by simp,rfl,by go_num,hI ⟨by have h:=HNX.out;(first | (rw [if_pos rfl] at h) | (simp only [if_true] at h));exact h.symm,by have h:=HLK.out;have hmn : mine 2=1:=rfl;have:=HQ5.out;have:=HQ4.out;have:=HQ3.out;omega,(HCK2.out.2 ⟨HQ.out.2.2,HE2.out,HC5.out,HC8.out,by have h:=HC10.out;rw [HQ3.out] at h;exact h⟩)⟩,by have h:=HR6.out;simpa using h,HBU.out _ (HB11.out.trans ((HS6.out).mono HB11.out.size))⟩
            case measure=>simp [intOf];omega
           ·obtain ⟨u5,hu5⟩ : ∃ W,u1.alloc (.cells #[.string (str s)] 9)=W:=⟨_,rfl⟩
            have hS5:=(HS1.out).trans ((made hu5).2.2.mono (HS1.out).size)
            have HS5:=hI hS5
            have HRl:=hI (show Sq.Rd sv u5 (some ⟨u1.heap.size,0,none⟩) 1 [s] by rw [← hu5];exact Sq.rd_lit (enc:=sv) _ 9 [s] _ rfl 1 rfl)
            have HOa:=hI (show Sq.Own sv 9 u5 w11.heap.size (.slice (some ⟨w11.heap.size,0,none⟩) 0 0) [] by rw [← hu5];exact (HOa.out).alloc _)
            have HNE:=hI (show ¬ (w11.heap.size=u1.heap.size) by have:=HLT.out;simp at this ⊢;omega)
            refine RgD.eff (i:=5) (t:=116) (v:=.slice (some ⟨u1.heap.size,0,none⟩) 1 1) (w1:=u5) rfl rfl (by rfl) (by first | (go_simp;done) | (go_simp;exact ⟨rfl,hu5⟩) | (go_simp;rw [hu5];rfl) | (go_simp;exact hu5)) hS5 ?_
            simp only [zA,zB,zC]
            clear hu5
            refine RgD.one (i:=2) (by kernel_rfl) ?_
            refine RgD.appQ elS (i:=2) (t:=113) (.tmp 111) (.tmp 112) rfl rfl (by rfl) rfl rfl (HOa.out) A4 qn c4 lj rfl (HRA.out.below (HB11.out.trans ((HS5.out).mono HB11.out.size))) (by have:=HZ.out;unfold maxLen;simp;omega) (by have:=HZ.out;simp;omega) ((HS5.out).size) ?_
            intro v2 u2 ho hb hg hv
            have hS2:=(HS5.out).trans hb
            have HS2:=hI hS2
            have HRl:=hI (BindZ.keep_rd HRl.out (show u5.grownBy u2 (Value.ownBlock (.slice (some ⟨w11.heap.size,0,none⟩) 0 0)) from hg) (fun a ha _ c=>by injection ha with ha;subst ha;exact HNE.out (by simpa [Value.ownBlock] using c)))
            have HOa:=hI ho
            clear ho hb hg hv
            refine ⟨hS2,?_⟩
            simp only [zA,zB,zC]
            refine RgD.one (i:=6) (by kernel_rfl) ?_
            refine RgD.appQ elS (i:=6) (t:=117) (.tmp 113) (.tmp 116) rfl rfl (by rfl) rfl rfl (HOa.out) (some ⟨u1.heap.size,0,none⟩) 1 1 [s] rfl HRl.out (by have:=HZ.out;have:=HQN.out;unfold maxLen;simp;omega) (by have:=HZ.out;have:=HQN.out;simp;omega) ((HS2.out).size) ?_
            intro v6 u6 ho hb hg hv
            have hS6:=(HS2.out).trans hb
            have HS6:=hI hS6
            obtain ⟨A6,c6,rfl,_,_⟩:=ho.shape
            have HR6:=hI (show Sq.Rd sv u6 A6 ([] ++ lj ++ [s]).length (lj ++ [s]) from ho.rd)
            clear ho hb hg hv
            refine ⟨hS6,?_⟩
            simp only [zA,zB,zC]
            refine tK 7 2 (h:=?_)
            simp only [zA,zB,zC]
            refine RgD.done (by kernel_rfl) ?_ _
            obtain ⟨q5,hq5⟩ : ∃ x : Nat,(q4 : Int) + 1=(x : Int):=⟨q4 + 1,by omega⟩
            have HQ5:=hI (show q5=q4 + 1 by omega)
            clear hS0 y0 y1 y2 y3 y4 y5 yf
            go_wp2_with fail
            go_roundw
            case rel=>exact ⟨j + 1,q5,A6,c6,lj ++ [s],by omega,by simp,rfl,by go_num,hI ⟨by have h:=HNX.out;(first | (rw [if_pos rfl] at h) | (simp only [if_true] at h));exact h.symm,by have h:=HLK.out;have hmn : mine 2=1:=rfl;have:=HQ5.out;have:=HQ4.out;have:=HQ3.out;omega,(HCK2.out.2 ⟨HQ.out.2.2,HE2.out,HC5.out,HC8.out,by have h:=HC10.out;rw [HQ3.out] at h;exact h⟩)⟩,by have h:=HR6.out;simpa using h,HBU.out _ (HB11.out.trans ((HS6.out).mono HB11.out.size))⟩
            case measure=>simp [intOf];omega
          ·obtain ⟨u5,hu5⟩ : ∃ W,w11.drew.alloc (.cells #[.string (str s)] 9)=W:=⟨_,rfl⟩
           have hS5:=(hS0).trans ((made hu5).2.2.mono (hS0).size)
           have HS5:=hI hS5
           have HRl:=hI (show Sq.Rd sv u5 (some ⟨w11.heap.size,0,none⟩) 1 [s] by rw [← hu5];exact Sq.rd_lit (enc:=sv) _ 9 [s] _ rfl 1 rfl)
           have HLT:=hI (show w11.heap.size < u5.heap.size by have h:=(made hu5).2.1;simp at h ⊢;omega)
           refine RgD.eff (i:=5) (t:=116) (v:=.slice (some ⟨w11.heap.size,0,none⟩) 1 1) (w1:=u5) rfl rfl (by rfl) (by first | (go_simp;done) | (go_simp;exact ⟨rfl,hu5⟩) | (go_simp;rw [hu5];rfl) | (go_simp;exact hu5)) hS5 ?_
           simp only [zA,zB,zC]
           clear hu5
           refine RgD.one (i:=0) (by kernel_rfl) ?_
           obtain ⟨u1,hu1⟩ : ∃ W,u5.alloc (.cells #[] 9)=W:=⟨_,rfl⟩
           have hS1:=(HS5.out).trans ((made hu1).2.2.mono (HS5.out).size)
           have HS1:=hI hS1
           have HOa:=hI (show Sq.Own sv 9 u1 w11.heap.size (.slice (some ⟨u5.heap.size,0,none⟩) 0 0) [] by rw [← hu1];exact Sq.own_lit elS _ [] #[] rfl (by simp) ((HS5.out).size) 0 rfl)
           have HRl:=hI (show Sq.Rd sv u1 (some ⟨w11.heap.size,0,none⟩) 1 [s] by rw [← hu1];exact HRl.out.alloc _)
           have HNE:=hI (show ¬ (u5.heap.size=w11.heap.size) by have:=HLT.out;simp at this ⊢;omega)
           refine RgD.eff (i:=0) (t:=111) (v:=.slice (some ⟨u5.heap.size,0,none⟩) 0 0) (w1:=u1) rfl rfl (by rfl) (by first | (go_simp;done) | (go_simp;exact ⟨rfl,hu1⟩) | (go_simp;rw [hu1];rfl) | (go_simp;exact hu1)) hS1 ?_
           simp only [zA,zB,zC]
           clear hu1
           refine RgD.one (i:=2) (by kernel_rfl) ?_
           refine RgD.appQ elS (i:=2) (t:=113) (.tmp 111) (.tmp 112) rfl rfl (by rfl) rfl rfl (HOa.out) A4 qn c4 lj rfl (HRA.out.below (HB11.out.trans ((HS1.out).mono HB11.out.size))) (by have:=HZ.out;unfold maxLen;simp;omega) (by have:=HZ.out;simp;omega) ((HS1.out).size) ?_
           intro v2 u2 ho hb hg hv
           have hS2:=(HS1.out).trans hb
           have HS2:=hI hS2
           have HRl:=hI (BindZ.keep_rd HRl.out (show u1.grownBy u2 (Value.ownBlock (.slice (some ⟨u5.heap.size,0,none⟩) 0 0)) from hg) (fun a ha _ c=>by injection ha with ha;subst ha;exact HNE.out (by simpa [Value.ownBlock] using c)))
           have HOa:=hI ho
           clear ho hb hg hv
           refine ⟨hS2,?_⟩
           simp only [zA,zB,zC]
           refine RgD.one (i:=6) (by kernel_rfl) ?_
           refine RgD.appQ elS (i:=6) (t:=117) (.tmp 113) (.tmp 116) rfl rfl (by rfl) rfl rfl (HOa.out) (some ⟨w11.heap.size,0,none⟩) 1 1 [s] rfl HRl.out (by have:=HZ.out;have:=HQN.out;unfold maxLen;simp;omega) (by have:=HZ.out;have:=HQN.out;simp;omega) ((HS2.out).size) ?_
           intro v6 u6 ho hb hg hv
           have hS6:=(HS2.out).trans hb
           have HS6:=hI hS6
           obtain ⟨A6,c6,rfl,_,_⟩:=ho.shape
           have HR6:=hI (show Sq.Rd sv u6 A6 ([] ++ lj ++ [s]).length (lj ++ [s]) from ho.rd)
           clear ho hb hg hv
           refine ⟨hS6,?_⟩
           simp only [zA,zB,zC]
           refine tK 7 2 (h:=?_)
           simp only [zA,zB,zC]
           refine RgD.done (by kernel_rfl) ?_ _
           obtain ⟨q5,hq5⟩ : ∃ x : Nat,(q4 : Int) + 1=(x : Int):=⟨q4 + 1,by omega⟩
           have HQ5:=hI (show q5=q4 + 1 by omega)
           clear hS0 y0 y1 y2 y3 y4 y5 yf
           go_wp2_with fail
           go_roundw
           case rel=>exact ⟨j + 1,q5,A6,c6,lj ++ [s],by omega,by simp,rfl,by go_num,hI ⟨by have h:=HNX.out;(first | (rw [if_pos rfl] at h) | (simp only [if_true] at h));exact h.symm,by have h:=HLK.out;have hmn : mine 2=1:=rfl;have:=HQ5.out;have:=HQ4.out;have:=HQ3.out;omega,(HCK2.out.2 ⟨HQ.out.2.2,HE2.out,HC5.out,HC8.out,by have h:=HC10.out;rw [HQ3.out] at h;exact h⟩)⟩,by have h:=HR6.out;simpa using h,HBU.out _ (HB11.out.trans ((HS6.out).mono HB11.out.size))⟩
           case measure=>simp [intOf];omega
         ·have qe : (er10 != 0)=true:=by simp [he0]
          have HN10:=hI he0
          clear he0
          obtain ⟨r0,r1,rf⟩:=cells2 (HO1.out V10 (HBU.out _ HV10.out))
          obtain ⟨X,hX⟩ : ∃ X,(V10.setCell ⟨p1,0,none⟩ (.int .i64 er10)).setCell ⟨p1,1,none⟩ (.string (str s10))=X:=⟨_,rfl⟩
          have HX:=hI (show X.heap[p1]?=some (.cells #[.int .i64 er10,.string (str s10)] 125 (0,0)) by rw [← hX];exact set2 (HO1.out V10 (HBU.out _ HV10.out)))
          have HXB:=hI (show Below w.heap.size w X by rw [← hX];exact set2_below (HBV.out.trans ((HBU.out _ HV10.out).mono HBV.out.size)) HPV.out.1)
          go_wp2_with ((with_reducible refine ret_w 12 p1 (.int .i64 er10) (.string (str s10)) ?_ ?_ ?_ ?_ ?_);exact HX.out;rfl;rfl;rfl;exact ⟨er10,s10,rfl,(fun h=>absurd h HN10.out),HXB.out⟩)
        ·have qe : (er8 != 0)=true:=by simp [he0]
         have HN8:=hI he0
         clear he0
         obtain ⟨r0,r1,rf⟩:=cells2 (HO1.out V8 (HBU.out _ HV8.out))
         obtain ⟨X,hX⟩ : ∃ X,(V8.setCell ⟨p1,0,none⟩ (.int .i64 er8)).setCell ⟨p1,1,none⟩ (.string (str s8))=X:=⟨_,rfl⟩
         have HX:=hI (show X.heap[p1]?=some (.cells #[.int .i64 er8,.string (str s8)] 125 (0,0)) by rw [← hX];exact set2 (HO1.out V8 (HBU.out _ HV8.out)))
         have HXB:=hI (show Below w.heap.size w X by rw [← hX];exact set2_below (HBV.out.trans ((HBU.out _ HV8.out).mono HBV.out.size)) HPV.out.1)
         go_wp2_with ((with_reducible refine ret_w 12 p1 (.int .i64 er8) (.string (str s8)) ?_ ?_ ?_ ?_ ?_);exact HX.out;rfl;rfl;rfl;exact ⟨er8,s8,rfl,(fun h=>absurd h HN8.out),HXB.out⟩)
       have HCK2:=hI (show _ from by have h:=HCK.out;simp only [if_neg hk11] at h;exact h)
       go_wp2_with (first
        | (at_builtin;refine Sq.wpList_append elS rfl _ _ rfl rfl (Sq.own_lit elS V5 [] #[] rfl (by simp) (Nat.le_refl _) 0 rfl) A4 qn c4 lj rfl ((HRA.out.below HV5.out).alloc (.cells #[] 9)) (by have:=HZ.out;unfold maxLen;simp;omega) (by have:=HZ.out;simp;omega) (by simp) ?_;intro v6 w6 ho6 hb6 _ _;obtain ⟨A6,cc6,rfl,_,_⟩:=ho6.shape;have HR6:=hI (show Sq.Rd sv w6 A6 ([] ++ lj).length (lj) from ho6.rd);obtain ⟨n6,hn6⟩ : ∃ x,([] ++ lj).length=x:=⟨_,rfl⟩;rw [hn6] at HR6 ⊢;have HNn6:=hI hn6;clear hn6;have HV56:=hI (((Below.refl _ V5).alloc (Nat.le_refl _) _).trans hb6);have HB6:=hI (HV5.out.trans (HV56.out.mono HV5.out.size));clear ho6 hb6 g0 g1 gf y0 y1 y2 y3 y4 y5 yf;obtain ⟨y0,y1,y2,y3,y4,y5,yf⟩:=cells6 (HO2.out w6 HB6.out);obtain ⟨x0,x1,x2,x3,x4,x5,x6,x7,x8,x9,x10,x11,x12,xf⟩:=cellz13 (HO0.out w6 (HBU.out _ HB6.out))))
       skip
       clear x0 x1 x2 x3 x4 x5 x6 x7 x8 x9 x10 x11 x12 xf
       refine (HIH.out b HZ.out.1.1 (lj) q A6 Ab n6 cc6 cb w6 (HCV.out.below (HBT.out w6 HB6.out)) HR6.out (Lg.keep stays_s (Keep.below (HBT.out w6 HB6.out)) HOP.out.2.1) (by have:=HZ.out;have:=HQN.out;simp;omega) (by have:=HZ.out;omega)).mono ?_
       rintro ee w8 ⟨er8,s8,rfl,hp,hb⟩
       have HP8:=hI hp
       have HB8:=hI ((HB6.out).trans (hb.mono (HB6.out).size))
       clear hp hb y0 y1 y2 y3 y4 y5 yf
       obtain ⟨V8,hV8⟩ : ∃ W,w8.alloc (.cells #[.int .i64 er8,.string (str s8)] 125)=W:=⟨_,rfl⟩
       obtain ⟨m8,z8,b8⟩:=made hV8
       have HV8:=hI (HB8.out.trans (b8.mono HB8.out.size))
       obtain ⟨g0,g1,gf⟩:=cells2 m8
       clear m8 z8 b8
       by_cases he0 : er8=0
       ·have qe : (er8 != 0)=false:=by simp [he0]
        have HC8:=hI (HP8.out he0)
        clear he0
        obtain ⟨y0,y1,y2,y3,y4,y5,yf⟩:=cells6 (HO2.out V8 HV8.out)
        obtain ⟨q3,hq3⟩ : ∃ x : Nat,(q : Int) + (lb : Int)=(x : Int):=⟨q + lb,by omega⟩
        have HQ3:=hI (show q3=q + lb by omega)
        have hq3z : q3 + le + 1≤8388608:=by omega
        go_wp2_with (go_at_call 36;refine (locals_r _ b (Nat.le_refl _) HZ.out.1.1.2 Ab cb V8 (Lg.keep stays_s (Keep.below (HBT.out V8 HV8.out)) HOP.out.2.1)).mono ?_;rintro ee w9 ⟨rfl,hb⟩;rw [HLB.out.1];have HB9:=hI (HV8.out.trans (hb.mono HV8.out.size));clear hb g0 g1 gf y0 y1 y2 y3 y4 y5 yf;obtain ⟨y0,y1,y2,y3,y4,y5,yf⟩:=cells6 (HO2.out w9 HB9.out);obtain ⟨x0,x1,x2,x3,x4,x5,x6,x7,x8,x9,x10,x11,x12,xf⟩:=cellz13 (HO0.out w9 (HBU.out _ HB9.out)))
        clear x0 x1 x2 x3 x4 x5 x6 x7 x8 x9 x10 x11 x12 xf
        refine (HIH.out e HZ.out.1.2 lj q3 A4 Ae qn c4 ce w9 (HCV.out.below (HBT.out w9 HB9.out)) (HRA.out.below HB9.out) (Lg.keep stays_s (Keep.below (HBT.out w9 HB9.out)) HOP.out.2.2) (by have:=HZ.out;have:=HQN.out;omega) (by have:=HZ.out;have:=HQ3.out;have:=HLB.out;omega)).mono ?_
        rintro ee w10 ⟨er10,s10,rfl,hp,hb⟩
        have HP10:=hI hp
        have HB10:=hI ((HB9.out).trans (hb.mono (HB9.out).size))
        clear hp hb y0 y1 y2 y3 y4 y5 yf
        obtain ⟨V10,hV10⟩ : ∃ W,w10.alloc (.cells #[.int .i64 er10,.string (str s10)] 125)=W:=⟨_,rfl⟩
        obtain ⟨m10,z10,b10⟩:=made hV10
        have HV10:=hI (HB10.out.trans (b10.mono HB10.out.size))
        obtain ⟨g0,g1,gf⟩:=cells2 m10
        clear m10 z10 b10
        by_cases he0 : er10=0
        ·have qe : (er10 != 0)=false:=by simp [he0]
         have HC10:=hI (HP10.out he0)
         clear he0
         obtain ⟨y0,y1,y2,y3,y4,y5,yf⟩:=cells6 (HO2.out V10 HV10.out)
         obtain ⟨q4,hq4⟩ : ∃ x : Nat,(q3 : Int) + (le : Int)=(x : Int):=⟨q3 + le,by omega⟩
         have HQ4:=hI (show q4=q3 + le by omega)
         have hq4z : q4 + 1≤8388608:=by omega
         go_upto_if 110 with (go_at_call 36;refine (locals_r _ e (Nat.le_refl _) HZ.out.1.2.2 Ae ce V10 (Lg.keep stays_s (Keep.below (HBT.out V10 HV10.out)) HOP.out.2.2)).mono ?_;rintro ee w11 ⟨rfl,hb⟩;rw [HLB.out.2];have HB11:=hI (HV10.out.trans (hb.mono HV10.out.size));clear hb g0 g1 gf y0 y1 y2 y3 y4 y5 yf;obtain ⟨y0,y1,y2,y3,y4,y5,yf⟩:=cells6 (HO2.out w11 HB11.out))
         go_wp2_with fail
         go_roundw
         case rel=>exact ⟨j + 1,q4,A4,c4,lj,by omega,by rw [HQN.out],rfl,by go_num,hI ⟨by have h:=HNX.out;rw [if_neg hk2] at h;exact h.symm,by have h:=HLK.out;have hmn : mine k=0:=(by unfold mine;rw [if_neg hk2,if_neg hk11]);have:=HQ4.out;have:=HQ3.out;omega,(HCK2.out.2 ⟨HQ.out.2.2,HE2.out,HC5.out,HC8.out,by have h:=HC10.out;rw [HQ3.out] at h;exact h⟩)⟩,by rw [HQN.out];exact HRA.out.below HB11.out,HBU.out _ HB11.out⟩
         case measure=>simp [intOf];omega
        ·have qe : (er10 != 0)=true:=by simp [he0]
         have HN10:=hI he0
         clear he0
         obtain ⟨r0,r1,rf⟩:=cells2 (HO1.out V10 (HBU.out _ HV10.out))
         obtain ⟨X,hX⟩ : ∃ X,(V10.setCell ⟨p1,0,none⟩ (.int .i64 er10)).setCell ⟨p1,1,none⟩ (.string (str s10))=X:=⟨_,rfl⟩
         have HX:=hI (show X.heap[p1]?=some (.cells #[.int .i64 er10,.string (str s10)] 125 (0,0)) by rw [← hX];exact set2 (HO1.out V10 (HBU.out _ HV10.out)))
         have HXB:=hI (show Below w.heap.size w X by rw [← hX];exact set2_below (HBV.out.trans ((HBU.out _ HV10.out).mono HBV.out.size)) HPV.out.1)
         go_wp2_with ((with_reducible refine ret_w 12 p1 (.int .i64 er10) (.string (str s10)) ?_ ?_ ?_ ?_ ?_);exact HX.out;rfl;rfl;rfl;exact ⟨er10,s10,rfl,(fun h=>absurd h HN10.out),HXB.out⟩)
       ·have qe : (er8 != 0)=true:=by simp [he0]
        have HN8:=hI he0
        clear he0
        obtain ⟨r0,r1,rf⟩:=cells2 (HO1.out V8 (HBU.out _ HV8.out))
        obtain ⟨X,hX⟩ : ∃ X,(V8.setCell ⟨p1,0,none⟩ (.int .i64 er8)).setCell ⟨p1,1,none⟩ (.string (str s8))=X:=⟨_,rfl⟩
        have HX:=hI (show X.heap[p1]?=some (.cells #[.int .i64 er8,.string (str s8)] 125 (0,0)) by rw [← hX];exact set2 (HO1.out V8 (HBU.out _ HV8.out)))
        have HXB:=hI (show Below w.heap.size w X by rw [← hX];exact set2_below (HBV.out.trans ((HBU.out _ HV8.out).mono HBV.out.size)) HPV.out.1)
        go_wp2_with ((with_reducible refine ret_w 12 p1 (.int .i64 er8) (.string (str s8)) ?_ ?_ ?_ ?_ ?_);exact HX.out;rfl;rfl;rfl;exact ⟨er8,s8,rfl,(fun h=>absurd h HN8.out),HXB.out⟩)
      ·have qe : (er5 != 0)=true:=by simp [he0]
       have HN5:=hI he0
       clear he0
       obtain ⟨r0,r1,rf⟩:=cells2 (HO1.out V5 (HBU.out _ HV5.out))
       obtain ⟨X,hX⟩ : ∃ X,(V5.setCell ⟨p1,0,none⟩ (.int .i64 er5)).setCell ⟨p1,1,none⟩ (.string (str s5))=X:=⟨_,rfl⟩
       have HX:=hI (show X.heap[p1]?=some (.cells #[.int .i64 er5,.string (str s5)] 125 (0,0)) by rw [← hX];exact set2 (HO1.out V5 (HBU.out _ HV5.out)))
       have HXB:=hI (show Below w.heap.size w X by rw [← hX];exact set2_below (HBV.out.trans ((HBU.out _ HV5.out).mono HBV.out.size)) HPV.out.1)
       go_wp2_with ((with_reducible refine ret_w 12 p1 (.int .i64 er5) (.string (str s5)) ?_ ?_ ?_ ?_ ?_);exact HX.out;rfl;rfl;rfl;exact ⟨er5,s5,rfl,(fun h=>absurd h HN5.out),HXB.out⟩)
   ·obtain rfl : m=j:=by omega
    have HTK:=hI (show l.take m=l from List.take_of_length_le (by rw [HM.out];exact Nat.le_refl _))
    go_wp2_with fail
    refine (fine_r wr).mono ?_
    rintro ee w5 ⟨rfl,hb⟩
    have HB5:=hI (HB.out.trans (hb.mono HB.out.size))
    clear hb
    obtain ⟨r0,r1,rf⟩:=cells2 (HO1.out w5 (HB5.out))
    obtain ⟨X,hX⟩ : ∃ X,(w5.setCell ⟨p1,0,none⟩ (.int .i64 0)).setCell ⟨p1,1,none⟩ (.string ⟨#[]⟩)=X:=⟨_,rfl⟩
    have HX:=hI (show X.heap[p1]?=some (.cells #[.int .i64 0,.string ⟨#[]⟩] 125 (0,0)) by rw [← hX];exact set2 (HO1.out w5 (HB5.out)))
    have HXB:=hI (show Below w.heap.size w X by rw [← hX];exact set2_below (HBV.out.trans ((HB5.out).mono HBV.out.size)) HPV.out.1)
    go_wp2_with ((with_reducible refine ret_w 12 p1 (.int .i64 0) (.string ⟨#[]⟩) ?_ ?_ ?_ ?_ ?_);exact HX.out;rfl;rfl;rfl;exact ⟨0,[],rfl,(fun _=>by have h:=HQ.out.2.2;rw [HTK.out] at h;rw [HCX.out];exact h),HXB.out⟩)
end Go.Proofs.YteibcfpepdbflaaGreat.CkE
