/- For every source without a fault, each routine of the book is Bound with its locals. Conditions: the argument is of bulk at most 1048576; no condition is deeper than 31. -/
import Derived.Test.YteibcfpepdbflaaGreatBkJ
import Derived.Test.YteibcfpepdbflaaGreatBoP
import Derived.Test.YteibcfpepdbflaaGreatBoX
import Derived.Test.YteibcfpepdbflaaGreatCkD
import Derived.Test.YteibcfpepdbflaaGreatBindF
import Derived.Test.YteibcfpepdbflaaGreatLawS
open Go.Lib renaming hid → hI
open Go.Proofs.YteibcfpepdbflaaGreat.RgD renaming tk → tK, sA → zA, s0 → zB, s1 → zC
namespace Go.Proofs.YteibcfpepdbflaaGreat.bindBound
open Go Go.RowKit Go.ChangeShapes Go.WideShapes Go.ChangeAt BindP BindD BindO BindW BindN BindG BindX BindB BindT BindU BkB BkD BkE BkG BkI BkK BkJ RtX RtF RtB TxA TxL LawS MkP MkA MkC CkP CkA CkE CkM CkN BnP BnQ BnR BoD BoP BoW BoX BoS
open Byt (str)
set_option maxRecDepth 100000 in
set_option maxHeartbeats 64000000 in
theorem walk (so : So) (w : World) (hr : So.R top w so) (hz : So.m so≤1048576) : Calls Tryz.prog 4 #[.agg (So.e so).toArray] w fun e w'=>e=.returned (.bool true)∧Below w.heap.size w w':=by
 have HFI:=hI (fun u (hu : Below w.heap.size w u)=>fine_c so u (So.stays _ _ _ _ _ (Keep.below hu) hr) hz)
 have HSH:=hI (fun u (hu : Below w.heap.size w u)=>shallow_o so u (So.stays _ _ _ _ _ (Keep.below hu) hr) hz)
 have HBK:=hI (fun u (hu : Below w.heap.size w u) (T : List Nm) (A : Option Addr) (n c : Nat) (ht : Sk.Rd nmE u A n T) (hn : n≤17592186043904) (hm : Mk (ens so) T) (hc : SoC T so)=>book_w so u (So.stays _ _ _ _ _ (Keep.below hu) hr) hz A n c T hm.up ht hn (props_in hm hc) (fun _ _ f _=>(mk_nb hm hz 1 f).1))
 have HEL:=hI (ens_len so hz)
 have HSO:=hI (show ∀ (T : List Nm) (b : Bo),Mk (ens so) T→SoP so→SoC T so→Bo.p b=bookI T ((adds so).foldl wth []) so →
   ((b.pa.l.length=b.rs.l.length∧b.lo.l.length=b.rs.l.length)∧∀ i (h : i < b.rs.l.length),∃ (p : Int) (L : Nat),b.pa.l[i]?=some p∧b.lo.l[i]?=some (L : Int)∧p≤(L : Int)∧L≤24∧bBd (tnOf (Bo.p b)) L (stPs b.rs.l[i].l)∧b.rs.l[i].l.length≤256∧dB 65 (stPs b.rs.l[i].l)≤32∧nB (stPs b.rs.l[i].l)≤1048576) ∧
   (b.fu.l.length≤2097152∧b.pa.l.length≤4194304∧b.tx.l.length≤4194304∧b.pr.l.length≤4194304∧b.gl.l.length≤4194304∧b.da.l.length≤4194304) from
  fun T b hm hp hc hb=>⟨book_rt hb rfl hm hp hc hz,book_sz hb rfl hz⟩)
 obtain ⟨TX,hTX⟩ : ∃ L,(adds so).foldl wth []=L:=⟨_,rfl⟩
 rw [hTX] at HBK HSO
 obtain ⟨FV,hFV⟩ : ∃ p,p=FineV so:=⟨_,rfl⟩
 have HFV:=hI (show ∀ u e w',FV u e w'→∃ (A : Option Addr) (T : List Nm) (c : Nat) (b : Bool),e=.returned (.tuple #[.slice A T.length c,.bool b])∧(b=true→Sk.Rd nmE w' A T.length T∧T.length≤1048580∧Mk (ens so) T∧SoP so∧SoC T so)∧Below u.heap.size u w' from fun u e w' h=>by
  rw [hFV] at h
  obtain ⟨A,T,c,b,h1,h2,h3⟩:=h
  exact ⟨A,T,c,b,h1,fun hb=>⟨(h2 hb).2.1,by have:=(h2 hb).2.2.1.len;have:=HEL.out;omega,(h2 hb).2.2.1,(h2 hb).2.2.2.1,(h2 hb).2.2.2.2⟩,h3⟩)
 have HFI:=hI (fun u (hu : Below w.heap.size w u)=>(show Calls _ _ _ _ (FV u) by rw [hFV];exact HFI.out u hu))
 obtain ⟨ti,by_,st,re,mx,⟨fA,fc,fl⟩,⟨pA,pc,pr⟩,⟨gA,gc,gl⟩,⟨oA,oc,ob⟩,⟨vA,vc,vb⟩,⟨rA,rc,ru⟩,⟨nA,nc,fn⟩,⟨dA,dc,dm⟩⟩:=so
 clear hr hz hFV hTX HEL
 show Calls Tryz.prog 4 #[.agg #[.string (str ti),.string (str by_),.string (str st),.int .i64 re,.int .i64 mx,.slice fA fl.length fc,.slice pA pr.length pc,.slice gA gl.length gc,.slice oA ob.length oc,.slice vA vb.length vc,.slice rA ru.length rc,.slice nA fn.length nc,.slice dA dm.length dc]] w _
 obtain ⟨V,hV⟩ : ∃ W,w.alloc (.cells #[.string (str ti),.string (str by_),.string (str st),.int .i64 re,.int .i64 mx,.slice fA fl.length fc,.slice pA pr.length pc,.slice gA gl.length gc,.slice oA ob.length oc,.slice vA vb.length vc,.slice rA ru.length rc,.slice nA fn.length nc,.slice dA dm.length dc] 29)=W:=⟨_,rfl⟩
 obtain ⟨m1,s1,b1⟩:=made hV
 have HO0:=hI (show ∀ U,Below V.heap.size V U→U.heap[w.heap.size]?=some (.cells #[.string (str ti),.string (str by_),.string (str st),.int .i64 re,.int .i64 mx,.slice fA fl.length fc,.slice pA pr.length pc,.slice gA gl.length gc,.slice oA ob.length oc,.slice vA vb.length vc,.slice rA ru.length rc,.slice nA fn.length nc,.slice dA dm.length dc] 29 (0,0)) from fun U h=>(h.block _ (Array.getElem?_eq_some_iff.1 m1).1).trans m1)
 have HBV:=hI b1
 have HBT:=hI (show ∀ U,Below V.heap.size V U→Below w.heap.size w U from fun U h=>HBV.out.trans (h.mono HBV.out.size))
 obtain ⟨p0,hp0⟩ : ∃ p,w.heap.size=p:=⟨_,rfl⟩
 rw [hp0] at HO0
 clear m1 s1 b1
 obtain ⟨x0,x1,x2,x3,x4,x5,x6,x7,x8,x9,x10,x11,x12,xf⟩:=cellz13 (HO0.out V (Below.refl _ _))
 go_enter Tryz.func4,Tryz.ntmps4
 go_wp2_with fail
 clear hV hp0
 refine (HFI.out V HBV.out).mono ?_
 rintro e w2 hfv
 obtain ⟨A1,T,c1,b2,rfl,hp,hb⟩:=HFV.out _ _ _ hfv
 have HP:=hI hp
 have HB2:=hI hb
 obtain ⟨n1,hn1⟩ : ∃ n,T.length=n:=⟨_,rfl⟩
 rw [hn1] at HP ⊢
 have HAW:=hI (show ∀ u,Below V.heap.size V u→Calls Tryz.prog 6 #[] u fun e w'=>e=.returned (.bool true)∧Below w.heap.size w w' from fun u hu=>(awake_i u).mono (by rintro e w' ⟨rfl,hb⟩;exact ⟨rfl,HBT.out _ (hu.trans (hb.mono hu.size))⟩))
 clear hfv hp hb hn1 x0 x1 x2 x3 x4 x5 x6 x7 x8 x9 x10 x11 x12 xf
 obtain ⟨x0,x1,x2,x3,x4,x5,x6,x7,x8,x9,x10,x11,x12,xf⟩:=cellz13 (HO0.out w2 HB2.out)
 cases b2 with
 | false=>
  go_wp2_with fail
  refine (HAW.out w2 HB2.out).mono ?_
  rintro e w3 ⟨rfl,hb⟩
  have HBE:=hI hb
  clear hb
  go_wp2_with fail
  go_ret
  exact ⟨rfl,HBE.out⟩
 | true=>
  have HPP:=hI (HP.out (by trivial))
  go_wp2_with fail
  refine (HSH.out w2 (HBT.out _ HB2.out)).mono ?_
  rintro e w2s ⟨bs,rfl,hb⟩
  have HB2s:=hI (HB2.out.trans (hb.mono HB2.out.size))
  have HBs:=hI hb
  clear hb x0 x1 x2 x3 x4 x5 x6 x7 x8 x9 x10 x11 x12 xf
  obtain ⟨x0,x1,x2,x3,x4,x5,x6,x7,x8,x9,x10,x11,x12,xf⟩:=cellz13 (HO0.out w2s HB2s.out)
  cases bs with
  | false=>
   go_wp2_with fail
   refine (HAW.out w2s HB2s.out).mono ?_
   rintro e w3 ⟨rfl,hb⟩
   have HBE:=hI hb
   clear hb
   go_wp2_with fail
   go_ret
   exact ⟨rfl,HBE.out⟩
  | true=>
   go_wp2_with fail
   refine (HBK.out w2s (HBT.out _ HB2s.out) T A1 n1 c1 (HPP.out.1.below HBs.out) (by have:=HPP.out.2.1;omega) HPP.out.2.2.1 HPP.out.2.2.2.2).mono ?_
   rintro e w3 ⟨⟨bti,bby,bre,bmx,⟨xA,xc,xl⟩,bfl,⟨b6A,b6c,b6l⟩,⟨b7A,b7c,b7l⟩,⟨thA,thc,thl⟩,⟨b9A,b9c,b9l⟩,⟨b10A,b10c,b10l⟩,⟨fuA,fuc,ful⟩,⟨daA,dac,dal⟩,⟨paA,pac,pal⟩,⟨loA,loc,lol⟩,⟨rsA,rsc,rsl⟩⟩,rfl,hbp,hbr,hb⟩
   have HL:=hI (HSO.out T _ HPP.out.2.2.1 HPP.out.2.2.2.1 HPP.out.2.2.2.2 hbp)
   have HRD:=hI (show ∀ U,Below w3.heap.size w3 U→Lg hdE HdR top U rsA rsc rsl∧Lg inE RtI top U fuA fuc ful∧Lg inE RtI top U paA pac pal∧Lg inE RtI top U loA loc lol from fun U h=>⟨Lg.below stays_h h hbr.2.2.2.2.2.2.2.2.2.2,Lg.below stays_i h hbr.2.2.2.2.2.2.1,Lg.below stays_i h hbr.2.2.2.2.2.2.2.2.1,Lg.below stays_i h hbr.2.2.2.2.2.2.2.2.2.1⟩)
   have HB3:=hI (HB2s.out.trans (hb.mono HB2s.out.size))
   obtain ⟨ntx,hntx⟩ : ∃ n,xl.length=n:=⟨_,rfl⟩
   obtain ⟨npr,hnpr⟩ : ∃ n,b6l.length=n:=⟨_,rfl⟩
   obtain ⟨ngl,hngl⟩ : ∃ n,b7l.length=n:=⟨_,rfl⟩
   obtain ⟨nfu,hnfu⟩ : ∃ n,ful.length=n:=⟨_,rfl⟩
   obtain ⟨nda,hnda⟩ : ∃ n,dal.length=n:=⟨_,rfl⟩
   obtain ⟨nrs,hnrs⟩ : ∃ n,rsl.length=n:=⟨_,rfl⟩
   have hnpa : pal.length=nrs:=HL.out.1.1.1.trans hnrs
   have hnlo : lol.length=nrs:=HL.out.1.1.2.trans hnrs
   obtain ⟨Q,hQ⟩ : ∃ Q,Q=tnOf (Bo.p ⟨bti,bby,bre,bmx,⟨xA,xc,xl⟩,bfl,⟨b6A,b6c,b6l⟩,⟨b7A,b7c,b7l⟩,⟨thA,thc,thl⟩,⟨b9A,b9c,b9l⟩,⟨b10A,b10c,b10l⟩,⟨fuA,fuc,ful⟩,⟨daA,dac,dal⟩,⟨paA,pac,pal⟩,⟨loA,loc,lol⟩,⟨rsA,rsc,rsl⟩⟩):=⟨_,rfl⟩
   have HQ:=hI (show Q.gl=ngl∧Q.tx=ntx∧Q.pr=npr∧Q.da=nda∧Q.fl=bfl∧Q.fu=ful∧Q.pa=pal by rw [hQ];exact ⟨hngl,hntx,hnpr,hnda,rfl,rfl,rfl⟩)
   have HRT:=hI (show ∀ i (h : i < rsl.length),∃ (p : Int) (L : Nat),pal[i]?=some p∧lol[i]?=some (L : Int)∧p≤(L : Int)∧L≤24∧bBd Q L (stPs rsl[i].l)∧rsl[i].l.length≤256∧dB 65 (stPs rsl[i].l)≤32∧nB (stPs rsl[i].l)≤1048576 by rw [hQ];exact HL.out.1.2)
   have HSZ:=hI (show ful.length≤2097152∧pal.length≤4194304∧xl.length≤4194304∧b6l.length≤4194304∧b7l.length≤4194304∧dal.length≤4194304 from HL.out.2)
   have HTB:=hI (show ∀ U,Below w3.heap.size w3 U→TbH Q fuA paA fuc pac nfu nrs U from fun U h=>by
    have hs:=HSZ.out
    have hq:=HQ.out
    refine ⟨by rw [hq.2.2.2.2.2.1];exact (HRD.out U h).2.1,by rw [hq.2.2.2.2.2.2];exact (HRD.out U h).2.2.1,by rw [hq.2.2.2.2.2.1];exact hnfu,by rw [hq.2.2.2.2.2.2];exact hnpa,by omega,by omega,by omega,by omega,by omega,by omega⟩)
   have HNN:=hI (And.intro hnrs (And.intro hnpa hnlo))
   have zrs : nrs≤4194304:=by have:=HSZ.out.2.1;omega
   have HV3 : (Value.agg (Bo.e ⟨bti,bby,bre,bmx,⟨xA,xc,xl⟩,bfl,⟨b6A,b6c,b6l⟩,⟨b7A,b7c,b7l⟩,⟨thA,thc,thl⟩,⟨b9A,b9c,b9l⟩,⟨b10A,b10c,b10l⟩,⟨fuA,fuc,ful⟩,⟨daA,dac,dal⟩,⟨paA,pac,pal⟩,⟨loA,loc,lol⟩,⟨rsA,rsc,rsl⟩⟩).toArray)=.agg #[.int .i64 bti,.int .i64 bby,.int .i64 bre,.int .i64 bmx,.slice xA ntx xc,.int .i64 bfl,.slice b6A npr b6c,.slice b7A ngl b7c,.slice thA thl.length thc,.slice b9A b9l.length b9c,.slice b10A b10l.length b10c,.slice fuA nfu fuc,.slice daA nda dac,.slice paA nrs pac,.slice loA nrs loc,.slice rsA nrs rsc]:=by rw [← hntx,← hnpr,← hngl,← hnfu,← hnda,← hnrs];simp only [Bo.e,Sv.v];rw [HL.out.1.1.1,HL.out.1.1.2]
   rw [HV3]
   clear hbp hbr hb HV3 hntx hnpr hngl hnfu hnda hnrs hnpa hnlo hQ HL HSO x0 x1 x2 x3 x4 x5 x6 x7 x8 x9 x10 x11 x12 xf
   go_upto_region 5 with fail
   obtain ⟨w4,hw4⟩ : ∃ W,w3.alloc (.cells #[.int .i64 bti,.int .i64 bby,.int .i64 bre,.int .i64 bmx,.slice xA ntx xc,.int .i64 bfl,.slice b6A npr b6c,.slice b7A ngl b7c,.slice thA thl.length thc,.slice b9A b9l.length b9c,.slice b10A b10l.length b10c,.slice fuA nfu fuc,.slice daA nda dac,.slice paA nrs pac,.slice loA nrs loc,.slice rsA nrs rsc] 42)=W:=⟨_,rfl⟩
   obtain ⟨m4,s4,b4⟩:=made hw4
   rw [hw4]
   obtain ⟨bb,hbb⟩ : ∃ p,w3.heap.size=p:=⟨_,rfl⟩
   have HB4:=hI (HB3.out.trans (b4.mono HB3.out.size))
   have HL4:=hI b4
   rw [hbb] at m4 ⊢
   have HBX:=hI (show ∀ U,Below w4.heap.size w4 U→U.heap[bb]?=some (.cells #[.int .i64 bti,.int .i64 bby,.int .i64 bre,.int .i64 bmx,.slice xA ntx xc,.int .i64 bfl,.slice b6A npr b6c,.slice b7A ngl b7c,.slice thA thl.length thc,.slice b9A b9l.length b9c,.slice b10A b10l.length b10c,.slice fuA nfu fuc,.slice daA nda dac,.slice paA nrs pac,.slice loA nrs loc,.slice rsA nrs rsc] 42 (0,0)) from fun U h=>(h.block _ (Array.getElem?_eq_some_iff.1 m4).1).trans m4)
   clear hw4 m4 s4 b4 hbb
   obtain ⟨y0,y1,y2,y3,y4,y5,y6,y7,y8,y9,y10,y11,y12,y13,y14,y15,yf⟩:=cells16 (HBX.out w4 (Below.refl _ _))
   go_wp2_with fail
   clear y0 y1 y2 y3 y4 y5 y6 y7 y8 y9 y10 y11 y12 y13 y14 y15 yf
   go_loopw [45] (fun iv wr=>∃ j : Nat,j≤nrs∧iv=.int .i64 (j : Int)∧Below w4.heap.size w4 wr) (fun iv _=>nrs - (intOf iv).toNat)
   case atStart=>exact ⟨0,Nat.zero_le _,rfl,Below.refl _ _⟩
   case round=>
    obtain ⟨j,hj,rfl,hb⟩:=hrel
    have HB:=hI hb
    have HBW:=hI (HB4.out.trans (hb.mono HB4.out.size))
    clear hb
    have k0 : (0 : Int)≤(j : Int):=by omega
    by_cases hlt : j < nrs
    ·have k1 : (j : Int) < (nrs : Int):=by omega
     have hjr : j < rsl.length:=by rw [HNN.out.1];exact hlt
     have hjp : j < pal.length:=by rw [HNN.out.2.1];exact hlt
     have hjl : j < lol.length:=by rw [HNN.out.2.2];exact hlt
     obtain ⟨p,L,h1,h2,h3,h4,h5,h6,h7,h8⟩:=HRT.out j hjr
     obtain ⟨hRs,hRf,hRp,hRl⟩:=HRD.out w4 HL4.out
     have hls:=hRs.2 _ (List.getElem_mem hjr)
     obtain ⟨bs,os_,rfl,hbs,hcs⟩:=RtD.Lg.one (fun _=>rfl) hRs hjr
     obtain ⟨bp,op,rfl,hbp,hcp⟩:=RtD.Lg.one (fun _=>rfl) hRp hjp
     obtain ⟨bl,ol,rfl,hbl,hcl⟩:=RtD.Lg.one (fun _=>rfl) hRl hjl
     rw [(List.getElem?_eq_some_iff.1 h1).2] at hcp
     rw [(List.getElem?_eq_some_iff.1 h2).2] at hcl
     obtain ⟨⟨sA,sc,sl⟩,hy⟩ : ∃ y,rsl[j]=y:=⟨_,rfl⟩
     rw [hy] at hcs hls h5 h6 h7 h8
     have HLS:=hI (show Ls top w4 sA sc sl from hls)
     have HF5:=hI (And.intro h5 (And.intro h6 (And.intro h7 h8)))
     have HL24:=hI h4
     have HCS:=hI (show ∀ U,Below w4.heap.size w4 U→U.cell? ⟨bs,os_ + j,none⟩=some (.slice sA sl.length sc) from fun U h=>(h.cell (p:=⟨bs,os_ + j,none⟩) hbs).trans (hcs _ rfl))
     have HCP:=hI (show ∀ U,Below w4.heap.size w4 U→U.cell? ⟨bp,op + j,none⟩=some (.int .i64 p) from fun U h=>(h.cell (p:=⟨bp,op + j,none⟩) hbp).trans (hcp _ rfl))
     have HCL:=hI (show ∀ U,Below w4.heap.size w4 U→U.cell? ⟨bl,ol + j,none⟩=some (.int .i64 (L : Int)) from fun U h=>(h.cell (p:=⟨bl,ol + j,none⟩) hbl).trans (hcl _ rfl))
     have g1 : decide (p > (L : Int))=false:=decide_eq_false (by omega)
     have g2 : decide ((L : Int) > 24)=false:=decide_eq_false (by omega)
     clear hRs hRf hRp hRl hls hbs hbp hbl hcs hcp hcl hy h1 h2 h3 h4 h5 h6 h7 h8 hjr hjp hjl
     have s0:=HCS.out wr HB.out
     go_upto_region 10 with fail
     clear s0
     have HBB:=hI (show ∀ u,Below w4.heap.size w4 u→Calls Tryz.prog 12 #[.agg #[.int .i64 bti,.int .i64 bby,.int .i64 bre,.int .i64 bmx,.slice xA ntx xc,.int .i64 bfl,.slice b6A npr b6c,.slice b7A ngl b7c,.slice thA thl.length thc,.slice b9A b9l.length b9c,.slice b10A b10l.length b10c,.slice fuA nfu fuc,.slice daA nda dac,.slice (some ⟨bp,op,none⟩) nrs pac,.slice (some ⟨bl,ol,none⟩) nrs loc],.slice sA sl.length sc,.int .i64 (L : Int)] u (TrueV u) from fun u hu=>by
      have hq:=HQ.out
      have hf:=HF5.out
      have h:=BoundBlock_t Q L (.int .i64 bti) (.int .i64 bby) (.int .i64 bre) (.int .i64 bmx) (.slice thA thl.length thc) (.slice b9A b9l.length b9c) (.slice b10A b10l.length b10c) (.slice (some ⟨bl,ol,none⟩) nrs loc) xA b6A b7A fuA daA (some ⟨bp,op,none⟩) xc b6c b7c fuc dac pac nfu nrs (by have:=HL24.out;omega) sl sA sc u (HTB.out u (HL4.out.trans (hu.mono HL4.out.size))) (Lg.keep stays_s (Keep.below hu) HLS.out) hf.2.2.2 hf.1 hf.2.1 hf.2.2.1
      simp only [hq.1,hq.2.1,hq.2.2.1,hq.2.2.2.1,hq.2.2.2.2.1] at h
      exact h)
     have hS0 : Below w4.heap.size w4 wr.drew:=Below.drew HB.out
     refine RgD.begin_ [] (fun U=>Below w4.heap.size w4 U) (by kernel_rfl) hS0 (fun hHeld=>?_)
     refine tK 0 50 (h:=?_)
     simp only [zA,zB,zC]
     refine tK 1 51 (v:=.agg #[.int .i64 bti,.int .i64 bby,.int .i64 bre,.int .i64 bmx,.slice xA ntx xc,.int .i64 bfl,.slice b6A npr b6c,.slice b7A ngl b7c,.slice thA thl.length thc,.slice b9A b9l.length b9c,.slice b10A b10l.length b10c,.slice fuA nfu fuc,.slice daA nda dac,.slice (some ⟨bp,op,none⟩) nrs pac,.slice (some ⟨bl,ol,none⟩) nrs loc]) (hy:=by intro w0 hSw;obtain ⟨y0,y1,y2,y3,y4,y5,y6,y7,y8,y9,y10,y11,y12,y13,y14,y15,yf⟩:=cells16 (HBX.out _ hSw);first | (go_simp;done) | (go_simp;with_reducible rfl) | (go_simp;intro hc;exfalso;omega)) (h:=?_)
     simp only [zA,zB,zC]
     refine tK 2 52 (h:=?_)
     simp only [zA,zB,zC]
     refine tK 3 53 (h:=?_)
     simp only [zA,zB,zC]
     refine tK 4 54 (h:=?_)
     simp only [zA,zB,zC]
     refine tK 5 55 (v:=.slice (some ⟨bl,ol,none⟩) nrs loc) (hy:=by intro w0 hSw;obtain ⟨y0,y1,y2,y3,y4,y5,y6,y7,y8,y9,y10,y11,y12,y13,y14,y15,yf⟩:=cells16 (HBX.out _ hSw);first | (go_simp;done) | (go_simp;with_reducible rfl) | (go_simp;intro hc;exfalso;omega)) (h:=?_)
     simp only [zA,zB,zC]
     refine tK 6 56 (h:=?_)
     simp only [zA,zB,zC]
     refine tK 7 57 (h:=?_)
     simp only [zA,zB,zC]
     refine tK 8 58 (v:=.int .i64 (L : Int)) (hy:=by intro w0 hSw;have d0:=HCL.out _ hSw;first | (go_simp;done) | (go_simp;with_reducible rfl) | (go_simp;intro hc;exfalso;omega)) (h:=?_)
     simp only [zA,zB,zC]
     refine RgD.one (i:=9) (by kernel_rfl) ?_
     refine RgD.call (i:=9) (t:=59) rfl rfl (by rfl) (by go_simp;exact ⟨rfl,rfl⟩) ?_
     refine (HBB.out wr.drew hS0).mono ?_
     rintro r_ u1 ⟨rfl,hb⟩
     have hS1:=(hS0).trans (hb.mono (hS0).size)
     have HS1:=hI hS1
     clear hb
     refine ⟨_,rfl,hS1,?_⟩
     simp only [zA,zB,zC]
     refine tK 10 60 (h:=?_)
     simp only [zA,zB,zC]
     refine tK 11 61 (h:=?_)
     simp only [zA,zB,zC]
     refine tK 12 62 (h:=?_)
     simp only [zA,zB,zC]
     refine tK 13 63 (h:=?_)
     simp only [zA,zB,zC]
     refine tK 14 64 (v:=.slice (some ⟨bp,op,none⟩) nrs pac) (hy:=by intro w0 hSw;obtain ⟨y0,y1,y2,y3,y4,y5,y6,y7,y8,y9,y10,y11,y12,y13,y14,y15,yf⟩:=cells16 (HBX.out _ hSw);first | (go_simp;done) | (go_simp;with_reducible rfl) | (go_simp;intro hc;exfalso;omega)) (h:=?_)
     simp only [zA,zB,zC]
     refine tK 15 65 (h:=?_)
     simp only [zA,zB,zC]
     refine tK 16 66 (h:=?_)
     simp only [zA,zB,zC]
     refine tK 17 67 (v:=.int .i64 p) (hy:=by intro w0 hSw;have d0:=HCP.out _ hSw;first | (go_simp;done) | (go_simp;with_reducible rfl) | (go_simp;intro hc;exfalso;omega)) (h:=?_)
     simp only [zA,zB,zC]
     refine tK 18 68 (h:=?_)
     simp only [zA,zB,zC]
     refine tK 19 69 (h:=?_)
     simp only [zA,zB,zC]
     refine tK 20 70 (v:=.slice (some ⟨bl,ol,none⟩) nrs loc) (hy:=by intro w0 hSw;obtain ⟨y0,y1,y2,y3,y4,y5,y6,y7,y8,y9,y10,y11,y12,y13,y14,y15,yf⟩:=cells16 (HBX.out _ hSw);first | (go_simp;done) | (go_simp;with_reducible rfl) | (go_simp;intro hc;exfalso;omega)) (h:=?_)
     simp only [zA,zB,zC]
     refine tK 21 71 (h:=?_)
     simp only [zA,zB,zC]
     refine tK 22 72 (h:=?_)
     simp only [zA,zB,zC]
     refine tK 23 73 (v:=.int .i64 (L : Int)) (hy:=by intro w0 hSw;have d0:=HCL.out _ hSw;first | (go_simp;done) | (go_simp;with_reducible rfl) | (go_simp;intro hc;exfalso;omega)) (h:=?_)
     simp only [zA,zB,zC]
     refine tK 24 74 (h:=?_)
     simp only [zA,zB,zC]
     refine tK 25 75 (h:=?_)
     simp only [zA,zB,zC]
     refine tK 26 76 (h:=?_)
     simp only [zA,zB,zC]
     refine tK 27 77 (h:=?_)
     simp only [zA,zB,zC]
     refine tK 28 78 (h:=?_)
     simp only [zA,zB,zC]
     refine tK 29 79 (v:=.slice (some ⟨bl,ol,none⟩) nrs loc) (hy:=by intro w0 hSw;obtain ⟨y0,y1,y2,y3,y4,y5,y6,y7,y8,y9,y10,y11,y12,y13,y14,y15,yf⟩:=cells16 (HBX.out _ hSw);first | (go_simp;done) | (go_simp;with_reducible rfl) | (go_simp;intro hc;exfalso;omega)) (h:=?_)
     simp only [zA,zB,zC]
     refine tK 30 80 (h:=?_)
     simp only [zA,zB,zC]
     refine tK 31 81 (h:=?_)
     simp only [zA,zB,zC]
     refine tK 32 82 (v:=.int .i64 (L : Int)) (hy:=by intro w0 hSw;have d0:=HCL.out _ hSw;first | (go_simp;done) | (go_simp;with_reducible rfl) | (go_simp;intro hc;exfalso;omega)) (h:=?_)
     simp only [zA,zB,zC]
     refine tK 33 83 (h:=?_)
     simp only [zA,zB,zC]
     refine tK 34 84 (h:=?_)
     simp only [zA,zB,zC]
     refine RgD.done (by kernel_rfl) ?_ _
     go_wp2_with fail
     go_roundw
     case rel=>exact ⟨j + 1,by omega,by go_num,HS1.out⟩
     case measure=>simp [intOf];omega
    ·obtain rfl : j=nrs:=by omega
     go_wp2_with fail
     refine (HAW.out wr HBW.out).mono ?_
     rintro e w9 ⟨rfl,hb⟩
     have HB9:=hI hb
     clear hb
     go_wp2_with fail
     go_ret
     exact ⟨rfl,HB9.out⟩
theorem own : ownKnob Tryz.prog.godebug=none:=by kernel_rfl
set_option maxRecDepth 100000 in
theorem contract (H : Type) (enc : TypeId × Value→H) (W : World) (base : Nat) (args : Array Value) (ds gs : List (DataW H)) (before : List MemPlace)
  (hval : ∀ (j : Nat) t v,Tryz.f4.params[j]?=some t→args[j]?=some v→Value.okWide Tryz.prog W .any base t v)
  (hW : DataW.Whole enc Tryz.prog Tryz.f4.params.toList Rows.bindBoundSpec.vars false W args.toList ds gs before) (hk : Rows.uptoSmall H (ds ++ gs)=true) :
  Calls Tryz.prog 4 args W fun e W'=>∃ v,e=.returned v∧Rows.bindBoundSpec.post enc Tryz.prog Tryz.f4 false true false false W args v W':=by
 have hW':=hW
 obtain ⟨p,q,hA0,hV,rfl,hfz,hnd⟩:=hW
 have hA : DataW.TrodAll enc Tryz.prog W 0 (fun _=>true) true Tryz.f4.params.toList args.toList ds p:=hA0
 rw [Tryz.params4] at hA hval
 obtain ⟨v0,vs0,d0,ds0,p0,q0,hargs,rfl,rfl,h0,r0⟩:=trodAll_cons hA
 obtain ⟨rfl,rfl,rfl⟩:=trodAll_nil r0
 obtain rfl : args=#[v0]:=by cases args;simp_all
 have hb : Rows.uptoBulkAll ([d0] ++ gs)≤1048576:=of_decide_eq_true hk
 clear hV
 obtain ⟨t,rfl,hr,hm⟩:=open_source (hval 0 29 v0 rfl rfl) h0
 have hm2 : So.m t≤1048576:=by
  simp only [List.cons_append,Rows.uptoBulkAll] at hb
  omega
 clear hA0
 refine (walk t W hr hm2).mono fun e W' ⟨he,hg⟩=>?_
 subst he
 exact ⟨_,rfl,Law.post (by kernel_rfl) (by kernel_rfl) Tryz.underlying4 rfl rfl hW' hg ⟨rfl,rfl,rfl⟩⟩
set_option maxRecDepth 100000 in
theorem lifted (os : Os) (started : os.Started) (H : Type) (enc : TypeId × Value→H) (F : Stop.Interp) :
  ReturnsInHanded {} Tryz.checked os 4 .any ((Rows.OpenSpec.upto Rows.bindBoundSpec).pre6 enc Tryz.prog Tryz.f4 Rows.bindBoundUptoRow.domain false) (((Rows.OpenSpec.upto Rows.bindBoundSpec).at F).post enc Tryz.prog Tryz.f4 false true false false):=by
 refine returnsInHanded_of_cond (C:=Tryz.checked) (s:=Rows.OpenSpec.upto Rows.bindBoundSpec) (k:=Rows.uptoSmall) rfl own started (by kernel_rfl) Tryz.func4
  (OpenSpec.witness (enc:=enc) (C:=Tryz.checked) (s:=Rows.OpenSpec.upto Rows.bindBoundSpec) (k:=Rows.uptoSmall) rfl false ⟨#[],#[.agg #[.string .empty,.string .empty,.string .empty,.int .i64 0,.int .i64 0,.slice none 0 0,.slice none 0 0,.slice none 0 0,.slice none 0 0,.slice none 0 0,.slice none 0 0,.slice none 0 0,.slice none 0 0]],[]⟩ 8 (by kernel_rfl) (by kernel_rfl) (by kernel_rfl)
   (x:=([.agg [.lit (.string []),.lit (.string []),.lit (.string []),.lit (.int .i64 0),.lit (.int .i64 0),.nil,.nil,.nil,.nil,.nil,.nil,.nil,.nil]],[],[])) (by kernel_rfl) rfl (by kernel_rfl)) ?_
 intro W base args ds gs before hval hW _ hk _
 exact contract H enc W base args ds gs before hval hW hk
theorem proved : Rows.BindBoundUptoSaid:=
 OpenClaim.holds_of_cond 4 Tryz.f4 rfl rfl rfl rfl rfl rfl rfl ⟨rfl,rfl,rfl,rfl,rfl⟩ rfl rfl rfl rfl rfl (by kernel_rfl) Tryz.func4 (by kernel_rfl)
  (of_decide_eq_true (by kernel_rfl)) (by unfold Func.isWrapper;first | (rw [if_pos (by decide +kernel)];kernel_rfl) | (rw [if_neg (by decide +kernel)];exact ⟨rfl,rfl⟩))
  (fun os started H enc _ F=>lifted os started H enc F)
#print axioms proved
end Go.Proofs.YteibcfpepdbflaaGreat.bindBound
