/- clewref10.SizeBlock: how many statements there are. Conditions: sizes within the reach. -/
import Derived.Test.YteibcfpepdbflaaGreatRtF
import Derived.Test.YteibcfpepdbflaaGreatTxA
import Derived.Test.YteibcfpepdbflaaGreatBindL
import Derived.Test.YteibcfpepdbflaaGreatBindR
import Derived.Test.YteibcfpepdbflaaGreatRtX
open Go.Lib renaming hid → hI
open Go.Proofs.YteibcfpepdbflaaGreat.RgD renaming tk → tK, sA → zA, s0 → zB, s1 → zC
namespace Go.Proofs.YteibcfpepdbflaaGreat.BoS
open Go Go.RowKit BindP BindD BindO BindW BindG BindX BindB BindT BindU RtS RtX RtY RtZ RtB RtC RtD RtE RtF TxA
open Byt (str)
set_option maxRecDepth 100000 in
set_option maxHeartbeats 32000000 in
theorem shallow_o (t : So) (w : World) (hr : So.R top w t) (hz : So.m t≤1048576) : Calls Tryz.prog 11 #[.agg (So.e t).toArray] w fun e w'=>∃ b : Bool,e=.returned (.bool b)∧Below w.heap.size w w':=by
 have HZ:=hI (show (t.ob.l.map Ob.m).sum≤1048576∧(t.ru.l.map Rl.m).sum≤1048576 by unfold So.m at hz;omega)
 obtain ⟨ti,by_,st,re,mx,⟨fA,fc,fl⟩,⟨pA,pc,pr⟩,⟨gA,gc,gl⟩,⟨oA,oc,ob⟩,⟨vA,vc,vb⟩,⟨rA,rc,ru⟩,⟨nA,nc,fn⟩,⟨dA,dc,dm⟩⟩:=t
 have zO : ob.length≤1048576:=Nat.le_trans (sum_len (m:=Ob.m) (fun _=>by unfold Ob.m;omega) ob) HZ.out.1
 have zR : ru.length≤1048576:=Nat.le_trans (sum_len (m:=Rl.m) (fun _=>by unfold Rl.m;omega) ru) HZ.out.2
 have HR:=hI (show Lg Ob.e Ob.R top w oA oc ob∧Lg Rl.e Rl.R top w rA rc ru from ⟨hr.2.2.2.1,hr.2.2.2.2.2.1⟩)
 clear hr hz
 show Calls Tryz.prog 11 #[.agg #[.string (str ti),.string (str by_),.string (str st),.int .i64 re,.int .i64 mx,.slice fA fl.length fc,.slice pA pr.length pc,.slice gA gl.length gc,.slice oA ob.length oc,.slice vA vb.length vc,.slice rA ru.length rc,.slice nA fn.length nc,.slice dA dm.length dc]] w _
 obtain ⟨V,hV⟩ : ∃ W,w.alloc (.cells #[.string (str ti),.string (str by_),.string (str st),.int .i64 re,.int .i64 mx,.slice fA fl.length fc,.slice pA pr.length pc,.slice gA gl.length gc,.slice oA ob.length oc,.slice vA vb.length vc,.slice rA ru.length rc,.slice nA fn.length nc,.slice dA dm.length dc] 29)=W:=⟨_,rfl⟩
 obtain ⟨m1,s1,b1⟩:=made hV
 have HO0:=hI (show ∀ U,Below V.heap.size V U→U.heap[w.heap.size]?=some (.cells #[.string (str ti),.string (str by_),.string (str st),.int .i64 re,.int .i64 mx,.slice fA fl.length fc,.slice pA pr.length pc,.slice gA gl.length gc,.slice oA ob.length oc,.slice vA vb.length vc,.slice rA ru.length rc,.slice nA fn.length nc,.slice dA dm.length dc] 29 (0,0)) from fun U h=>(h.block _ (Array.getElem?_eq_some_iff.1 m1).1).trans m1)
 have HBV:=hI b1
 have HBT:=hI (show ∀ U,Below V.heap.size V U→Below w.heap.size w U from fun U h=>HBV.out.trans (h.mono HBV.out.size))
 obtain ⟨p0,hp0⟩ : ∃ p,w.heap.size=p:=⟨_,rfl⟩
 rw [hp0] at HO0
 clear m1 s1 b1
 obtain ⟨x0,x1,x2,x3,x4,x5,x6,x7,x8,x9,x10,x11,x12,xf⟩:=cellz13 (HO0.out V (Below.refl _ _))
 go_enter Tryz.func11,Tryz.ntmps11
 go_wp2_with fail
 clear hV hp0 x0 x1 x2 x3 x4 x5 x6 x7 x8 x9 x10 x11 x12 xf
 go_loopw [16] (fun iv wr=>∃ j : Nat,j≤ob.length∧iv=.int .i64 (j : Int)∧Below V.heap.size V wr) (fun iv _=>ob.length - (intOf iv).toNat)
 case atStart=>exact ⟨0,Nat.zero_le _,rfl,Below.refl _ _⟩
 case round=>
  obtain ⟨j,hj,rfl,hb⟩:=hrel
  have HB:=hI hb
  clear hb
  have k0 : (0 : Int)≤(j : Int):=by omega
  by_cases hlt : j < ob.length
  ·have k1 : (j : Int) < (ob.length : Int):=by omega
   obtain ⟨b,o,rfl,-,hc⟩:=Lg.at_ Ob.len (Lg.keep Ob.stays (Keep.below (HBT.out wr HB.out)) HR.out.1) hlt
   have hmem:=List.getElem_mem hlt
   have hob:=HR.out.1.2 _ hmem
   have hsm:=sum_mem (m:=Ob.m) ob _ hmem
   obtain ⟨⟨onm,oti,inn,ott,room,⟨Aw,cw,wl⟩,⟨Aa,ca,al⟩,⟨Af,cf,fol⟩,⟨Ap,cp,prl_⟩,⟨Ax,cx,exl⟩⟩,hy⟩ : ∃ y,ob[j]=y:=⟨_,rfl⟩
   rw [hy] at hc hob hsm
   have HX:=hI (show Lg Xt.e Xt.R top w Ax cx exl from hob.2.2.2.2)
   have HZX:=hI (show (exl.map Xt.m).sum≤1048576 from Nat.le_trans (show (exl.map Xt.m).sum≤Ob.m ⟨onm,oti,inn,ott,room,⟨Aw,cw,wl⟩,⟨Aa,ca,al⟩,⟨Af,cf,fol⟩,⟨Ap,cp,prl_⟩,⟨Ax,cx,exl⟩⟩ by unfold Ob.m;simp only;omega) (Nat.le_trans hsm HZ.out.1))
   have zX : exl.length≤1048576:=Nat.le_trans (sum_len (m:=Xt.m) (fun _=>by unfold Xt.m;omega) exl) HZX.out
   have c0 : wr.cell? ⟨b,o + j * 10,none⟩=some (.string (str onm)):=hc 0 _ rfl
   have c1 : wr.cell? ⟨b,o + j * 10 + 1,none⟩=some (.string (str oti)):=hc 1 _ rfl
   have c2 : wr.cell? ⟨b,o + j * 10 + 2,none⟩=some (.string (str inn)):=hc 2 _ rfl
   have c3 : wr.cell? ⟨b,o + j * 10 + 3,none⟩=some (.string (str ott)):=hc 3 _ rfl
   have c4 : wr.cell? ⟨b,o + j * 10 + 4,none⟩=some (.bool room):=hc 4 _ rfl
   have c5 : wr.cell? ⟨b,o + j * 10 + 5,none⟩=some (.slice Aw wl.length cw):=hc 5 _ rfl
   have c6 : wr.cell? ⟨b,o + j * 10 + 6,none⟩=some (.slice Aa al.length ca):=hc 6 _ rfl
   have c7 : wr.cell? ⟨b,o + j * 10 + 7,none⟩=some (.slice Af fol.length cf):=hc 7 _ rfl
   have c8 : wr.cell? ⟨b,o + j * 10 + 8,none⟩=some (.slice Ap prl_.length cp):=hc 8 _ rfl
   have c9 : wr.cell? ⟨b,o + j * 10 + 9,none⟩=some (.slice Ax exl.length cx):=hc 9 _ rfl
   obtain ⟨w6,hw6⟩ : ∃ W,wr.alloc (.cells #[.string (str onm),.string (str oti),.string (str inn),.string (str ott),.bool room,.slice Aw wl.length cw,.slice Aa al.length ca,.slice Af fol.length cf,.slice Ap prl_.length cp,.slice Ax exl.length cx] 63)=W:=⟨_,rfl⟩
   obtain ⟨m6,s6,b6⟩:=made hw6
   have HB6:=hI (HB.out.trans (b6.mono HB.out.size))
   obtain ⟨pb,hpb⟩ : ∃ q,wr.heap.size=q:=⟨_,rfl⟩
   rw [hpb] at m6
   obtain ⟨z0,z1,z2,z3,z4,z5,z6,z7,z8,z9,zf⟩:=cellz10 m6
   clear hc hy hmem hob hsm m6 s6 b6
   go_wp2_with fail
   clear c0 c1 c2 c3 c4 c5 c6 c7 c8 c9 z0 z1 z2 z3 z4 z5 z6 z7 z8 z9 zf hw6 hpb
   go_loopw [23] (fun iv wr=>∃ i : Nat,i≤exl.length∧iv=.int .i64 (i : Int)∧Below V.heap.size V wr) (fun iv _=>exl.length - (intOf iv).toNat)
   case atStart=>exact ⟨0,Nat.zero_le _,rfl,HB6.out⟩
   case round=>
    obtain ⟨i,hi,rfl,hb⟩:=hrel
    have HBI:=hI hb
    clear hb
    have i0 : (0 : Int)≤(i : Int):=by omega
    by_cases hlt2 : i < exl.length
    ·have i1 : (i : Int) < (exl.length : Int):=by omega
     obtain ⟨b2,o2,rfl,-,hc⟩:=Lg.at_ Xt.len (Lg.keep Xt.stays (Keep.below (HBT.out wr HBI.out)) HX.out) hlt2
     have hmem:=List.getElem_mem hlt2
     have hxr:=HX.out.2 _ hmem
     have hsm:=sum_mem (m:=Xt.m) exl _ hmem
     obtain ⟨⟨dr,to_,els,⟨Ah,ch,whl⟩⟩,hy⟩ : ∃ y,exl[i]=y:=⟨_,rfl⟩
     rw [hy] at hc hxr hsm
     have HW:=hI (show Lg exE RdX top w Ah ch whl from hxr)
     have HZW:=hI (show nEs (exPs whl)≤1048576 from Nat.le_trans (show nEs (exPs whl)≤Xt.m ⟨dr,to_,els,⟨Ah,ch,whl⟩⟩ by unfold Xt.m;simp only;omega) (Nat.le_trans hsm HZX.out))
     have zW : whl.length≤1048576:=by
      have h1:=sum_len (m:=fun x : Ex=>nE x.p) (fun x=>nE_pos x.p) whl
      rw [← nEs_sum] at h1
      exact Nat.le_trans h1 HZW.out
     have c0 : wr.cell? ⟨b2,o2 + i * 4,none⟩=some (.int .i64 dr):=hc 0 _ rfl
     have c1 : wr.cell? ⟨b2,o2 + i * 4 + 1,none⟩=some (.string (str to_)):=hc 1 _ rfl
     have c2 : wr.cell? ⟨b2,o2 + i * 4 + 2,none⟩=some (.string (str els)):=hc 2 _ rfl
     have c3 : wr.cell? ⟨b2,o2 + i * 4 + 3,none⟩=some (.slice Ah whl.length ch):=hc 3 _ rfl
     obtain ⟨w7,hw7⟩ : ∃ W,wr.alloc (.cells #[.int .i64 dr,.string (str to_),.string (str els),.slice Ah whl.length ch] 106)=W:=⟨_,rfl⟩
     obtain ⟨m7,s7,b7⟩:=made hw7
     have HB7:=hI (HBI.out.trans (b7.mono HBI.out.size))
     obtain ⟨pc_,hpc⟩ : ∃ q,wr.heap.size=q:=⟨_,rfl⟩
     rw [hpc] at m7
     obtain ⟨z0,z1,z2,z3,zf⟩:=cellz4 m7
     clear hc hy hmem hxr hsm m7 s7 b7
     go_wp2_with fail
     clear c0 c1 c2 c3 z0 z1 z2 z3 zf hw7 hpc
     go_loopw [30] (fun iv wr=>∃ k : Nat,k≤whl.length∧iv=.int .i64 (k : Int)∧Below V.heap.size V wr) (fun iv _=>whl.length - (intOf iv).toNat)
     case atStart=>exact ⟨0,Nat.zero_le _,rfl,HB7.out⟩
     case round=>
      obtain ⟨k,hk,rfl,hb⟩:=hrel
      have HBK:=hI hb
      clear hb
      have j0 : (0 : Int)≤(k : Int):=by omega
      by_cases hlt3 : k < whl.length
      ·have j1 : (k : Int) < (whl.length : Int):=by omega
       obtain ⟨b3,o3,rfl,-,hc⟩:=Lg.at_ exE_len (Lg.keep stays_x (Keep.below (HBT.out wr HBK.out)) HW.out) hlt3
       have hmem : whl[k] ∈ whl:=List.getElem_mem hlt3
       obtain ⟨⟨ek,ep,en,es,eA,ec,er⟩,hy⟩ : ∃ y,whl[k]=y:=⟨_,rfl⟩
       rw [hy] at hc hmem
       have HME:=hI (And.intro (HW.out.2 _ hmem) (show nE (Ex.mk ek ep en es eA ec er).p≤1048576 by
        have h1:=sum_mem (m:=fun x : Ex=>nE x.p) whl _ hmem
        rw [← nEs_sum] at h1
        have:=HZW.out
        omega))
       have d0 : wr.cell? ⟨b3,o3 + k * 5,none⟩=some (.int .i64 ek):=hc 0 _ rfl
       have d1 : wr.cell? ⟨b3,o3 + k * 5 + 1,none⟩=some (.int .i64 ep):=hc 1 _ rfl
       have d2 : wr.cell? ⟨b3,o3 + k * 5 + 2,none⟩=some (.int .i64 en):=hc 2 _ rfl
       have d3 : wr.cell? ⟨b3,o3 + k * 5 + 3,none⟩=some (.string (str es)):=hc 3 _ rfl
       have d4 : wr.cell? ⟨b3,o3 + k * 5 + 4,none⟩=some (.slice eA er.length ec):=hc 4 _ rfl
       obtain ⟨wb,hwb⟩ : ∃ W1,wr.alloc (.cells #[.int .i64 ek,.int .i64 ep,.int .i64 en,.string (str es),.slice eA er.length ec] 68)=W1:=⟨_,rfl⟩
       obtain ⟨mb,sb,bb⟩:=made hwb
       have HBB:=hI (HBK.out.trans (bb.mono HBK.out.size))
       obtain ⟨pd,hpd⟩ : ∃ q,wr.heap.size=q:=⟨_,rfl⟩
       rw [hpd] at mb
       obtain ⟨v0,v1,v2,v3,v4,vf⟩:=cells5 mb
       clear hc hy hmem mb sb bb
       go_wp2_with fail
       refine (depth_o _ wb (RdX.keep (Keep.below (HBT.out wb HBB.out)) HME.out.1) HME.out.2).mono ?_
       rintro e w4 ⟨rfl,hb⟩
       have HB4:=hI (HBB.out.trans (hb.mono HBB.out.size))
       generalize dE 65 (Ex.mk ek ep en es eA ec er).p=dq
       clear hb d0 d1 d2 d3 d4 v0 v1 v2 v3 v4 vf hwb hpd
       by_cases h31 : (dq : Int) > 31
       ·have q : decide ((dq : Int) > 31)=true:=decide_eq_true h31
        clear h31
        go_wp2_with fail
        go_ret
        exact ⟨_,rfl,HBT.out _ HB4.out⟩
       ·have q : decide ((dq : Int) > 31)=false:=decide_eq_false h31
        clear h31
        go_wp2_with fail
        go_roundw
        case rel=>exact ⟨k + 1,by omega,by go_num,HB4.out⟩
        case measure=>simp [intOf];omega
      ·obtain rfl : k=whl.length:=by omega
       go_wp2_with fail
       go_roundw
       case rel=>exact ⟨i + 1,by omega,by go_num,HBK.out⟩
       case measure=>simp [intOf];omega
    ·obtain rfl : i=exl.length:=by omega
     go_wp2_with fail
     go_roundw
     case rel=>exact ⟨j + 1,by omega,by go_num,HBI.out⟩
     case measure=>simp [intOf];omega
  ·obtain rfl : j=ob.length:=by omega
   obtain ⟨x0,x1,x2,x3,x4,x5,x6,x7,x8,x9,x10,x11,x12,xf⟩:=cellz13 (HO0.out wr HB.out)
   obtain ⟨wg,hwg⟩ : ∃ W,W=wr:=⟨_,rfl⟩
   rw [← hwg] at HB x0 x1 x2 x3 x4 x5 x6 x7 x8 x9 x10 x11 x12 xf ⊢
   clear hwg
   go_wp2_with fail
   clear x0 x1 x2 x3 x4 x5 x6 x7 x8 x9 x10 x11 x12 xf
   go_loopw [43] (fun iv wr=>∃ j : Nat,j≤ru.length∧iv=.int .i64 (j : Int)∧Below V.heap.size V wr) (fun iv _=>ru.length - (intOf iv).toNat)
   case atStart=>exact ⟨0,Nat.zero_le _,rfl,HB.out⟩
   case round=>
    clear HB
    obtain ⟨j,hj,rfl,hb⟩:=hrel
    have HB:=hI hb
    clear hb
    have k0 : (0 : Int)≤(j : Int):=by omega
    by_cases hlt : j < ru.length
    ·have k1 : (j : Int) < (ru.length : Int):=by omega
     obtain ⟨b,o,rfl,-,hc⟩:=Lg.at_ Rl.len (Lg.keep Rl.stays (Keep.below (HBT.out wr HB.out)) HR.out.2) hlt
     have hmem:=List.getElem_mem hlt
     have hxr:=HR.out.2.2 _ hmem
     have hsm:=sum_mem (m:=Rl.m) ru _ hmem
     obtain ⟨⟨rvb,ph,rno,rse,⟨Ah,ch,whl⟩,⟨Ab,cb,bl⟩⟩,hy⟩ : ∃ y,ru[j]=y:=⟨_,rfl⟩
     rw [hy] at hc hxr hsm
     have HW:=hI (show Lg exE RdX top w Ah ch whl from hxr.1)
     have HZW:=hI (show nEs (exPs whl)≤1048576 from Nat.le_trans (show nEs (exPs whl)≤Rl.m ⟨rvb,ph,rno,rse,⟨Ah,ch,whl⟩,⟨Ab,cb,bl⟩⟩ by unfold Rl.m;simp only;omega) (Nat.le_trans hsm HZ.out.2))
     have zW : whl.length≤1048576:=by
      have h1:=sum_len (m:=fun x : Ex=>nE x.p) (fun x=>nE_pos x.p) whl
      rw [← nEs_sum] at h1
      exact Nat.le_trans h1 HZW.out
     have c0 : wr.cell? ⟨b,o + j * 6,none⟩=some (.string (str rvb)):=hc 0 _ rfl
     have c1 : wr.cell? ⟨b,o + j * 6 + 1,none⟩=some (.int .i64 ph):=hc 1 _ rfl
     have c2 : wr.cell? ⟨b,o + j * 6 + 2,none⟩=some (.string (str rno)):=hc 2 _ rfl
     have c3 : wr.cell? ⟨b,o + j * 6 + 3,none⟩=some (.string (str rse)):=hc 3 _ rfl
     have c4 : wr.cell? ⟨b,o + j * 6 + 4,none⟩=some (.slice Ah whl.length ch):=hc 4 _ rfl
     have c5 : wr.cell? ⟨b,o + j * 6 + 5,none⟩=some (.slice Ab bl.length cb):=hc 5 _ rfl
     obtain ⟨w6,hw6⟩ : ∃ W,wr.alloc (.cells #[.string (str rvb),.int .i64 ph,.string (str rno),.string (str rse),.slice Ah whl.length ch,.slice Ab bl.length cb] 52)=W:=⟨_,rfl⟩
     obtain ⟨m6,s6,b6⟩:=made hw6
     have HB6:=hI (HB.out.trans (b6.mono HB.out.size))
     obtain ⟨pb,hpb⟩ : ∃ q,wr.heap.size=q:=⟨_,rfl⟩
     rw [hpb] at m6
     obtain ⟨z0,z1,z2,z3,z4,z5,zf⟩:=cells6 m6
     clear hc hy hmem hxr hsm m6 s6 b6
     go_wp2_with fail
     clear c0 c1 c2 c3 c4 c5 z0 z1 z2 z3 z4 z5 zf hw6 hpb
     go_loopw [50] (fun iv wr=>∃ k : Nat,k≤whl.length∧iv=.int .i64 (k : Int)∧Below V.heap.size V wr) (fun iv _=>whl.length - (intOf iv).toNat)
     case atStart=>exact ⟨0,Nat.zero_le _,rfl,HB6.out⟩
     case round=>
      obtain ⟨k,hk,rfl,hb⟩:=hrel
      have HBK:=hI hb
      clear hb
      have j0 : (0 : Int)≤(k : Int):=by omega
      by_cases hlt3 : k < whl.length
      ·have j1 : (k : Int) < (whl.length : Int):=by omega
       obtain ⟨b3,o3,rfl,-,hc⟩:=Lg.at_ exE_len (Lg.keep stays_x (Keep.below (HBT.out wr HBK.out)) HW.out) hlt3
       have hmem : whl[k] ∈ whl:=List.getElem_mem hlt3
       obtain ⟨⟨ek,ep,en,es,eA,ec,er⟩,hy⟩ : ∃ y,whl[k]=y:=⟨_,rfl⟩
       rw [hy] at hc hmem
       have HME:=hI (And.intro (HW.out.2 _ hmem) (show nE (Ex.mk ek ep en es eA ec er).p≤1048576 by
        have h1:=sum_mem (m:=fun x : Ex=>nE x.p) whl _ hmem
        rw [← nEs_sum] at h1
        have:=HZW.out
        omega))
       have d0 : wr.cell? ⟨b3,o3 + k * 5,none⟩=some (.int .i64 ek):=hc 0 _ rfl
       have d1 : wr.cell? ⟨b3,o3 + k * 5 + 1,none⟩=some (.int .i64 ep):=hc 1 _ rfl
       have d2 : wr.cell? ⟨b3,o3 + k * 5 + 2,none⟩=some (.int .i64 en):=hc 2 _ rfl
       have d3 : wr.cell? ⟨b3,o3 + k * 5 + 3,none⟩=some (.string (str es)):=hc 3 _ rfl
       have d4 : wr.cell? ⟨b3,o3 + k * 5 + 4,none⟩=some (.slice eA er.length ec):=hc 4 _ rfl
       obtain ⟨wb,hwb⟩ : ∃ W1,wr.alloc (.cells #[.int .i64 ek,.int .i64 ep,.int .i64 en,.string (str es),.slice eA er.length ec] 68)=W1:=⟨_,rfl⟩
       obtain ⟨mb,sb,bb⟩:=made hwb
       have HBB:=hI (HBK.out.trans (bb.mono HBK.out.size))
       obtain ⟨pd,hpd⟩ : ∃ q,wr.heap.size=q:=⟨_,rfl⟩
       rw [hpd] at mb
       obtain ⟨v0,v1,v2,v3,v4,vf⟩:=cells5 mb
       clear hc hy hmem mb sb bb
       go_wp2_with fail
       refine (depth_o _ wb (RdX.keep (Keep.below (HBT.out wb HBB.out)) HME.out.1) HME.out.2).mono ?_
       rintro e w4 ⟨rfl,hb⟩
       have HB4:=hI (HBB.out.trans (hb.mono HBB.out.size))
       generalize dE 65 (Ex.mk ek ep en es eA ec er).p=dq
       clear hb d0 d1 d2 d3 d4 v0 v1 v2 v3 v4 vf hwb hpd
       by_cases h31 : (dq : Int) > 31
       ·have q : decide ((dq : Int) > 31)=true:=decide_eq_true h31
        clear h31
        go_wp2_with fail
        go_ret
        exact ⟨_,rfl,HBT.out _ HB4.out⟩
       ·have q : decide ((dq : Int) > 31)=false:=decide_eq_false h31
        clear h31
        go_wp2_with fail
        go_roundw
        case rel=>exact ⟨k + 1,by omega,by go_num,HB4.out⟩
        case measure=>simp [intOf];omega
      ·obtain rfl : k=whl.length:=by omega
       go_wp2_with fail
       go_roundw
       case rel=>exact ⟨j + 1,by omega,by go_num,HBK.out⟩
       case measure=>simp [intOf];omega
    ·obtain rfl : j=ru.length:=by omega
     go_wp2_with fail
     go_ret
     exact ⟨_,rfl,HBT.out _ HB.out⟩
end Go.Proofs.YteibcfpepdbflaaGreat.BoS
namespace Go.Proofs.YteibcfpepdbflaaGreat.CkD
open Go Go.RowKit BindP BindD BindO BindW BindN BindG BindX BindB BindS BindK BindT BindV BindL RtX
open Byt (str)
mutual
def cnt1 : Ps→Nat
 | .mk _ _ _ _ b e=>1 + cnt b + cnt e
def cnt : List Ps→Nat
 | []=>0
 | a :: l=>cnt1 a + cnt l
end
theorem cnt_app : ∀ (l1 l2 : List Ps),cnt (l1 ++ l2)=cnt l1 + cnt l2
 | [],l2=>by simp [cnt]
 | a :: l1,l2=>by simp only [List.cons_append,cnt,cnt_app l1 l2,Nat.add_assoc]
theorem cnt_take {l : List St} {j : Nat} (h : j < l.length) : cnt (stPs (l.take (j + 1)))=cnt (stPs (l.take j)) + cnt1 l[j].p:=by
 rw [List.take_succ_eq_append_getElem h,stPs_app,cnt_app]
 simp only [stPs,cnt,Nat.add_zero]
mutual
theorem cnt1_le : ∀ p : Ps,cnt1 p≤nS p
 | .mk _ _ _ _ b e=>by
  have h1:=cnt_le b
  have h2:=cnt_le e
  unfold cnt1 nS
  omega
theorem cnt_le : ∀ l : List Ps,cnt l≤nB l
 | []=>by simp [cnt]
 | a :: l=>by
  have h1:=cnt1_le a
  have h2:=cnt_le l
  unfold cnt nB
  omega
end
def SizC (l : List St) : Prop:=∀ (A : Option Addr) (c : Nat) (w : World),Ls top w A c l→Calls Tryz.prog 13 #[.slice A l.length c] w fun e w'=>e=.returned (.int .i64 (cnt (stPs l) : Int))∧Below w.heap.size w w'
set_option maxRecDepth 100000 in
set_option maxHeartbeats 8000000 in
theorem size_r : ∀ (N : Nat) (l : List St),nB (stPs l)≤N→nB (stPs l)≤1048576→SizC l:=by
 intro N
 induction N using Nat.strongRecOn with
 | _ N ihN=>
  intro l hlN hnB A c w hl
  have HL:=hI hl
  have HIH:=hI (show ∀ l' : List St,nB (stPs l') < N∧nB (stPs l')≤1048576→SizC l' from fun l' h=>ihN _ h.1 l' (Nat.le_refl _) h.2)
  have hll : l.length≤1048576:=by
   have h1:=sum_len (m:=fun x : St=>nS x.p) (fun x=>by cases x;unfold St.p nS;omega) l
   rw [← nB_sum] at h1
   omega
  have HTOT:=hI (show ∀ j,cnt (stPs (l.take j))≤nB (stPs l) from fun j=>by
   have h1:=cnt_le (stPs (l.take j))
   have e : l=l.take j ++ l.drop j:=(List.take_append_drop _ _).symm
   have h2 : nB (stPs l)=nB (stPs (l.take j)) + nB (stPs (l.drop j)):=by rw [← nB_app,← stPs_app,← e]
   omega)
  obtain ⟨m,hm⟩ : ∃ m,l.length=m:=⟨_,rfl⟩
  have HM:=hI hm
  have HNN:=hI (And.intro hlN hnB)
  rw [hm] at hll ⊢
  clear hm ihN hlN hl hnB
  go_enter Tryz.func13,Tryz.ntmps13
  go_wp2_with fail
  go_loopw [3,8] (fun nv iv wr=>∃ (j z : Nat),j≤m∧nv=.int .i64 (z : Int)∧iv=.int .i64 (j : Int)∧Hid (cnt (stPs (l.take j))=z)∧Below w.heap.size w wr) (fun _ iv _=>m - (intOf iv).toNat)
  case atStart=>exact ⟨0,0,Nat.zero_le _,rfl,rfl,hI (by simp [stPs,cnt]),Below.refl _ _⟩
  case round=>
   obtain ⟨j,n0,hj,rfl,rfl,HQ,hb⟩:=hrel
   have HB:=hI hb
   clear hb
   by_cases hlt : j < m
   ·have hjl : j < l.length:=by rw [HM.out];exact hlt
    obtain ⟨b_,o_,rfl,hbl,hc⟩:=Lg.at_ stE_len HL.out hjl
    obtain ⟨⟨k,n,s,Aa,ca,ar,Ab,cb,b,Ae,ce,e⟩,hy⟩ : ∃ y,l[j]=y:=⟨_,rfl⟩
    have hmem : l[j] ∈ l:=List.getElem_mem hjl
    have htk:=take_nB hjl
    have hlk:=cnt_take hjl
    have hbd:=HTOT.out (j + 1)
    rw [hy] at hc hmem htk hlk
    have HOP:=hI ((HL.out.2 _ hmem).open_)
    have hcell : ∀ U,Below w.heap.size w U→∀ p,U.cell? ⟨b_,p,none⟩=w.cell? ⟨b_,p,none⟩:=fun U hU p=>hU.cell (p:=⟨b_,p,none⟩) hbl
    have c0 : wr.cell? ⟨b_,o_ + j * 6,none⟩=some (.int .i64 k):=(hcell wr HB.out _).trans (hc 0 _ rfl)
    have c1 : wr.cell? ⟨b_,o_ + j * 6 + 1,none⟩=some (.int .i64 n):=(hcell wr HB.out _).trans (hc 1 _ rfl)
    have c2 : wr.cell? ⟨b_,o_ + j * 6 + 2,none⟩=some (.string (str s)):=(hcell wr HB.out _).trans (hc 2 _ rfl)
    have c3 : wr.cell? ⟨b_,o_ + j * 6 + 3,none⟩=some (.slice Aa ar.length ca):=(hcell wr HB.out _).trans (hc 3 _ rfl)
    have c4 : wr.cell? ⟨b_,o_ + j * 6 + 4,none⟩=some (.slice Ab b.length cb):=(hcell wr HB.out _).trans (hc 4 _ rfl)
    have c5 : wr.cell? ⟨b_,o_ + j * 6 + 5,none⟩=some (.slice Ae e.length ce):=(hcell wr HB.out _).trans (hc 5 _ rfl)
    have k0 : (0 : Int)≤(j : Int):=by omega
    have k1 : (j : Int) < (m : Int):=by omega
    unfold St.p nS at htk
    unfold St.p cnt1 at hlk
    have hnn:=HNN.out
    have HZ:=hI (show (nB (stPs b) < N∧nB (stPs b)≤1048576)∧(nB (stPs e) < N∧nB (stPs e)≤1048576) by omega)
    obtain ⟨lb,hlb⟩ : ∃ x,cnt (stPs b)=x:=⟨_,rfl⟩
    obtain ⟨le,hle⟩ : ∃ x,cnt (stPs e)=x:=⟨_,rfl⟩
    have HLB:=hI (And.intro hlb hle)
    have hq:=HQ.out
    have HNX:=hI hlk
    rw [hlk,hq,hlb,hle] at hbd
    have hbd2 : n0 + (1 + lb + le)≤1048576:=by omega
    clear hc hy hmem htk hlk hcell hjl hlb hle hq hnn hbd
    go_upto_region 5 with fail
    clear c0 c1 c2 c3 c4 c5
    obtain ⟨wa,hwa⟩ : ∃ W1,wr.alloc (.cells #[.int .i64 k,.int .i64 n,.string (str s),.slice Aa ar.length ca,.slice Ab b.length cb,.slice Ae e.length ce] 65)=W1:=⟨_,rfl⟩
    rw [hwa]
    obtain ⟨m2,s2,b2'⟩:=made hwa
    have HBA:=hI (HB.out.trans (b2'.mono HB.out.size))
    obtain ⟨pb,hpb⟩ : ∃ q,wr.heap.size=q:=⟨_,rfl⟩
    rw [hpb] at m2 ⊢
    have HSB:=hI (show ∀ U,Below wa.heap.size wa U→U.cell? ⟨pb,4,none⟩=some (.slice Ab b.length cb)∧U.cell? ⟨pb,5,none⟩=some (.slice Ae e.length ce) from fun U hU=>by
     have h9:=cells6 ((hU.block _ (Array.getElem?_eq_some_iff.1 m2).1).trans m2)
     exact ⟨h9.2.2.2.2.1,h9.2.2.2.2.2.1⟩)
    clear m2 s2 b2' hwa hpb
    have zw1 : IntKind.i64.wrap (1 + (lb : Int))=1 + (lb : Int):=by rw [IntKind.wrap_i64];omega
    have zw2 : IntKind.i64.wrap (1 + (lb : Int) + (le : Int))=1 + (lb : Int) + (le : Int):=by rw [IntKind.wrap_i64];omega
    have zw3 : IntKind.i64.wrap ((n0 : Int) + (1 + (lb : Int) + (le : Int)))=(n0 : Int) + (1 + (lb : Int) + (le : Int)):=by rw [IntKind.wrap_i64];omega
    have hS0 : wa.drew.cell? ⟨pb,4,none⟩=some (.slice Ab b.length cb)∧wa.drew.cell? ⟨pb,5,none⟩=some (.slice Ae e.length ce):=HSB.out _ (Below.drew (Below.refl _ _))
    refine RgD.begin_ [] (fun U=>U.cell? ⟨pb,4,none⟩=some (.slice Ab b.length cb)∧U.cell? ⟨pb,5,none⟩=some (.slice Ae e.length ce)) (by kernel_rfl) hS0 (fun hHeld=>?_)
    refine tK 0 12 (v:=.int .i64 (n0 : Int)) (h:=?_)
    simp only [zA,zB,zC]
    refine tK 1 13 (h:=?_)
    simp only [zA,zB,zC]
    refine tK 2 14 (v:=.slice Ab b.length cb) (hy:=by intro w0 hSw;have z4:=hSw.1;first | (go_simp;done) | (go_simp;with_reducible rfl) | (go_simp;intro hc;exfalso;omega)) (h:=?_)
    simp only [zA,zB,zC]
    refine tK 5 17 (h:=?_)
    simp only [zA,zB,zC]
    refine tK 6 18 (v:=.slice Ae e.length ce) (hy:=by intro w0 hSw;have z5:=hSw.2;first | (go_simp;done) | (go_simp;with_reducible rfl) | (go_simp;intro hc;exfalso;omega)) (h:=?_)
    simp only [zA,zB,zC]
    refine RgD.one (i:=3) (by kernel_rfl) ?_
    refine RgD.call (i:=3) (t:=15) rfl rfl (by rfl) (by go_simp;exact ⟨rfl,rfl⟩) ?_
    refine (HIH.out b HZ.out.1 Ab cb wa.drew (Lg.keep stays_s (Keep.below (Below.drew HBA.out)) HOP.out.2.1)).mono ?_
    rintro r w2 ⟨rfl,hb⟩
    rw [HLB.out.1]
    have HB2:=hI ((Below.drew (Below.refl _ wa)).trans (hb.mono (Nat.le_refl _)))
    have gS2:=HSB.out _ HB2.out
    clear hb
    refine ⟨_,rfl,gS2,?_⟩
    simp only [zA,zB,zC]
    refine tK 4 16 (v:=.int .i64 (1 + (lb : Int))) (h:=?_)
    simp only [zA,zB,zC]
    refine RgD.one (i:=7) (by kernel_rfl) ?_
    refine RgD.call (i:=7) (t:=19) rfl rfl (by rfl) (by go_simp;exact ⟨rfl,rfl⟩) ?_
    refine (HIH.out e HZ.out.2 Ae ce w2 (Lg.keep stays_s (Keep.below (HBA.out.trans (HB2.out.mono HBA.out.size))) HOP.out.2.2)).mono ?_
    rintro r w3 ⟨rfl,hb⟩
    rw [HLB.out.2]
    have HB3:=hI (HB2.out.trans (hb.mono HB2.out.size))
    have gS3:=HSB.out _ HB3.out
    clear hb
    refine ⟨_,rfl,gS3,?_⟩
    simp only [zA,zB,zC]
    refine tK 8 20 (v:=.int .i64 (1 + (lb : Int) + (le : Int))) (h:=?_)
    simp only [zA,zB,zC]
    refine tK 9 21 (v:=.int .i64 ((n0 : Int) + (1 + (lb : Int) + (le : Int)))) (h:=?_)
    simp only [zA,zB,zC]
    refine tK 10 3 (v:=.int .i64 ((n0 : Int) + (1 + (lb : Int) + (le : Int)))) (h:=?_)
    simp only [zA,zB,zC]
    refine RgD.done (by kernel_rfl) ?_ _
    clear gS2 gS3 hS0
    go_wp2_with fail
    go_roundw
    case rel=>exact ⟨j + 1,n0 + (1 + lb + le),by omega,by go_num,by go_num,hI (by have h0:=HNX.out;have h1:=HQ.out;have h2:=HLB.out;omega),HBA.out.trans (HB3.out.mono HBA.out.size)⟩
    case measure=>simp [intOf];omega
   ·obtain rfl : m=j:=by omega
    have HTK:=hI (show l.take m=l from List.take_of_length_le (by rw [HM.out];exact Nat.le_refl _))
    go_wp2_with fail
    go_ret
    have h:=HQ.out
    rw [HTK.out] at h
    exact ⟨by rw [h] <;> rfl,HB.out⟩
end Go.Proofs.YteibcfpepdbflaaGreat.CkD
