/- clewref16.Check: a source's first fault; none: what that says. Conditions: the source is of bulk at most 1048576. -/
import Derived.Test.YteibcfpepdbflaaGreatCkI
import Derived.Test.YteibcfpepdbflaaGreatCkJ
import Derived.Test.YteibcfpepdbflaaGreatCkK
open Go.Lib renaming hid → hI
open Go.Proofs.YteibcfpepdbflaaGreat.RgD renaming tk → tK, sA → zA, s0 → zB, s1 → zC
namespace Go.Proofs.YteibcfpepdbflaaGreat.CkM
open Go Go.RowKit BindP BindD BindO BindW BindG BindX BindB BindT BindU TxA RtS RtX RtY RtD CkP CkA CkB CkC CkE CkF CkG CkH CkI CkJ CkK
open Byt (str)
theorem set4 {w : World} {g : Nat} {x0 x1 x2 x3 y0 y1 y2 y3 : Value} {t : TypeId} (h : w.heap[g]?=some (.cells #[x0,x1,x2,x3] t (0,0))) : ((((w.setCell ⟨g,0,none⟩ y0).setCell ⟨g,1,none⟩ y1).setCell ⟨g,2,none⟩ y2).setCell ⟨g,3,none⟩ y3).heap[g]?=some (.cells #[y0,y1,y2,y3] t (0,0)):=by
 simp [World.setCell,Array.getElem?_modify,h]
theorem set4_below {w0 w : World} {B g : Nat} {y0 y1 y2 y3 : Value} (h : Below B w0 w) (hg : B≤g) : Below B w0 ((((w.setCell ⟨g,0,none⟩ y0).setCell ⟨g,1,none⟩ y1).setCell ⟨g,2,none⟩ y2).setCell ⟨g,3,none⟩ y3):=
 (((h.setCell (p:=⟨g,0,none⟩) hg _).setCell (p:=⟨g,1,none⟩) hg _).setCell (p:=⟨g,2,none⟩) hg _).setCell (p:=⟨g,3,none⟩) hg _
theorem ret_f (p : Tmp) (g : Nat) (y0 y1 y2 y3 : Value) {fn : Func} {Q : Ending→World→Prop} {a : Act} {w : World} (hg : w.heap[g]?=some (.cells #[y0,y1,y2,y3] 55 (0,0)))
  (h : fn.results=#[.cell p 55]) (hp : a.tmps.getD p undef=.pointer (some ⟨g,0,none⟩)) (hdf : a.defers=[]) (hq : Q (.returned (.agg #[y0,y1,y2,y3])) w) : bodyPost Tryz.prog fn Q .ret a w:=
 ret_c (d:=_) (cs:=#[y0,y1,y2,y3]) (t':=55) (fr:=(0,0)) hg h hp Tryz.underlying55 rfl (by kernel_rfl) hdf hq
set_option maxRecDepth 100000 in
theorem fault_r (er pa nu : Int) (s : S) (w : World) : Calls Tryz.prog 59 #[.agg #[.int .i64 er,.string (str s)],.int .i64 pa,.int .i64 nu] w fun e w'=>e=.returned (.agg #[.int .i64 er,.int .i64 pa,.int .i64 nu,.string (str s)])∧Below w.heap.size w w':=by
 go_enter Tryz.func59,Tryz.ntmps59
 obtain ⟨V1,hV1⟩ : ∃ W,w.alloc (.cells #[.int .i64 er,.string (str s)] 125)=W:=⟨_,rfl⟩
 obtain ⟨V,hV⟩ : ∃ W,V1.alloc (.cells #[.int .i64 0,.int .i64 0,.int .i64 0,.string ⟨#[]⟩] 55)=W:=⟨_,rfl⟩
 obtain ⟨m1,s1,b1⟩:=made hV1
 obtain ⟨m2,s2,b2⟩:=made hV
 have HM:=hI m2
 have HB:=hI (b1.trans (b2.mono b1.size))
 have HP:=hI (show w.heap.size≤V1.heap.size by omega)
 obtain ⟨f0,f1,ff⟩:=cells2 ((b2.block w.heap.size (by omega)).trans m1)
 obtain ⟨r0,r1,r2,r3,rf⟩:=cellz4 m2
 obtain ⟨p1,hp1⟩ : ∃ p,V1.heap.size=p:=⟨_,rfl⟩
 rw [hp1] at HM HP r0 r1 r2 r3 rf
 clear m1 m2 s1 s2 b1 b2
 obtain ⟨X,hX⟩ : ∃ X,(((V.setCell ⟨p1,0,none⟩ (.int .i64 er)).setCell ⟨p1,1,none⟩ (.int .i64 pa)).setCell ⟨p1,2,none⟩ (.int .i64 nu)).setCell ⟨p1,3,none⟩ (.string (str s))=X:=⟨_,rfl⟩
 have HX:=hI (show X.heap[p1]?=some (.cells #[.int .i64 er,.int .i64 pa,.int .i64 nu,.string (str s)] 55 (0,0)) by rw [← hX];exact set4 HM.out)
 have HXB:=hI (show Below w.heap.size w X by rw [← hX];exact set4_below HB.out HP.out)
 go_wp2_with ((with_reducible refine ret_f 6 p1 (.int .i64 er) (.int .i64 pa) (.int .i64 nu) (.string (str s)) ?_ ?_ ?_ ?_ ?_);exact HX.out;rfl;rfl;rfl;exact ⟨rfl,HXB.out⟩)
def CkV (p : Prop) (w : World) (e : Ending) (w' : World) : Prop:=∃ (er pa nu : Int) (s : S),e=.returned (.agg #[.int .i64 er,.int .i64 pa,.int .i64 nu,.string (str s)])∧(er=0→pa=0∧nu=0∧s=[]∧p)∧Below w.heap.size w w'
def SoC (t : List Nm) (s : So) : Prop:=(∀ o ∈ s.ob.l,ObC t (pars s.fn.l) o)∧(∀ r ∈ s.ru.l,whenC t (pars s.fn.l) r.wh.l∧ckB t (pars s.fn.l) [] 0 (stPs r.body.l))∧(∀ f ∈ s.fn.l,ckB t (pars s.fn.l) f.ps.l 0 (stPs f.body.l))∧∀ f ∈ s.dm.l,ckB t (pars s.fn.l) [] 0 (stPs f.body.l)
set_option maxRecDepth 100000 in
set_option maxHeartbeats 64000000 in
theorem check_c (t : List Nm) (so : So) (A1 : Option Addr) (n1 c1 : Nat) (w : World) (hr : So.R top w so) (hz : So.m so≤1048576) (ht : Sk.Rd nmE w A1 n1 t) (hn1 : n1≤17592186043904) (hnb : ∀ k s,0≤ofN t k s∧ofN t k s≤2097152) :
  Calls Tryz.prog 16 #[.agg (So.e so).toArray,.slice A1 n1 c1] w (CkV (SoC t so) w):=by
 obtain ⟨CX,hCX⟩ : ∃ p,p=SoC t so:=⟨_,rfl⟩
 have HCX:=hI hCX
 rw [← hCX]
 clear hCX
 obtain ⟨ti,by_,st,re,mx,⟨fA,fc,fl⟩,⟨pA,pc,pr⟩,⟨gA,gc,gl⟩,⟨oA,oc,ob⟩,⟨vA,vc,vb⟩,⟨rA,rc,ru⟩,⟨nA,nc,fn⟩,⟨dA,dc,dm⟩⟩:=so
 have HZ:=hI (show (ob.map Ob.m).sum≤1048576∧(vb.map Vb.m).sum≤1048576∧(ru.map Rl.m).sum≤1048576∧(fn.map BindO.Fn.m).sum≤1048576∧(dm.map BindO.Fn.m).sum≤1048576 by unfold So.m at hz;simp only at hz;omega)
 have zO : ob.length≤1048576:=Nat.le_trans (sum_len (m:=Ob.m) (fun _=>by unfold Ob.m;omega) ob) HZ.out.1
 have zV : vb.length≤1048576:=Nat.le_trans (sum_len (m:=Vb.m) (fun _=>by unfold Vb.m;omega) vb) HZ.out.2.1
 have zR : ru.length≤1048576:=Nat.le_trans (sum_len (m:=Rl.m) (fun _=>by unfold Rl.m;omega) ru) HZ.out.2.2.1
 have zN : fn.length≤1048576:=Nat.le_trans (sum_len (m:=BindO.Fn.m) (fun _=>by unfold BindO.Fn.m;omega) fn) HZ.out.2.2.2.1
 have zD : dm.length≤1048576:=Nat.le_trans (sum_len (m:=BindO.Fn.m) (fun _=>by unfold BindO.Fn.m;omega) dm) HZ.out.2.2.2.2
 have HR:=hI (show Lg Ob.e Ob.R top w oA oc ob∧Lg Vb.e Vb.R top w vA vc vb∧Lg Rl.e Rl.R top w rA rc ru∧Lg BindO.Fn.e BindO.Fn.R top w nA nc fn∧Lg BindO.Fn.e BindO.Fn.R top w dA dc dm from hr.2.2.2)
 have HC:=hI (show Cw w A1 n1 t oA oc ob nA nc fn from ⟨⟨ht,hn1,HR.out.2.2.2.1,zN⟩,HR.out.1,HZ.out.1,hnb⟩)
 clear hr hz ht hnb
 show Calls Tryz.prog 16 #[.agg #[.string (str ti),.string (str by_),.string (str st),.int .i64 re,.int .i64 mx,.slice fA fl.length fc,.slice pA pr.length pc,.slice gA gl.length gc,.slice oA ob.length oc,.slice vA vb.length vc,.slice rA ru.length rc,.slice nA fn.length nc,.slice dA dm.length dc],.slice A1 n1 c1] w _
 obtain ⟨V1,hV1⟩ : ∃ W,w.alloc (.cells #[.string (str ti),.string (str by_),.string (str st),.int .i64 re,.int .i64 mx,.slice fA fl.length fc,.slice pA pr.length pc,.slice gA gl.length gc,.slice oA ob.length oc,.slice vA vb.length vc,.slice rA ru.length rc,.slice nA fn.length nc,.slice dA dm.length dc] 29)=W:=⟨_,rfl⟩
 obtain ⟨V,hV⟩ : ∃ W,V1.alloc (.cells #[.int .i64 0,.int .i64 0,.int .i64 0,.string ⟨#[]⟩] 55)=W:=⟨_,rfl⟩
 obtain ⟨m1,s1,b1⟩:=made hV1
 obtain ⟨m2,s2,b2⟩:=made hV
 have m1':=(b2.block w.heap.size (by omega)).trans m1
 have HO0:=hI (show ∀ U,Below V.heap.size V U→U.heap[w.heap.size]?=some (.cells #[.string (str ti),.string (str by_),.string (str st),.int .i64 re,.int .i64 mx,.slice fA fl.length fc,.slice pA pr.length pc,.slice gA gl.length gc,.slice oA ob.length oc,.slice vA vb.length vc,.slice rA ru.length rc,.slice nA fn.length nc,.slice dA dm.length dc] 29 (0,0)) from fun U h=>(h.block _ (Array.getElem?_eq_some_iff.1 m1').1).trans m1')
 have HO1:=hI (show ∀ U,Below V.heap.size V U→U.heap[V1.heap.size]?=some (.cells #[.int .i64 0,.int .i64 0,.int .i64 0,.string ⟨#[]⟩] 55 (0,0)) from fun U h=>(h.block _ (Array.getElem?_eq_some_iff.1 m2).1).trans m2)
 have HBV:=hI (b1.trans (b2.mono b1.size))
 have HPL:=hI (show w.heap.size≤V1.heap.size by omega)
 have HBT:=hI (show ∀ U,Below V.heap.size V U→Below w.heap.size w U from fun U h=>HBV.out.trans (h.mono HBV.out.size))
 obtain ⟨p0,hp0⟩ : ∃ p,w.heap.size=p:=⟨_,rfl⟩
 obtain ⟨p1,hp1⟩ : ∃ p,V1.heap.size=p:=⟨_,rfl⟩
 rw [hp0] at HO0
 rw [hp1] at HO1 HPL
 clear m1' m1 m2 s1 s2 b1 b2
 obtain ⟨x0,x1,x2,x3,x4,x5,x6,x7,x8,x9,x10,x11,x12,xf⟩:=cellz13 (HO0.out V (Below.refl _ _))
 go_enter Tryz.func16,Tryz.ntmps16
 go_wp2_with fail
 clear hV1 hV hp0 hp1
 refine (room_c t A1 oA nA n1 c1 oc nc ob fn (.string (str ti)) (.string (str by_)) (.string (str st)) (.int .i64 re) (.int .i64 mx) (.slice fA fl.length fc) (.slice pA pr.length pc) (.slice gA gl.length gc) (.slice vA vb.length vc) (.slice rA ru.length rc) (.slice dA dm.length dc) st V (HC.out.below HBV.out)).mono ?_
 rintro e w5 ⟨er5,s5,rfl,hp,hb⟩
 have HP5:=hI hp
 obtain ⟨V5,hV5⟩ : ∃ W,w5.alloc (.cells #[.int .i64 er5,.string (str s5)] 125)=W:=⟨_,rfl⟩
 obtain ⟨m5,z5,b5⟩:=made hV5
 have HB5:=hI ((Below.refl V.heap.size V).trans ((hb.trans (b5.mono hb.size)).mono (Below.refl V.heap.size V).size))
 obtain ⟨g0,g1,gf⟩:=cells2 m5
 clear hp hb m5 z5 b5 x0 x1 x2 x3 x4 x5 x6 x7 x8 x9 x10 x11 x12 xf
 by_cases he0 : er5=0
 ·have qe : (er5 != 0)=false:=by simp [he0]
  have HE:=hI (HP5.out he0)
  clear he0
  go_upto_block 0 with fail
  clear g0 g1 gf
  go_cut [4] (fun v wx=>v=.pointer (some ⟨p1,0,none⟩)∧Hid (∀ o ∈ ob,ObC t (pars fn) o)∧Below V.heap.size V wx)
  case first=>
   go_wp2_with fail
   go_loopw [6] (fun iv wr=>∃ j : Nat,j≤ob.length∧iv=.int .i64 (j : Int)∧Hid (∀ o ∈ ob.take j,ObC t (pars fn) o)∧Below V.heap.size V wr) (fun iv _=>ob.length - (intOf iv).toNat)
   case atStart=>exact ⟨0,Nat.zero_le _,rfl,hI (by simp),HB5.out⟩
   case round=>
    obtain ⟨j,hj,rfl,HQ,hb⟩:=hrel
    have HB:=hI hb
    clear hb
    obtain ⟨x0,x1,x2,x3,x4,x5,x6,x7,x8,x9,x10,x11,x12,xf⟩:=cellz13 (HO0.out wr HB.out)
    have k0 : (0 : Int)≤(j : Int):=by omega
    by_cases hlt : j < ob.length
    ·have k1 : (j : Int) < (ob.length : Int):=by omega
     obtain ⟨y,hy⟩ : ∃ y,ob[j]=y:=⟨_,rfl⟩
     have HTK:=hI (show ob.take (j + 1)=ob.take j ++ [y] by rw [List.take_succ_eq_append_getElem hlt,hy])
     have hmem : ob[j] ∈ ob:=List.getElem_mem hlt
     rw [hy] at hmem
     have HOC:=hI (object_c t A1 oA nA n1 c1 oc nc ob fn (.string (str ti)) (.string (str by_)) (.string (str st)) (.int .i64 re) (.int .i64 mx) (.slice fA fl.length fc) (.slice pA pr.length pc) (.slice gA gl.length gc) (.slice vA vb.length vc) (.slice rA ru.length rc) (.slice dA dm.length dc) j wr (HC.out.below (HBT.out wr HB.out)) hlt)
     rw [hy] at HOC
     clear hmem hy
     go_wp2_with fail
     refine HOC.out.mono ?_
     rintro e w7 ⟨er7,s7,rfl,hp,hb⟩
     have HP7:=hI hp
     obtain ⟨V7,hV7⟩ : ∃ W,w7.alloc (.cells #[.int .i64 er7,.string (str s7)] 125)=W:=⟨_,rfl⟩
     obtain ⟨m7,z7,b7⟩:=made hV7
     have HB7:=hI ((HB.out).trans ((hb.trans (b7.mono hb.size)).mono (HB.out).size))
     obtain ⟨g0,g1,gf⟩:=cells2 m7
     clear hp hb m7 z7 b7 x0 x1 x2 x3 x4 x5 x6 x7 x8 x9 x10 x11 x12 xf
     by_cases he0 : er7=0
     ·have qe : (er7 != 0)=false:=by simp [he0]
      have HE:=hI (HP7.out he0)
      clear he0
      go_wp2_with fail
      go_roundw
      case rel=>exact ⟨j + 1,by omega,by go_num,hI (by intro x hx;rw [HTK.out] at hx;rcases List.mem_append.1 hx with hx | hx;exact HQ.out x hx;rw [List.mem_singleton] at hx;subst hx;exact HE.out),HB7.out⟩
      case measure=>simp [intOf];omega
     ·have qe : (er7 != 0)=true:=by simp [he0]
      have HN:=hI he0
      clear he0
      go_wp2_with fail
      refine (fault_r er7 5 (j : Int) s7 V7).mono ?_
      rintro e w6 ⟨rfl,hb⟩
      have HB6:=hI ((HB7.out).trans (hb.mono (HB7.out).size))
      clear hb
      obtain ⟨r0,r1,r2,r3,rf⟩:=cellz4 (HO1.out w6 (HB6.out))
      obtain ⟨X,hX⟩ : ∃ X,(((w6.setCell ⟨p1,0,none⟩ (.int .i64 er7)).setCell ⟨p1,1,none⟩ (.int .i64 5)).setCell ⟨p1,2,none⟩ (.int .i64 (j : Int))).setCell ⟨p1,3,none⟩ (.string (str s7))=X:=⟨_,rfl⟩
      have HX:=hI (show X.heap[p1]?=some (.cells #[.int .i64 er7,.int .i64 5,.int .i64 (j : Int),.string (str s7)] 55 (0,0)) by rw [← hX];exact set4 (HO1.out w6 (HB6.out)))
      have HXB:=hI (show Below w.heap.size w X by rw [← hX];exact set4_below (HBT.out _ (HB6.out)) HPL.out)
      go_wp2_with ((with_reducible refine ret_f 4 p1 (.int .i64 er7) (.int .i64 5) (.int .i64 (j : Int)) (.string (str s7)) ?_ ?_ ?_ ?_ ?_);exact HX.out;rfl;rfl;rfl;exact ⟨er7,5,(j : Int),s7,rfl,(fun h=>absurd h HN.out),HXB.out⟩)
    ·have hjm : j=ob.length:=by omega
     have HTK:=hI (show ob.take j=ob from by rw [hjm];exact List.take_length ..)
     go_wp2_with fail
     go_meet
     exact ⟨rfl,hI (by have h:=HQ.out;rw [HTK.out] at h;exact h),HB.out⟩
  case rest=>
   obtain ⟨rfl,HQ0,hb⟩:=hcut
   have HB:=hI hb
   clear hb
   obtain ⟨wd,hwd⟩ : ∃ W,W=wc:=⟨_,rfl⟩
   rw [← hwd] at HB ⊢
   clear hwd
   obtain ⟨x0,x1,x2,x3,x4,x5,x6,x7,x8,x9,x10,x11,x12,xf⟩:=cellz13 (HO0.out wd HB.out)
   go_upto_block 2 with fail
   go_cut [4] (fun v wx=>v=.pointer (some ⟨p1,0,none⟩)∧Hid (True)∧Below V.heap.size V wx)
   case first=>
    go_wp2_with fail
    go_loopw [8] (fun iv wr=>∃ j : Nat,j≤vb.length∧iv=.int .i64 (j : Int)∧Hid (True)∧Below V.heap.size V wr) (fun iv _=>vb.length - (intOf iv).toNat)
    case atStart=>exact ⟨0,Nat.zero_le _,rfl,hI (by simp),HB.out⟩
    case round=>
     obtain ⟨j,hj,rfl,HQ,hb⟩:=hrel
     have HB:=hI hb
     clear hb x0 x1 x2 x3 x4 x5 x6 x7 x8 x9 x10 x11 x12 xf
     obtain ⟨x0,x1,x2,x3,x4,x5,x6,x7,x8,x9,x10,x11,x12,xf⟩:=cellz13 (HO0.out wr HB.out)
     have k0 : (0 : Int)≤(j : Int):=by omega
     by_cases hlt : j < vb.length
     ·have k1 : (j : Int) < (vb.length : Int):=by omega
      obtain ⟨y,hy⟩ : ∃ y,vb[j]=y:=⟨_,rfl⟩
      have HTK:=hI (show vb.take (j + 1)=vb.take j ++ [y] by rw [List.take_succ_eq_append_getElem hlt,hy])
      have hmem : vb[j] ∈ vb:=List.getElem_mem hlt
      rw [hy] at hmem
      obtain ⟨b,o,he,hbz,hc⟩:=Lg.at_ Vb.len (Lg.keep Vb.stays (Keep.below (HBT.out wr HB.out)) HR.out.2.1) hlt
      rw [hy] at hc
      have HVR:=hI (show Vb.R top wr y∧Vb.m y≤1048576 from ⟨(Lg.keep Vb.stays (Keep.below (HBT.out wr HB.out)) HR.out.2.1).2 _ hmem,Nat.le_trans (sum_mem (m:=Vb.m) vb y hmem) HZ.out.2.1⟩)
      obtain ⟨vnm,vme,⟨lA,lc,ll⟩⟩:=y
      have x9b : wr.cell? ⟨p0,9,none⟩=some (.slice (some ⟨b,o,none⟩) vb.length vc):=by rw [x9,he]
      have c0 : wr.cell? ⟨b,o + j * 3,none⟩=some (.string (str vnm)):=hc 0 _ rfl
      have c1_ : wr.cell? ⟨b,o + j * 3 + 1,none⟩=some (.bool vme):=hc 1 _ rfl
      have c2 : wr.cell? ⟨b,o + j * 3 + 2,none⟩=some (.slice lA ll.length lc):=hc 2 _ rfl
      clear hc hy hmem hbz he x9
      go_wp2_with fail
      refine (verb_c ⟨vnm,vme,⟨lA,lc,ll⟩⟩ wr HVR.out.1 HVR.out.2).mono ?_
      have x9:=x9b
      clear c0 c1_ c2 x9b
      rintro e w7 ⟨er7,s7,rfl,hp,hb⟩
      have HP7:=hI hp
      obtain ⟨V7,hV7⟩ : ∃ W,w7.alloc (.cells #[.int .i64 er7,.string (str s7)] 125)=W:=⟨_,rfl⟩
      obtain ⟨m7,z7,b7⟩:=made hV7
      have HB7:=hI ((HB.out).trans ((hb.trans (b7.mono hb.size)).mono (HB.out).size))
      obtain ⟨g0,g1,gf⟩:=cells2 m7
      clear hp hb m7 z7 b7 x0 x1 x2 x3 x4 x5 x6 x7 x8 x9 x10 x11 x12 xf
      by_cases he0 : er7=0
      ·have qe : (er7 != 0)=false:=by simp [he0]
       have HE:=hI (HP7.out he0)
       clear he0
       go_wp2_with fail
       go_roundw
       case rel=>exact ⟨j + 1,by omega,by go_num,hI (trivial),HB7.out⟩
       case measure=>simp [intOf];omega
      ·have qe : (er7 != 0)=true:=by simp [he0]
       have HN:=hI he0
       clear he0
       go_wp2_with fail
       refine (fault_r er7 6 (j : Int) s7 V7).mono ?_
       rintro e w6 ⟨rfl,hb⟩
       have HB6:=hI ((HB7.out).trans (hb.mono (HB7.out).size))
       clear hb
       obtain ⟨r0,r1,r2,r3,rf⟩:=cellz4 (HO1.out w6 (HB6.out))
       obtain ⟨X,hX⟩ : ∃ X,(((w6.setCell ⟨p1,0,none⟩ (.int .i64 er7)).setCell ⟨p1,1,none⟩ (.int .i64 6)).setCell ⟨p1,2,none⟩ (.int .i64 (j : Int))).setCell ⟨p1,3,none⟩ (.string (str s7))=X:=⟨_,rfl⟩
       have HX:=hI (show X.heap[p1]?=some (.cells #[.int .i64 er7,.int .i64 6,.int .i64 (j : Int),.string (str s7)] 55 (0,0)) by rw [← hX];exact set4 (HO1.out w6 (HB6.out)))
       have HXB:=hI (show Below w.heap.size w X by rw [← hX];exact set4_below (HBT.out _ (HB6.out)) HPL.out)
       go_wp2_with ((with_reducible refine ret_f 4 p1 (.int .i64 er7) (.int .i64 6) (.int .i64 (j : Int)) (.string (str s7)) ?_ ?_ ?_ ?_ ?_);exact HX.out;rfl;rfl;rfl;exact ⟨er7,6,(j : Int),s7,rfl,(fun h=>absurd h HN.out),HXB.out⟩)
     ·have hjm : j=vb.length:=by omega
      have HTK:=hI (show vb.take j=vb from by rw [hjm];exact List.take_length ..)
      go_wp2_with fail
      go_meet
      exact ⟨rfl,hI (by have h:=HQ.out;exact h),HB.out⟩
   case rest=>
    clear x0 x1 x2 x3 x4 x5 x6 x7 x8 x9 x10 x11 x12 xf HB
    obtain ⟨rfl,HQ1,hb⟩:=hcut
    have HB:=hI hb
    clear hb
    obtain ⟨wd,hwd⟩ : ∃ W,W=wc:=⟨_,rfl⟩
    rw [← hwd] at HB ⊢
    clear hwd
    obtain ⟨x0,x1,x2,x3,x4,x5,x6,x7,x8,x9,x10,x11,x12,xf⟩:=cellz13 (HO0.out wd HB.out)
    go_upto_block 4 with fail
    go_cut [4] (fun v wx=>v=.pointer (some ⟨p1,0,none⟩)∧Hid (∀ r ∈ ru,whenC t (pars fn) r.wh.l∧ckB t (pars fn) [] 0 (stPs r.body.l))∧Below V.heap.size V wx)
    case first=>
     go_wp2_with fail
     go_loopw [10] (fun iv wr=>∃ j : Nat,j≤ru.length∧iv=.int .i64 (j : Int)∧Hid (∀ r ∈ ru.take j,whenC t (pars fn) r.wh.l∧ckB t (pars fn) [] 0 (stPs r.body.l))∧Below V.heap.size V wr) (fun iv _=>ru.length - (intOf iv).toNat)
     case atStart=>exact ⟨0,Nat.zero_le _,rfl,hI (by simp),HB.out⟩
     case round=>
      obtain ⟨j,hj,rfl,HQ,hb⟩:=hrel
      have HB:=hI hb
      clear hb x0 x1 x2 x3 x4 x5 x6 x7 x8 x9 x10 x11 x12 xf
      obtain ⟨x0,x1,x2,x3,x4,x5,x6,x7,x8,x9,x10,x11,x12,xf⟩:=cellz13 (HO0.out wr HB.out)
      have k0 : (0 : Int)≤(j : Int):=by omega
      by_cases hlt : j < ru.length
      ·have k1 : (j : Int) < (ru.length : Int):=by omega
       obtain ⟨y,hy⟩ : ∃ y,ru[j]=y:=⟨_,rfl⟩
       have HTK:=hI (show ru.take (j + 1)=ru.take j ++ [y] by rw [List.take_succ_eq_append_getElem hlt,hy])
       have hmem : ru[j] ∈ ru:=List.getElem_mem hlt
       rw [hy] at hmem
       obtain ⟨b,o,he,hbz,hc⟩:=Lg.at_ Rl.len (Lg.keep Rl.stays (Keep.below (HBT.out wr HB.out)) HR.out.2.2.1) hlt
       rw [hy] at hc
       have HVR:=hI (show Rl.R top w y∧Rl.m y≤1048576 from ⟨HR.out.2.2.1.2 _ hmem,Nat.le_trans (sum_mem (m:=Rl.m) ru y hmem) HZ.out.2.2.1⟩)
       obtain ⟨rvb,rph,rno,rse,⟨wA,cw,wl⟩,⟨bA,bc,bl⟩⟩:=y
       have HD:=hI (show ∀ U,Below wr.heap.size wr U→(U.cell? ⟨b,o + j * 6,none⟩=some (.string (str rvb))∧U.cell? ⟨b,o + j * 6 + 1,none⟩=some (.int .i64 rph)∧U.cell? ⟨b,o + j * 6 + 2,none⟩=some (.string (str rno))∧U.cell? ⟨b,o + j * 6 + 3,none⟩=some (.string (str rse))∧U.cell? ⟨b,o + j * 6 + 4,none⟩=some (.slice wA wl.length cw)∧U.cell? ⟨b,o + j * 6 + 5,none⟩=some (.slice bA bl.length bc)) from fun U hU=>⟨(hU.cell (p:=⟨b,_,none⟩) hbz).trans (hc 0 _ rfl),(hU.cell (p:=⟨b,_,none⟩) hbz).trans (hc 1 _ rfl),(hU.cell (p:=⟨b,_,none⟩) hbz).trans (hc 2 _ rfl),(hU.cell (p:=⟨b,_,none⟩) hbz).trans (hc 3 _ rfl),(hU.cell (p:=⟨b,_,none⟩) hbz).trans (hc 4 _ rfl),(hU.cell (p:=⟨b,_,none⟩) hbz).trans (hc 5 _ rfl)⟩)
       have HX0:=hI (show ∀ U,Below wr.heap.size wr U→U.heap[p0]?=some (.cells #[.string (str ti),.string (str by_),.string (str st),.int .i64 re,.int .i64 mx,.slice fA fl.length fc,.slice pA pr.length pc,.slice gA gl.length gc,.slice oA ob.length oc,.slice vA vb.length vc,.slice rA ru.length rc,.slice nA fn.length nc,.slice dA dm.length dc] 29 (0,0))∧U.cell? ⟨p0,10,none⟩=some (.slice (some ⟨b,o,none⟩) ru.length rc) from fun U hU=>by
        have h:=HO0.out U (HB.out.trans (hU.mono HB.out.size))
        refine ⟨h,?_⟩
        rw [← he]
        simp [World.cell?,h])
       have HBY:=hI (show ∀ U,Below wr.heap.size wr U→Below V.heap.size V U from fun U h=>HB.out.trans (h.mono HB.out.size))
       clear hc hy hmem hbz he
       go_upto_region 19 with fail
       clear x0 x1 x2 x3 x4 x5 x6 x7 x8 x9 x10 x11 x12 xf
       have hS0 : Below wr.heap.size wr wr.drew:=Below.drew (Below.refl _ _)
       refine RgD.begin_ [] (fun U=>Below wr.heap.size wr U) (by kernel_rfl) hS0 (fun hHeld=>?_)
       refine tK 0 69 (h:=?_)
       simp only [zA,zB,zC]
       refine tK 1 70 (v:=.agg #[.string (str ti),.string (str by_),.string (str st),.int .i64 re,.int .i64 mx,.slice fA fl.length fc,.slice pA pr.length pc,.slice gA gl.length gc,.slice oA ob.length oc,.slice vA vb.length vc,.slice rA ru.length rc,.slice nA fn.length nc,.slice dA dm.length dc]) (hy:=by intro w0 hSw;obtain ⟨x0,x1,x2,x3,x4,x5,x6,x7,x8,x9,x10,x11,x12,xf⟩:=cellz13 (HX0.out _ hSw).1;first | (go_simp;done) | (go_simp;with_reducible rfl) | (go_simp;intro hc;exfalso;omega)) (h:=?_)
       simp only [zA,zB,zC]
       refine tK 2 71 (h:=?_)
       simp only [zA,zB,zC]
       refine tK 3 72 (v:=.slice (some ⟨b,o,none⟩) ru.length rc) (hy:=by intro w0 hSw;have x9:=(HX0.out _ hSw).2;first | (go_simp;done) | (go_simp;with_reducible rfl) | (go_simp;intro hc;exfalso;omega)) (h:=?_)
       simp only [zA,zB,zC]
       refine tK 4 73 (h:=?_)
       simp only [zA,zB,zC]
       refine tK 5 74 (h:=?_)
       simp only [zA,zB,zC]
       refine tK 6 75 (v:=.agg #[.string (str rvb),.int .i64 rph,.string (str rno),.string (str rse),.slice wA wl.length cw,.slice bA bl.length bc]) (hy:=by intro w0 hSw;obtain ⟨d0,d1,d2,d3,d4,d5⟩:=HD.out _ hSw;first | (go_simp;done) | (go_simp;with_reducible rfl) | (go_simp;intro hc;exfalso;omega)) (h:=?_)
       simp only [zA,zB,zC]
       refine RgD.two (i:=7) (j:=8) (by kernel_rfl) ?_ ?_
       ·refine RgD.call (i:=7) (t:=76) rfl rfl (by rfl) (by go_simp;exact ⟨rfl,rfl⟩) ?_
        refine (rule_c t A1 oA nA n1 c1 oc nc ob fn (.string (str ti)) (.string (str by_)) (.string (str st)) (.int .i64 re) (.int .i64 mx) (.slice fA fl.length fc) (.slice pA pr.length pc) (.slice gA gl.length gc) (.slice vA vb.length vc) (.slice rA ru.length rc) (.slice dA dm.length dc) ⟨rvb,rph,rno,rse,⟨wA,cw,wl⟩,⟨bA,bc,bl⟩⟩ wr.drew (HC.out.below (HBT.out _ (HBY.out _ (hS0)))) (Rl.stays _ _ _ _ _ (Keep.below (HBT.out _ (HBY.out _ (hS0)))) HVR.out.1) HVR.out.2).mono ?_
        rintro r w9 ⟨er9,s9,rfl,hp,hb⟩
        have HP9:=hI hp
        have hS9:=(hS0).trans (hb.mono (hS0).size)
        have HS9:=hI hS9
        clear hb hp
        refine ⟨_,rfl,hS9,?_⟩
        simp only [zA,zB,zC]
        refine RgD.one (i:=8) (by kernel_rfl) ?_
        obtain ⟨w10,hw10⟩ : ∃ W,w9.alloc (.cells #[.int .i64 0,.string ⟨#[]⟩] 125)=W:=⟨_,rfl⟩
        obtain ⟨m10,s10,b10⟩:=made hw10
        have hS10:=(HS9.out).trans (b10.mono (HS9.out).size)
        have HS10:=hI hS10
        have HM10:=hI (show w10.heap[w9.heap.size]?=_ from m10)
        have HQ10:=hI (show wr.heap.size≤w9.heap.size from (HS9.out).size)
        refine RgD.eff (i:=8) (t:=11) (v:=.pointer (some ⟨w9.heap.size,0,none⟩)) (w1:=w10) rfl rfl (by rfl) (by first | (go_simp;done) | (go_simp;exact ⟨rfl,hw10⟩) | (go_simp;rw [hw10];rfl) | (go_simp;exact hw10)) hS10 ?_
        simp only [zA,zB,zC]
        clear hw10
        refine RgD.one (i:=9) (by kernel_rfl) ?_
        obtain ⟨g0,g1,gf⟩:=cells2 HM10.out
        have HM11:=hI (set2 (y0:=.int .i64 er9) (y1:=.string (str s9)) HM10.out)
        have HS11:=hI (set2_below (y0:=.int .i64 er9) (y1:=.string (str s9)) (HS10.out) HQ10.out)
        obtain ⟨w11,hw11⟩ : ∃ W,(w10.setCell ⟨w9.heap.size,0,none⟩ (.int .i64 er9)).setCell ⟨w9.heap.size,1,none⟩ (.string (str s9))=W:=⟨_,rfl⟩
        rw [hw11] at HM11 HS11
        refine RgD.storeS (i:=9) (w1:=w11) rfl rfl (by rfl) (by first | (go_simp;done) | (go_simp;exact hw11) | (go_simp;rw [hw11])) HS11.out ?_
        clear g0 g1 gf hw11
        refine RgD.done (by kernel_rfl) ?_ _
        clear hS0
        obtain ⟨g0,g1,gf⟩:=cells2 HM11.out
        by_cases he0 : er9=0
        ·have qe : (er9 != 0)=false:=by simp [he0]
         have HE:=hI (HP9.out he0)
         clear he0
         go_wp2_with fail
         go_roundw
         case rel=>exact ⟨j + 1,by omega,by go_num,hI (by intro x hx;rw [HTK.out] at hx;rcases List.mem_append.1 hx with hx | hx;exact HQ.out x hx;rw [List.mem_singleton] at hx;subst hx;exact HE.out),HBY.out _ HS11.out⟩
         case measure=>simp [intOf];omega
        ·have qe : (er9 != 0)=true:=by simp [he0]
         have HN:=hI he0
         clear he0
         go_wp2_with fail
         refine (fault_r er9 7 (j : Int) s9 w11).mono ?_
         rintro e w6 ⟨rfl,hb⟩
         have HB6:=hI ((HBY.out _ HS11.out).trans (hb.mono (HBY.out _ HS11.out).size))
         clear hb
         obtain ⟨r0,r1,r2,r3,rf⟩:=cellz4 (HO1.out w6 (HB6.out))
         obtain ⟨X,hX⟩ : ∃ X,(((w6.setCell ⟨p1,0,none⟩ (.int .i64 er9)).setCell ⟨p1,1,none⟩ (.int .i64 7)).setCell ⟨p1,2,none⟩ (.int .i64 (j : Int))).setCell ⟨p1,3,none⟩ (.string (str s9))=X:=⟨_,rfl⟩
         have HX:=hI (show X.heap[p1]?=some (.cells #[.int .i64 er9,.int .i64 7,.int .i64 (j : Int),.string (str s9)] 55 (0,0)) by rw [← hX];exact set4 (HO1.out w6 (HB6.out)))
         have HXB:=hI (show Below w.heap.size w X by rw [← hX];exact set4_below (HBT.out _ (HB6.out)) HPL.out)
         go_wp2_with ((with_reducible refine ret_f 4 p1 (.int .i64 er9) (.int .i64 7) (.int .i64 (j : Int)) (.string (str s9)) ?_ ?_ ?_ ?_ ?_);exact HX.out;rfl;rfl;rfl;exact ⟨er9,7,(j : Int),s9,rfl,(fun h=>absurd h HN.out),HXB.out⟩)
       ·obtain ⟨w10,hw10⟩ : ∃ W,wr.drew.alloc (.cells #[.int .i64 0,.string ⟨#[]⟩] 125)=W:=⟨_,rfl⟩
        obtain ⟨m10,s10,b10⟩:=made hw10
        have hS10:=(hS0).trans (b10.mono (hS0).size)
        have HS10:=hI hS10
        have HM10:=hI (show w10.heap[wr.heap.size]?=_ from m10)
        have HQ10:=hI (show wr.heap.size≤wr.heap.size from (hS0).size)
        refine RgD.eff (i:=8) (t:=11) (v:=.pointer (some ⟨wr.heap.size,0,none⟩)) (w1:=w10) rfl rfl (by rfl) (by first | (go_simp;done) | (go_simp;exact ⟨rfl,hw10⟩) | (go_simp;rw [hw10];rfl) | (go_simp;exact hw10)) hS10 ?_
        simp only [zA,zB,zC]
        clear hw10
        refine RgD.one (i:=7) (by kernel_rfl) ?_
        refine RgD.call (i:=7) (t:=76) rfl rfl (by rfl) (by go_simp;exact ⟨rfl,rfl⟩) ?_
        refine (rule_c t A1 oA nA n1 c1 oc nc ob fn (.string (str ti)) (.string (str by_)) (.string (str st)) (.int .i64 re) (.int .i64 mx) (.slice fA fl.length fc) (.slice pA pr.length pc) (.slice gA gl.length gc) (.slice vA vb.length vc) (.slice rA ru.length rc) (.slice dA dm.length dc) ⟨rvb,rph,rno,rse,⟨wA,cw,wl⟩,⟨bA,bc,bl⟩⟩ w10 (HC.out.below (HBT.out _ (HBY.out _ (HS10.out)))) (Rl.stays _ _ _ _ _ (Keep.below (HBT.out _ (HBY.out _ (HS10.out)))) HVR.out.1) HVR.out.2).mono ?_
        rintro r w9 ⟨er9,s9,rfl,hp,hb⟩
        have HP9:=hI hp
        have hS9:=(HS10.out).trans (hb.mono (HS10.out).size)
        have HS9:=hI hS9
        have HM10:=hI ((hb.block _ (Array.getElem?_eq_some_iff.1 HM10.out).1).trans HM10.out)
        clear hb hp
        refine ⟨_,rfl,hS9,?_⟩
        simp only [zA,zB,zC]
        refine RgD.one (i:=9) (by kernel_rfl) ?_
        obtain ⟨g0,g1,gf⟩:=cells2 HM10.out
        have HM11:=hI (set2 (y0:=.int .i64 er9) (y1:=.string (str s9)) HM10.out)
        have HS11:=hI (set2_below (y0:=.int .i64 er9) (y1:=.string (str s9)) (HS9.out) HQ10.out)
        obtain ⟨w11,hw11⟩ : ∃ W,(w9.setCell ⟨wr.heap.size,0,none⟩ (.int .i64 er9)).setCell ⟨wr.heap.size,1,none⟩ (.string (str s9))=W:=⟨_,rfl⟩
        rw [hw11] at HM11 HS11
        refine RgD.storeS (i:=9) (w1:=w11) rfl rfl (by rfl) (by first | (go_simp;done) | (go_simp;exact hw11) | (go_simp;rw [hw11])) HS11.out ?_
        clear g0 g1 gf hw11
        refine RgD.done (by kernel_rfl) ?_ _
        clear hS0
        obtain ⟨g0,g1,gf⟩:=cells2 HM11.out
        by_cases he0 : er9=0
        ·have qe : (er9 != 0)=false:=by simp [he0]
         have HE:=hI (HP9.out he0)
         clear he0
         go_wp2_with fail
         go_roundw
         case rel=>exact ⟨j + 1,by omega,by go_num,hI (by intro x hx;rw [HTK.out] at hx;rcases List.mem_append.1 hx with hx | hx;exact HQ.out x hx;rw [List.mem_singleton] at hx;subst hx;exact HE.out),HBY.out _ HS11.out⟩
         case measure=>simp [intOf];omega
        ·have qe : (er9 != 0)=true:=by simp [he0]
         have HN:=hI he0
         clear he0
         go_wp2_with fail
         refine (fault_r er9 7 (j : Int) s9 w11).mono ?_
         rintro e w6 ⟨rfl,hb⟩
         have HB6:=hI ((HBY.out _ HS11.out).trans (hb.mono (HBY.out _ HS11.out).size))
         clear hb
         obtain ⟨r0,r1,r2,r3,rf⟩:=cellz4 (HO1.out w6 (HB6.out))
         obtain ⟨X,hX⟩ : ∃ X,(((w6.setCell ⟨p1,0,none⟩ (.int .i64 er9)).setCell ⟨p1,1,none⟩ (.int .i64 7)).setCell ⟨p1,2,none⟩ (.int .i64 (j : Int))).setCell ⟨p1,3,none⟩ (.string (str s9))=X:=⟨_,rfl⟩
         have HX:=hI (show X.heap[p1]?=some (.cells #[.int .i64 er9,.int .i64 7,.int .i64 (j : Int),.string (str s9)] 55 (0,0)) by rw [← hX];exact set4 (HO1.out w6 (HB6.out)))
         have HXB:=hI (show Below w.heap.size w X by rw [← hX];exact set4_below (HBT.out _ (HB6.out)) HPL.out)
         go_wp2_with ((with_reducible refine ret_f 4 p1 (.int .i64 er9) (.int .i64 7) (.int .i64 (j : Int)) (.string (str s9)) ?_ ?_ ?_ ?_ ?_);exact HX.out;rfl;rfl;rfl;exact ⟨er9,7,(j : Int),s9,rfl,(fun h=>absurd h HN.out),HXB.out⟩)
      ·have hjm : j=ru.length:=by omega
       have HTK:=hI (show ru.take j=ru from by rw [hjm];exact List.take_length ..)
       go_wp2_with fail
       go_meet
       exact ⟨rfl,hI (by have h:=HQ.out;rw [HTK.out] at h;exact h),HB.out⟩
    case rest=>
     clear x0 x1 x2 x3 x4 x5 x6 x7 x8 x9 x10 x11 x12 xf HB
     obtain ⟨rfl,HQ2,hb⟩:=hcut
     have HB:=hI hb
     clear hb
     obtain ⟨wd,hwd⟩ : ∃ W,W=wc:=⟨_,rfl⟩
     rw [← hwd] at HB ⊢
     clear hwd
     obtain ⟨x0,x1,x2,x3,x4,x5,x6,x7,x8,x9,x10,x11,x12,xf⟩:=cellz13 (HO0.out wd HB.out)
     go_upto_block 6 with fail
     go_cut [4] (fun v wx=>v=.pointer (some ⟨p1,0,none⟩)∧Hid (∀ f ∈ fn,ckB t (pars fn) f.ps.l 0 (stPs f.body.l))∧Below V.heap.size V wx)
     case first=>
      go_wp2_with fail
      go_loopw [12] (fun iv wr=>∃ j : Nat,j≤fn.length∧iv=.int .i64 (j : Int)∧Hid (∀ f ∈ fn.take j,ckB t (pars fn) f.ps.l 0 (stPs f.body.l))∧Below V.heap.size V wr) (fun iv _=>fn.length - (intOf iv).toNat)
      case atStart=>exact ⟨0,Nat.zero_le _,rfl,hI (by simp),HB.out⟩
      case round=>
       obtain ⟨j,hj,rfl,HQ,hb⟩:=hrel
       have HB:=hI hb
       clear hb x0 x1 x2 x3 x4 x5 x6 x7 x8 x9 x10 x11 x12 xf
       obtain ⟨x0,x1,x2,x3,x4,x5,x6,x7,x8,x9,x10,x11,x12,xf⟩:=cellz13 (HO0.out wr HB.out)
       have k0 : (0 : Int)≤(j : Int):=by omega
       by_cases hlt : j < fn.length
       ·have k1 : (j : Int) < (fn.length : Int):=by omega
        obtain ⟨y,hy⟩ : ∃ y,fn[j]=y:=⟨_,rfl⟩
        have HTK:=hI (show fn.take (j + 1)=fn.take j ++ [y] by rw [List.take_succ_eq_append_getElem hlt,hy])
        have hmem : fn[j] ∈ fn:=List.getElem_mem hlt
        rw [hy] at hmem
        obtain ⟨b,o,he,hbz,hc⟩:=Lg.at_ BindO.Fn.len (Lg.keep BindO.Fn.stays (Keep.below (HBT.out wr HB.out)) HR.out.2.2.2.1) hlt
        rw [hy] at hc
        have HVR:=hI (show BindO.Fn.R top w y∧BindO.Fn.m y≤1048576 from ⟨HR.out.2.2.2.1.2 _ hmem,Nat.le_trans (sum_mem (m:=BindO.Fn.m) fn y hmem) HZ.out.2.2.2.1⟩)
        obtain ⟨fnm,⟨qA,qc,ql⟩,⟨bA,bc,bl⟩⟩:=y
        have HD:=hI (show ∀ U,Below wr.heap.size wr U→(U.cell? ⟨b,o + j * 3,none⟩=some (.string (str fnm))∧U.cell? ⟨b,o + j * 3 + 1,none⟩=some (.slice qA ql.length qc)∧U.cell? ⟨b,o + j * 3 + 2,none⟩=some (.slice bA bl.length bc)) from fun U hU=>⟨(hU.cell (p:=⟨b,_,none⟩) hbz).trans (hc 0 _ rfl),(hU.cell (p:=⟨b,_,none⟩) hbz).trans (hc 1 _ rfl),(hU.cell (p:=⟨b,_,none⟩) hbz).trans (hc 2 _ rfl)⟩)
        have HX0:=hI (show ∀ U,Below wr.heap.size wr U→U.heap[p0]?=some (.cells #[.string (str ti),.string (str by_),.string (str st),.int .i64 re,.int .i64 mx,.slice fA fl.length fc,.slice pA pr.length pc,.slice gA gl.length gc,.slice oA ob.length oc,.slice vA vb.length vc,.slice rA ru.length rc,.slice nA fn.length nc,.slice dA dm.length dc] 29 (0,0))∧U.cell? ⟨p0,11,none⟩=some (.slice (some ⟨b,o,none⟩) fn.length nc) from fun U hU=>by
         have h:=HO0.out U (HB.out.trans (hU.mono HB.out.size))
         refine ⟨h,?_⟩
         rw [← he]
         simp [World.cell?,h])
        have HBY:=hI (show ∀ U,Below wr.heap.size wr U→Below V.heap.size V U from fun U h=>HB.out.trans (h.mono HB.out.size))
        clear hc hy hmem hbz he
        go_upto_region 25 with fail
        clear x0 x1 x2 x3 x4 x5 x6 x7 x8 x9 x10 x11 x12 xf
        have hS0 : Below wr.heap.size wr wr.drew:=Below.drew (Below.refl _ _)
        refine RgD.begin_ [] (fun U=>Below wr.heap.size wr U) (by kernel_rfl) hS0 (fun hHeld=>?_)
        refine tK 0 90 (h:=?_)
        simp only [zA,zB,zC]
        refine tK 1 91 (v:=.agg #[.string (str ti),.string (str by_),.string (str st),.int .i64 re,.int .i64 mx,.slice fA fl.length fc,.slice pA pr.length pc,.slice gA gl.length gc,.slice oA ob.length oc,.slice vA vb.length vc,.slice rA ru.length rc,.slice nA fn.length nc,.slice dA dm.length dc]) (hy:=by intro w0 hSw;obtain ⟨x0,x1,x2,x3,x4,x5,x6,x7,x8,x9,x10,x11,x12,xf⟩:=cellz13 (HX0.out _ hSw).1;first | (go_simp;done) | (go_simp;with_reducible rfl) | (go_simp;intro hc;exfalso;omega)) (h:=?_)
        simp only [zA,zB,zC]
        refine tK 2 92 (h:=?_)
        simp only [zA,zB,zC]
        refine tK 3 93 (v:=.slice (some ⟨b,o,none⟩) fn.length nc) (hy:=by intro w0 hSw;have x9:=(HX0.out _ hSw).2;first | (go_simp;done) | (go_simp;with_reducible rfl) | (go_simp;intro hc;exfalso;omega)) (h:=?_)
        simp only [zA,zB,zC]
        refine tK 4 94 (h:=?_)
        simp only [zA,zB,zC]
        refine tK 5 95 (h:=?_)
        simp only [zA,zB,zC]
        refine tK 6 96 (v:=.agg #[.string (str fnm),.slice qA ql.length qc,.slice bA bl.length bc]) (hy:=by intro w0 hSw;obtain ⟨d0,d1,d2⟩:=HD.out _ hSw;first | (go_simp;done) | (go_simp;with_reducible rfl) | (go_simp;intro hc;exfalso;omega)) (h:=?_)
        simp only [zA,zB,zC]
        refine RgD.two (i:=7) (j:=8) (by kernel_rfl) ?_ ?_
        ·refine RgD.call (i:=7) (t:=97) rfl rfl (by rfl) (by go_simp;exact ⟨rfl,rfl⟩) ?_
         refine (function_c t A1 oA nA n1 c1 oc nc ob fn (.string (str ti)) (.string (str by_)) (.string (str st)) (.int .i64 re) (.int .i64 mx) (.slice fA fl.length fc) (.slice pA pr.length pc) (.slice gA gl.length gc) (.slice vA vb.length vc) (.slice rA ru.length rc) (.slice dA dm.length dc) ⟨fnm,⟨qA,qc,ql⟩,⟨bA,bc,bl⟩⟩ wr.drew (HC.out.below (HBT.out _ (HBY.out _ (hS0)))) (BindO.Fn.stays _ _ _ _ _ (Keep.below (HBT.out _ (HBY.out _ (hS0)))) HVR.out.1) HVR.out.2).mono ?_
         rintro r w9 ⟨er9,s9,rfl,hp,hb⟩
         have HP9:=hI hp
         have hS9:=(hS0).trans (hb.mono (hS0).size)
         have HS9:=hI hS9
         clear hb hp
         refine ⟨_,rfl,hS9,?_⟩
         simp only [zA,zB,zC]
         refine RgD.one (i:=8) (by kernel_rfl) ?_
         obtain ⟨w10,hw10⟩ : ∃ W,w9.alloc (.cells #[.int .i64 0,.string ⟨#[]⟩] 125)=W:=⟨_,rfl⟩
         obtain ⟨m10,s10,b10⟩:=made hw10
         have hS10:=(HS9.out).trans (b10.mono (HS9.out).size)
         have HS10:=hI hS10
         have HM10:=hI (show w10.heap[w9.heap.size]?=_ from m10)
         have HQ10:=hI (show wr.heap.size≤w9.heap.size from (HS9.out).size)
         refine RgD.eff (i:=8) (t:=13) (v:=.pointer (some ⟨w9.heap.size,0,none⟩)) (w1:=w10) rfl rfl (by rfl) (by first | (go_simp;done) | (go_simp;exact ⟨rfl,hw10⟩) | (go_simp;rw [hw10];rfl) | (go_simp;exact hw10)) hS10 ?_
         simp only [zA,zB,zC]
         clear hw10
         refine RgD.one (i:=9) (by kernel_rfl) ?_
         obtain ⟨g0,g1,gf⟩:=cells2 HM10.out
         have HM11:=hI (set2 (y0:=.int .i64 er9) (y1:=.string (str s9)) HM10.out)
         have HS11:=hI (set2_below (y0:=.int .i64 er9) (y1:=.string (str s9)) (HS10.out) HQ10.out)
         obtain ⟨w11,hw11⟩ : ∃ W,(w10.setCell ⟨w9.heap.size,0,none⟩ (.int .i64 er9)).setCell ⟨w9.heap.size,1,none⟩ (.string (str s9))=W:=⟨_,rfl⟩
         rw [hw11] at HM11 HS11
         refine RgD.storeS (i:=9) (w1:=w11) rfl rfl (by rfl) (by first | (go_simp;done) | (go_simp;exact hw11) | (go_simp;rw [hw11])) HS11.out ?_
         clear g0 g1 gf hw11
         refine RgD.done (by kernel_rfl) ?_ _
         clear hS0
         obtain ⟨g0,g1,gf⟩:=cells2 HM11.out
         by_cases he0 : er9=0
         ·have qe : (er9 != 0)=false:=by simp [he0]
          have HE:=hI (HP9.out he0)
          clear he0
          go_wp2_with fail
          go_roundw
          case rel=>exact ⟨j + 1,by omega,by go_num,hI (by intro x hx;rw [HTK.out] at hx;rcases List.mem_append.1 hx with hx | hx;exact HQ.out x hx;rw [List.mem_singleton] at hx;subst hx;exact HE.out),HBY.out _ HS11.out⟩
          case measure=>simp [intOf];omega
         ·have qe : (er9 != 0)=true:=by simp [he0]
          have HN:=hI he0
          clear he0
          go_wp2_with fail
          refine (fault_r er9 8 (j : Int) s9 w11).mono ?_
          rintro e w6 ⟨rfl,hb⟩
          have HB6:=hI ((HBY.out _ HS11.out).trans (hb.mono (HBY.out _ HS11.out).size))
          clear hb
          obtain ⟨r0,r1,r2,r3,rf⟩:=cellz4 (HO1.out w6 (HB6.out))
          obtain ⟨X,hX⟩ : ∃ X,(((w6.setCell ⟨p1,0,none⟩ (.int .i64 er9)).setCell ⟨p1,1,none⟩ (.int .i64 8)).setCell ⟨p1,2,none⟩ (.int .i64 (j : Int))).setCell ⟨p1,3,none⟩ (.string (str s9))=X:=⟨_,rfl⟩
          have HX:=hI (show X.heap[p1]?=some (.cells #[.int .i64 er9,.int .i64 8,.int .i64 (j : Int),.string (str s9)] 55 (0,0)) by rw [← hX];exact set4 (HO1.out w6 (HB6.out)))
          have HXB:=hI (show Below w.heap.size w X by rw [← hX];exact set4_below (HBT.out _ (HB6.out)) HPL.out)
          go_wp2_with ((with_reducible refine ret_f 4 p1 (.int .i64 er9) (.int .i64 8) (.int .i64 (j : Int)) (.string (str s9)) ?_ ?_ ?_ ?_ ?_);exact HX.out;rfl;rfl;rfl;exact ⟨er9,8,(j : Int),s9,rfl,(fun h=>absurd h HN.out),HXB.out⟩)
        ·obtain ⟨w10,hw10⟩ : ∃ W,wr.drew.alloc (.cells #[.int .i64 0,.string ⟨#[]⟩] 125)=W:=⟨_,rfl⟩
         obtain ⟨m10,s10,b10⟩:=made hw10
         have hS10:=(hS0).trans (b10.mono (hS0).size)
         have HS10:=hI hS10
         have HM10:=hI (show w10.heap[wr.heap.size]?=_ from m10)
         have HQ10:=hI (show wr.heap.size≤wr.heap.size from (hS0).size)
         refine RgD.eff (i:=8) (t:=13) (v:=.pointer (some ⟨wr.heap.size,0,none⟩)) (w1:=w10) rfl rfl (by rfl) (by first | (go_simp;done) | (go_simp;exact ⟨rfl,hw10⟩) | (go_simp;rw [hw10];rfl) | (go_simp;exact hw10)) hS10 ?_
         simp only [zA,zB,zC]
         clear hw10
         refine RgD.one (i:=7) (by kernel_rfl) ?_
         refine RgD.call (i:=7) (t:=97) rfl rfl (by rfl) (by go_simp;exact ⟨rfl,rfl⟩) ?_
         refine (function_c t A1 oA nA n1 c1 oc nc ob fn (.string (str ti)) (.string (str by_)) (.string (str st)) (.int .i64 re) (.int .i64 mx) (.slice fA fl.length fc) (.slice pA pr.length pc) (.slice gA gl.length gc) (.slice vA vb.length vc) (.slice rA ru.length rc) (.slice dA dm.length dc) ⟨fnm,⟨qA,qc,ql⟩,⟨bA,bc,bl⟩⟩ w10 (HC.out.below (HBT.out _ (HBY.out _ (HS10.out)))) (BindO.Fn.stays _ _ _ _ _ (Keep.below (HBT.out _ (HBY.out _ (HS10.out)))) HVR.out.1) HVR.out.2).mono ?_
         rintro r w9 ⟨er9,s9,rfl,hp,hb⟩
         have HP9:=hI hp
         have hS9:=(HS10.out).trans (hb.mono (HS10.out).size)
         have HS9:=hI hS9
         have HM10:=hI ((hb.block _ (Array.getElem?_eq_some_iff.1 HM10.out).1).trans HM10.out)
         clear hb hp
         refine ⟨_,rfl,hS9,?_⟩
         simp only [zA,zB,zC]
         refine RgD.one (i:=9) (by kernel_rfl) ?_
         obtain ⟨g0,g1,gf⟩:=cells2 HM10.out
         have HM11:=hI (set2 (y0:=.int .i64 er9) (y1:=.string (str s9)) HM10.out)
         have HS11:=hI (set2_below (y0:=.int .i64 er9) (y1:=.string (str s9)) (HS9.out) HQ10.out)
         obtain ⟨w11,hw11⟩ : ∃ W,(w9.setCell ⟨wr.heap.size,0,none⟩ (.int .i64 er9)).setCell ⟨wr.heap.size,1,none⟩ (.string (str s9))=W:=⟨_,rfl⟩
         rw [hw11] at HM11 HS11
         refine RgD.storeS (i:=9) (w1:=w11) rfl rfl (by rfl) (by first | (go_simp;done) | (go_simp;exact hw11) | (go_simp;rw [hw11])) HS11.out ?_
         clear g0 g1 gf hw11
         refine RgD.done (by kernel_rfl) ?_ _
         clear hS0
         obtain ⟨g0,g1,gf⟩:=cells2 HM11.out
         by_cases he0 : er9=0
         ·have qe : (er9 != 0)=false:=by simp [he0]
          have HE:=hI (HP9.out he0)
          clear he0
          go_wp2_with fail
          go_roundw
          case rel=>exact ⟨j + 1,by omega,by go_num,hI (by intro x hx;rw [HTK.out] at hx;rcases List.mem_append.1 hx with hx | hx;exact HQ.out x hx;rw [List.mem_singleton] at hx;subst hx;exact HE.out),HBY.out _ HS11.out⟩
          case measure=>simp [intOf];omega
         ·have qe : (er9 != 0)=true:=by simp [he0]
          have HN:=hI he0
          clear he0
          go_wp2_with fail
          refine (fault_r er9 8 (j : Int) s9 w11).mono ?_
          rintro e w6 ⟨rfl,hb⟩
          have HB6:=hI ((HBY.out _ HS11.out).trans (hb.mono (HBY.out _ HS11.out).size))
          clear hb
          obtain ⟨r0,r1,r2,r3,rf⟩:=cellz4 (HO1.out w6 (HB6.out))
          obtain ⟨X,hX⟩ : ∃ X,(((w6.setCell ⟨p1,0,none⟩ (.int .i64 er9)).setCell ⟨p1,1,none⟩ (.int .i64 8)).setCell ⟨p1,2,none⟩ (.int .i64 (j : Int))).setCell ⟨p1,3,none⟩ (.string (str s9))=X:=⟨_,rfl⟩
          have HX:=hI (show X.heap[p1]?=some (.cells #[.int .i64 er9,.int .i64 8,.int .i64 (j : Int),.string (str s9)] 55 (0,0)) by rw [← hX];exact set4 (HO1.out w6 (HB6.out)))
          have HXB:=hI (show Below w.heap.size w X by rw [← hX];exact set4_below (HBT.out _ (HB6.out)) HPL.out)
          go_wp2_with ((with_reducible refine ret_f 4 p1 (.int .i64 er9) (.int .i64 8) (.int .i64 (j : Int)) (.string (str s9)) ?_ ?_ ?_ ?_ ?_);exact HX.out;rfl;rfl;rfl;exact ⟨er9,8,(j : Int),s9,rfl,(fun h=>absurd h HN.out),HXB.out⟩)
       ·have hjm : j=fn.length:=by omega
        have HTK:=hI (show fn.take j=fn from by rw [hjm];exact List.take_length ..)
        go_wp2_with fail
        go_meet
        exact ⟨rfl,hI (by have h:=HQ.out;rw [HTK.out] at h;exact h),HB.out⟩
     case rest=>
      clear x0 x1 x2 x3 x4 x5 x6 x7 x8 x9 x10 x11 x12 xf HB
      obtain ⟨rfl,HQ3,hb⟩:=hcut
      have HB:=hI hb
      clear hb
      obtain ⟨wd,hwd⟩ : ∃ W,W=wc:=⟨_,rfl⟩
      rw [← hwd] at HB ⊢
      clear hwd
      obtain ⟨x0,x1,x2,x3,x4,x5,x6,x7,x8,x9,x10,x11,x12,xf⟩:=cellz13 (HO0.out wd HB.out)
      go_upto_block 8 with fail
      go_cut [4] (fun v wx=>v=.pointer (some ⟨p1,0,none⟩)∧Hid (∀ f ∈ dm,ckB t (pars fn) [] 0 (stPs f.body.l))∧Below V.heap.size V wx)
      case first=>
       go_wp2_with fail
       go_loopw [14] (fun iv wr=>∃ j : Nat,j≤dm.length∧iv=.int .i64 (j : Int)∧Hid (∀ f ∈ dm.take j,ckB t (pars fn) [] 0 (stPs f.body.l))∧Below V.heap.size V wr) (fun iv _=>dm.length - (intOf iv).toNat)
       case atStart=>exact ⟨0,Nat.zero_le _,rfl,hI (by simp),HB.out⟩
       case round=>
        obtain ⟨j,hj,rfl,HQ,hb⟩:=hrel
        have HB:=hI hb
        clear hb x0 x1 x2 x3 x4 x5 x6 x7 x8 x9 x10 x11 x12 xf
        obtain ⟨x0,x1,x2,x3,x4,x5,x6,x7,x8,x9,x10,x11,x12,xf⟩:=cellz13 (HO0.out wr HB.out)
        have k0 : (0 : Int)≤(j : Int):=by omega
        by_cases hlt : j < dm.length
        ·have k1 : (j : Int) < (dm.length : Int):=by omega
         obtain ⟨y,hy⟩ : ∃ y,dm[j]=y:=⟨_,rfl⟩
         have HTK:=hI (show dm.take (j + 1)=dm.take j ++ [y] by rw [List.take_succ_eq_append_getElem hlt,hy])
         have hmem : dm[j] ∈ dm:=List.getElem_mem hlt
         rw [hy] at hmem
         obtain ⟨b,o,he,hbz,hc⟩:=Lg.at_ BindO.Fn.len (Lg.keep BindO.Fn.stays (Keep.below (HBT.out wr HB.out)) HR.out.2.2.2.2) hlt
         rw [hy] at hc
         have HVR:=hI (show BindO.Fn.R top w y∧BindO.Fn.m y≤1048576 from ⟨HR.out.2.2.2.2.2 _ hmem,Nat.le_trans (sum_mem (m:=BindO.Fn.m) dm y hmem) HZ.out.2.2.2.2⟩)
         obtain ⟨fnm,⟨qA,qc,ql⟩,⟨bA,bc,bl⟩⟩:=y
         have HD:=hI (show ∀ U,Below wr.heap.size wr U→(U.cell? ⟨b,o + j * 3,none⟩=some (.string (str fnm))∧U.cell? ⟨b,o + j * 3 + 1,none⟩=some (.slice qA ql.length qc)∧U.cell? ⟨b,o + j * 3 + 2,none⟩=some (.slice bA bl.length bc)) from fun U hU=>⟨(hU.cell (p:=⟨b,_,none⟩) hbz).trans (hc 0 _ rfl),(hU.cell (p:=⟨b,_,none⟩) hbz).trans (hc 1 _ rfl),(hU.cell (p:=⟨b,_,none⟩) hbz).trans (hc 2 _ rfl)⟩)
         have HX0:=hI (show ∀ U,Below wr.heap.size wr U→U.heap[p0]?=some (.cells #[.string (str ti),.string (str by_),.string (str st),.int .i64 re,.int .i64 mx,.slice fA fl.length fc,.slice pA pr.length pc,.slice gA gl.length gc,.slice oA ob.length oc,.slice vA vb.length vc,.slice rA ru.length rc,.slice nA fn.length nc,.slice dA dm.length dc] 29 (0,0))∧U.cell? ⟨p0,12,none⟩=some (.slice (some ⟨b,o,none⟩) dm.length dc) from fun U hU=>by
          have h:=HO0.out U (HB.out.trans (hU.mono HB.out.size))
          refine ⟨h,?_⟩
          rw [← he]
          simp [World.cell?,h])
         have HBY:=hI (show ∀ U,Below wr.heap.size wr U→Below V.heap.size V U from fun U h=>HB.out.trans (h.mono HB.out.size))
         clear hc hy hmem hbz he
         go_upto_region 31 with fail
         clear x0 x1 x2 x3 x4 x5 x6 x7 x8 x9 x10 x11 x12 xf
         have hS0 : Below wr.heap.size wr wr.drew:=Below.drew (Below.refl _ _)
         have HBL:=hI (show nB (stPs bl)≤1048576 by have h:=HVR.out.2;unfold BindO.Fn.m at h;simp only at h;omega)
         refine RgD.begin_ [] (fun U=>Below wr.heap.size wr U) (by kernel_rfl) hS0 (fun hHeld=>?_)
         refine tK 0 111 (h:=?_)
         simp only [zA,zB,zC]
         refine tK 1 112 (v:=.agg #[.string (str ti),.string (str by_),.string (str st),.int .i64 re,.int .i64 mx,.slice fA fl.length fc,.slice pA pr.length pc,.slice gA gl.length gc,.slice oA ob.length oc,.slice vA vb.length vc,.slice rA ru.length rc,.slice nA fn.length nc,.slice dA dm.length dc]) (hy:=by intro w0 hSw;obtain ⟨x0,x1,x2,x3,x4,x5,x6,x7,x8,x9,x10,x11,x12,xf⟩:=cellz13 (HX0.out _ hSw).1;first | (go_simp;done) | (go_simp;with_reducible rfl) | (go_simp;intro hc;exfalso;omega)) (h:=?_)
         simp only [zA,zB,zC]
         refine tK 2 113 (h:=?_)
         simp only [zA,zB,zC]
         refine tK 3 114 (v:=.slice (some ⟨b,o,none⟩) dm.length dc) (hy:=by intro w0 hSw;have x9:=(HX0.out _ hSw).2;first | (go_simp;done) | (go_simp;with_reducible rfl) | (go_simp;intro hc;exfalso;omega)) (h:=?_)
         simp only [zA,zB,zC]
         refine tK 4 115 (h:=?_)
         simp only [zA,zB,zC]
         refine tK 5 116 (h:=?_)
         simp only [zA,zB,zC]
         refine tK 6 117 (h:=?_)
         simp only [zA,zB,zC]
         refine tK 7 118 (v:=.slice bA bl.length bc) (hy:=by intro w0 hSw;obtain ⟨d0,d1,d2⟩:=HD.out _ hSw;first | (go_simp;done) | (go_simp;with_reducible rfl) | (go_simp;intro hc;exfalso;omega)) (h:=?_)
         simp only [zA,zB,zC]
         refine RgD.two (i:=8) (j:=9) (by kernel_rfl) ?_ ?_
         ·refine RgD.call (i:=8) (t:=119) rfl rfl (by rfl) (by go_simp;exact ⟨rfl,rfl⟩) ?_
          refine (block_c t A1 nA n1 c1 nc fn (.string (str ti)) (.string (str by_)) (.string (str st)) (.int .i64 re) (.int .i64 mx) (.slice fA fl.length fc) (.slice pA pr.length pc) (.slice gA gl.length gc) (.slice oA ob.length oc) (.slice vA vb.length vc) (.slice rA ru.length rc) (.slice dA dm.length dc) 9 _ bl (Nat.le_refl _) HBL.out [] 0 none bA 0 0 bc wr.drew (HC.out.below (HBT.out _ (HBY.out _ (hS0)))).cv (Sq.Rd.nil _ _) (Lg.keep stays_s (Keep.below (HBT.out _ (HBY.out _ (hS0)))) HVR.out.1.2) (by have:=HBL.out;simp;omega) (by have:=HBL.out;omega)).mono ?_
          rintro r w9 ⟨er9,s9,rfl,hp,hb⟩
          have HP9:=hI hp
          have hS9:=(hS0).trans (hb.mono (hS0).size)
          have HS9:=hI hS9
          clear hb hp
          refine ⟨_,rfl,hS9,?_⟩
          simp only [zA,zB,zC]
          refine RgD.one (i:=9) (by kernel_rfl) ?_
          obtain ⟨w10,hw10⟩ : ∃ W,w9.alloc (.cells #[.int .i64 0,.string ⟨#[]⟩] 125)=W:=⟨_,rfl⟩
          obtain ⟨m10,s10,b10⟩:=made hw10
          have hS10:=(HS9.out).trans (b10.mono (HS9.out).size)
          have HS10:=hI hS10
          have HM10:=hI (show w10.heap[w9.heap.size]?=_ from m10)
          have HQ10:=hI (show wr.heap.size≤w9.heap.size from (HS9.out).size)
          refine RgD.eff (i:=9) (t:=15) (v:=.pointer (some ⟨w9.heap.size,0,none⟩)) (w1:=w10) rfl rfl (by rfl) (by first | (go_simp;done) | (go_simp;exact ⟨rfl,hw10⟩) | (go_simp;rw [hw10];rfl) | (go_simp;exact hw10)) hS10 ?_
          simp only [zA,zB,zC]
          clear hw10
          refine RgD.one (i:=10) (by kernel_rfl) ?_
          obtain ⟨g0,g1,gf⟩:=cells2 HM10.out
          have HM11:=hI (set2 (y0:=.int .i64 er9) (y1:=.string (str s9)) HM10.out)
          have HS11:=hI (set2_below (y0:=.int .i64 er9) (y1:=.string (str s9)) (HS10.out) HQ10.out)
          obtain ⟨w11,hw11⟩ : ∃ W,(w10.setCell ⟨w9.heap.size,0,none⟩ (.int .i64 er9)).setCell ⟨w9.heap.size,1,none⟩ (.string (str s9))=W:=⟨_,rfl⟩
          rw [hw11] at HM11 HS11
          refine RgD.storeS (i:=10) (w1:=w11) rfl rfl (by rfl) (by first | (go_simp;done) | (go_simp;exact hw11) | (go_simp;rw [hw11])) HS11.out ?_
          clear g0 g1 gf hw11
          refine RgD.done (by kernel_rfl) ?_ _
          clear hS0
          obtain ⟨g0,g1,gf⟩:=cells2 HM11.out
          by_cases he0 : er9=0
          ·have qe : (er9 != 0)=false:=by simp [he0]
           have HE:=hI (HP9.out he0)
           clear he0
           go_wp2_with fail
           go_roundw
           case rel=>exact ⟨j + 1,by omega,by go_num,hI (by intro x hx;rw [HTK.out] at hx;rcases List.mem_append.1 hx with hx | hx;exact HQ.out x hx;rw [List.mem_singleton] at hx;subst hx;exact HE.out),HBY.out _ HS11.out⟩
           case measure=>simp [intOf];omega
          ·have qe : (er9 != 0)=true:=by simp [he0]
           have HN:=hI he0
           clear he0
           go_wp2_with fail
           refine (fault_r er9 9 (j : Int) s9 w11).mono ?_
           rintro e w6 ⟨rfl,hb⟩
           have HB6:=hI ((HBY.out _ HS11.out).trans (hb.mono (HBY.out _ HS11.out).size))
           clear hb
           obtain ⟨r0,r1,r2,r3,rf⟩:=cellz4 (HO1.out w6 (HB6.out))
           obtain ⟨X,hX⟩ : ∃ X,(((w6.setCell ⟨p1,0,none⟩ (.int .i64 er9)).setCell ⟨p1,1,none⟩ (.int .i64 9)).setCell ⟨p1,2,none⟩ (.int .i64 (j : Int))).setCell ⟨p1,3,none⟩ (.string (str s9))=X:=⟨_,rfl⟩
           have HX:=hI (show X.heap[p1]?=some (.cells #[.int .i64 er9,.int .i64 9,.int .i64 (j : Int),.string (str s9)] 55 (0,0)) by rw [← hX];exact set4 (HO1.out w6 (HB6.out)))
           have HXB:=hI (show Below w.heap.size w X by rw [← hX];exact set4_below (HBT.out _ (HB6.out)) HPL.out)
           go_wp2_with ((with_reducible refine ret_f 4 p1 (.int .i64 er9) (.int .i64 9) (.int .i64 (j : Int)) (.string (str s9)) ?_ ?_ ?_ ?_ ?_);exact HX.out;rfl;rfl;rfl;exact ⟨er9,9,(j : Int),s9,rfl,(fun h=>absurd h HN.out),HXB.out⟩)
         ·obtain ⟨w10,hw10⟩ : ∃ W,wr.drew.alloc (.cells #[.int .i64 0,.string ⟨#[]⟩] 125)=W:=⟨_,rfl⟩
          obtain ⟨m10,s10,b10⟩:=made hw10
          have hS10:=(hS0).trans (b10.mono (hS0).size)
          have HS10:=hI hS10
          have HM10:=hI (show w10.heap[wr.heap.size]?=_ from m10)
          have HQ10:=hI (show wr.heap.size≤wr.heap.size from (hS0).size)
          refine RgD.eff (i:=9) (t:=15) (v:=.pointer (some ⟨wr.heap.size,0,none⟩)) (w1:=w10) rfl rfl (by rfl) (by first | (go_simp;done) | (go_simp;exact ⟨rfl,hw10⟩) | (go_simp;rw [hw10];rfl) | (go_simp;exact hw10)) hS10 ?_
          simp only [zA,zB,zC]
          clear hw10
          refine RgD.one (i:=8) (by kernel_rfl) ?_
          refine RgD.call (i:=8) (t:=119) rfl rfl (by rfl) (by go_simp;exact ⟨rfl,rfl⟩) ?_
          refine (block_c t A1 nA n1 c1 nc fn (.string (str ti)) (.string (str by_)) (.string (str st)) (.int .i64 re) (.int .i64 mx) (.slice fA fl.length fc) (.slice pA pr.length pc) (.slice gA gl.length gc) (.slice oA ob.length oc) (.slice vA vb.length vc) (.slice rA ru.length rc) (.slice dA dm.length dc) 9 _ bl (Nat.le_refl _) HBL.out [] 0 none bA 0 0 bc w10 (HC.out.below (HBT.out _ (HBY.out _ (HS10.out)))).cv (Sq.Rd.nil _ _) (Lg.keep stays_s (Keep.below (HBT.out _ (HBY.out _ (HS10.out)))) HVR.out.1.2) (by have:=HBL.out;simp;omega) (by have:=HBL.out;omega)).mono ?_
          rintro r w9 ⟨er9,s9,rfl,hp,hb⟩
          have HP9:=hI hp
          have hS9:=(HS10.out).trans (hb.mono (HS10.out).size)
          have HS9:=hI hS9
          have HM10:=hI ((hb.block _ (Array.getElem?_eq_some_iff.1 HM10.out).1).trans HM10.out)
          clear hb hp
          refine ⟨_,rfl,hS9,?_⟩
          simp only [zA,zB,zC]
          refine RgD.one (i:=10) (by kernel_rfl) ?_
          obtain ⟨g0,g1,gf⟩:=cells2 HM10.out
          have HM11:=hI (set2 (y0:=.int .i64 er9) (y1:=.string (str s9)) HM10.out)
          have HS11:=hI (set2_below (y0:=.int .i64 er9) (y1:=.string (str s9)) (HS9.out) HQ10.out)
          obtain ⟨w11,hw11⟩ : ∃ W,(w9.setCell ⟨wr.heap.size,0,none⟩ (.int .i64 er9)).setCell ⟨wr.heap.size,1,none⟩ (.string (str s9))=W:=⟨_,rfl⟩
          rw [hw11] at HM11 HS11
          refine RgD.storeS (i:=10) (w1:=w11) rfl rfl (by rfl) (by first | (go_simp;done) | (go_simp;exact hw11) | (go_simp;rw [hw11])) HS11.out ?_
          clear g0 g1 gf hw11
          refine RgD.done (by kernel_rfl) ?_ _
          clear hS0
          obtain ⟨g0,g1,gf⟩:=cells2 HM11.out
          by_cases he0 : er9=0
          ·have qe : (er9 != 0)=false:=by simp [he0]
           have HE:=hI (HP9.out he0)
           clear he0
           go_wp2_with fail
           go_roundw
           case rel=>exact ⟨j + 1,by omega,by go_num,hI (by intro x hx;rw [HTK.out] at hx;rcases List.mem_append.1 hx with hx | hx;exact HQ.out x hx;rw [List.mem_singleton] at hx;subst hx;exact HE.out),HBY.out _ HS11.out⟩
           case measure=>simp [intOf];omega
          ·have qe : (er9 != 0)=true:=by simp [he0]
           have HN:=hI he0
           clear he0
           go_wp2_with fail
           refine (fault_r er9 9 (j : Int) s9 w11).mono ?_
           rintro e w6 ⟨rfl,hb⟩
           have HB6:=hI ((HBY.out _ HS11.out).trans (hb.mono (HBY.out _ HS11.out).size))
           clear hb
           obtain ⟨r0,r1,r2,r3,rf⟩:=cellz4 (HO1.out w6 (HB6.out))
           obtain ⟨X,hX⟩ : ∃ X,(((w6.setCell ⟨p1,0,none⟩ (.int .i64 er9)).setCell ⟨p1,1,none⟩ (.int .i64 9)).setCell ⟨p1,2,none⟩ (.int .i64 (j : Int))).setCell ⟨p1,3,none⟩ (.string (str s9))=X:=⟨_,rfl⟩
           have HX:=hI (show X.heap[p1]?=some (.cells #[.int .i64 er9,.int .i64 9,.int .i64 (j : Int),.string (str s9)] 55 (0,0)) by rw [← hX];exact set4 (HO1.out w6 (HB6.out)))
           have HXB:=hI (show Below w.heap.size w X by rw [← hX];exact set4_below (HBT.out _ (HB6.out)) HPL.out)
           go_wp2_with ((with_reducible refine ret_f 4 p1 (.int .i64 er9) (.int .i64 9) (.int .i64 (j : Int)) (.string (str s9)) ?_ ?_ ?_ ?_ ?_);exact HX.out;rfl;rfl;rfl;exact ⟨er9,9,(j : Int),s9,rfl,(fun h=>absurd h HN.out),HXB.out⟩)
        ·have hjm : j=dm.length:=by omega
         have HTK:=hI (show dm.take j=dm from by rw [hjm];exact List.take_length ..)
         go_wp2_with fail
         go_meet
         exact ⟨rfl,hI (by have h:=HQ.out;rw [HTK.out] at h;exact h),HB.out⟩
      case rest=>
       clear x0 x1 x2 x3 x4 x5 x6 x7 x8 x9 x10 x11 x12 xf HB
       obtain ⟨rfl,HQ4,hb⟩:=hcut
       have HB:=hI hb
       clear hb
       obtain ⟨wd,hwd⟩ : ∃ W,W=wc:=⟨_,rfl⟩
       rw [← hwd] at HB ⊢
       clear hwd
       obtain ⟨x0,x1,x2,x3,x4,x5,x6,x7,x8,x9,x10,x11,x12,xf⟩:=cellz13 (HO0.out wd HB.out)
       obtain ⟨r0,r1,r2,r3,rf⟩:=cellz4 (HO1.out wd (HB.out))
       obtain ⟨X,hX⟩ : ∃ X,(((wd.setCell ⟨p1,0,none⟩ (.int .i64 0)).setCell ⟨p1,1,none⟩ (.int .i64 0)).setCell ⟨p1,2,none⟩ (.int .i64 0)).setCell ⟨p1,3,none⟩ (.string ⟨#[]⟩)=X:=⟨_,rfl⟩
       have HX:=hI (show X.heap[p1]?=some (.cells #[.int .i64 0,.int .i64 0,.int .i64 0,.string ⟨#[]⟩] 55 (0,0)) by rw [← hX];exact set4 (HO1.out wd (HB.out)))
       have HXB:=hI (show Below w.heap.size w X by rw [← hX];exact set4_below (HBT.out _ (HB.out)) HPL.out)
       go_wp2_with ((with_reducible refine ret_f 4 p1 (.int .i64 0) (.int .i64 0) (.int .i64 0) (.string ⟨#[]⟩) ?_ ?_ ?_ ?_ ?_);exact HX.out;rfl;rfl;rfl;exact ⟨0,0,0,[],rfl,(fun _=>⟨rfl,rfl,rfl,by rw [HCX.out];exact ⟨HQ0.out,HQ2.out,HQ3.out,HQ4.out⟩⟩),HXB.out⟩)
 ·have qe : (er5 != 0)=true:=by simp [he0]
  have HN:=hI he0
  clear he0
  go_wp2_with fail
  refine (fault_r er5 1 0 s5 V5).mono ?_
  rintro e w6 ⟨rfl,hb⟩
  have HB6:=hI ((HB5.out).trans (hb.mono (HB5.out).size))
  clear hb
  obtain ⟨r0,r1,r2,r3,rf⟩:=cellz4 (HO1.out w6 (HB6.out))
  obtain ⟨X,hX⟩ : ∃ X,(((w6.setCell ⟨p1,0,none⟩ (.int .i64 er5)).setCell ⟨p1,1,none⟩ (.int .i64 1)).setCell ⟨p1,2,none⟩ (.int .i64 0)).setCell ⟨p1,3,none⟩ (.string (str s5))=X:=⟨_,rfl⟩
  have HX:=hI (show X.heap[p1]?=some (.cells #[.int .i64 er5,.int .i64 1,.int .i64 0,.string (str s5)] 55 (0,0)) by rw [← hX];exact set4 (HO1.out w6 (HB6.out)))
  have HXB:=hI (show Below w.heap.size w X by rw [← hX];exact set4_below (HBT.out _ (HB6.out)) HPL.out)
  go_wp2_with ((with_reducible refine ret_f 4 p1 (.int .i64 er5) (.int .i64 1) (.int .i64 0) (.string (str s5)) ?_ ?_ ?_ ?_ ?_);exact HX.out;rfl;rfl;rfl;exact ⟨er5,1,0,s5,rfl,(fun h=>absurd h HN.out),HXB.out⟩)
end Go.Proofs.YteibcfpepdbflaaGreat.CkM
