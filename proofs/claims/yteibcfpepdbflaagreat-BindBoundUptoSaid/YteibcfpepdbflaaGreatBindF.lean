/- clewref10.Same, sameArgs: expressions that are the same as plain trees. Conditions: sizes within the reach. -/
import Derived.Test.YteibcfpepdbflaaGreatCkM
import Derived.Test.YteibcfpepdbflaaGreatCkD
import Derived.Test.YteibcfpepdbflaaGreatMkC
import Derived.Test.YteibcfpepdbflaaGreatRtF
import Derived.Test.YteibcfpepdbflaaGreatTxA
import Derived.Test.YteibcfpepdbflaaGreatBindJ
import Derived.Test.YteibcfpepdbflaaGreatBindR
import Derived.Test.YteibcfpepdbflaaGreatTxW
import Derived.Test.YteibcfpepdbflaaGreatBindN
import Derived.Outline
import Derived.Deep.DeepCutAuto
import Derived.IntWalk
import Derived.Deep.QuietTactic
import Derived.BigQuiet
import Derived.Test.YteibcfpepdbflaaGreatBindX
open Go.Lib renaming hid → hI
open Go.Proofs.YteibcfpepdbflaaGreat.RgD renaming tk → tK, sA → zA, s0 → zB, s1 → zC
namespace Go.Proofs.YteibcfpepdbflaaGreat.CkN
open Go Go.RowKit BindP BindD BindO BindW BindG BindX BindB BindT BindU TxA RtS RtX RtY RtD RtF MkA MkB MkP MkC CkP CkA CkB CkD CkE CkM
open Byt (str)
theorem ens_nu (so : So) (hz : So.m so≤1048576) : ∀ y ∈ ens so,0≤y.nu∧y.nu≤2097152:=by
 have h1 : ∀ (ki pa fr mo : Int) (l : List S),0≤fr→fr≤4→l.length≤1048576→∀ y ∈ ens1 ki pa fr mo l,0≤y.nu∧y.nu≤2097152:=by
  intro ki pa fr mo l h0 h4 hl y hy
  unfold ens1 at hy
  obtain ⟨i,hi,rfl⟩:=List.mem_mapIdx.1 hy
  simp only
  omega
 have hl:=ens_len so hz
 intro y hy
 unfold ens at hy hl
 simp only [List.length_append,ens1_len,List.length_map] at hl
 simp only [List.mem_append] at hy
 rcases hy with (((((hy | hy) | hy) | hy) | hy) | hy) | hy
 all_goals exact h1 _ _ _ _ _ (by omega) (by omega) (by first | omega | (simp only [List.length_map];omega)) y hy
theorem mk_nb {so : So} {T : List Nm} (h : Mk (ens so) T) (hz : So.m so≤1048576) : ∀ k s,0≤ofN T k s∧ofN T k s≤2097152:=by
 intro k s
 unfold ofN
 cases hf : findN T s with
 | none=>
  show 0≤(0 : Int)∧(0 : Int)≤2097152
  decide
 | some x=>
  have hx : x ∈ T:=List.mem_of_find?_eq_some hf
  simp only
  split
  ·rcases (h.mem x).1 hx with hb | ⟨y,hy,rfl⟩
   ·simp only [base,List.mem_cons,List.not_mem_nil,or_false] at hb
    rcases hb with rfl | rfl | rfl | rfl <;> exact ⟨by decide,by decide⟩
   ·exact ens_nu so hz y hy
  ·exact ⟨Int.le_refl _,by decide⟩
def FineV (so : So) (w : World) (e : Ending) (w' : World) : Prop:=∃ (A : Option Addr) (T : List Nm) (c : Nat) (b : Bool),e=.returned (.tuple #[.slice A T.length c,.bool b])∧(b=true→T.length≤c∧Sk.Rd nmE w' A T.length T∧Mk (ens so) T∧SoP so∧SoC T so)∧Below w.heap.size w w'
set_option maxRecDepth 100000 in
set_option maxHeartbeats 64000000 in
theorem fine_c (so : So) (w : World) (hr : So.R top w so) (hz : So.m so≤1048576) :
  Calls Tryz.prog 5 #[.agg (So.e so).toArray] w (FineV so w):=by
 have HRI:=hI (fun u (hu : Below w.heap.size w u)=>right_s so u (So.stays _ _ _ _ _ (Keep.below hu) hr) hz)
 have HMK:=hI (fun u (hu : Below w.heap.size w u)=>make_r so u (So.stays _ _ _ _ _ (Keep.below hu) hr) hz)
 have HCK:=hI (fun u (hu : Below w.heap.size w u) (T : List Nm) (A : Option Addr) (c : Nat) (ht : Sk.Rd nmE u A T.length T) (hm : Mk (ens so) T)=>check_c T so A T.length c u (So.stays _ _ _ _ _ (Keep.below hu) hr) hz ht (by have h1:=hm.len;have h2:=ens_len so hz;omega) (mk_nb hm hz))
 obtain ⟨FV,hFV⟩ : ∃ p,p=FineV so w:=⟨_,rfl⟩
 have HFV:=hI (show ∀ e w',(∃ (A : Option Addr) (T : List Nm) (c : Nat) (b : Bool),e=.returned (.tuple #[.slice A T.length c,.bool b])∧(b=true→T.length≤c∧Sk.Rd nmE w' A T.length T∧Mk (ens so) T∧SoP so∧SoC T so)∧Below w.heap.size w w')→FV e w' from fun e w' h=>by rw [hFV];exact h)
 have HNO:=hI (show ∀ w',Below w.heap.size w w'→FV (.returned (.tuple #[.slice none 0 0,.bool false])) w' from fun w' h=>HFV.out _ _ ⟨none,[],0,false,rfl,(fun h=>by cases h),h⟩)
 obtain ⟨SP,hSP⟩ : ∃ p,p=SoP so:=⟨_,rfl⟩
 have HSP:=hI hSP
 rw [← hSP] at HRI
 obtain ⟨so0,hso0⟩ : ∃ x,x=so:=⟨_,rfl⟩
 have HSO:=hI hso0
 rw [← hFV]
 rw [← hso0] at HFV HCK HMK HRI HSP
 obtain ⟨ti,by_,st,re,mx,⟨fA,fc,fl⟩,⟨pA,pc,pr⟩,⟨gA,gc,gl⟩,⟨oA,oc,ob⟩,⟨vA,vc,vb⟩,⟨rA,rc,ru⟩,⟨nA,nc,fn⟩,⟨dA,dc,dm⟩⟩:=so
 have zR : ru.length≤1048576:=Nat.le_trans (sum_len (m:=Rl.m) (fun _=>by unfold Rl.m;omega) ru) (by unfold So.m at hz;simp only at hz;omega)
 have zO : ob.length≤1048576:=Nat.le_trans (sum_len (m:=Ob.m) (fun _=>by unfold Ob.m;omega) ob) (by unfold So.m at hz;simp only at hz;omega)
 have HZ:=hI (show (ru.map Rl.m).sum≤1048576 by unfold So.m at hz;simp only at hz;omega)
 have HRU:=hI (show Lg Rl.e Rl.R top w rA rc ru from hr.2.2.2.2.2.1)
 have HAG : (So.e so0).toArray=#[.string (str ti),.string (str by_),.string (str st),.int .i64 re,.int .i64 mx,.slice fA fl.length fc,.slice pA pr.length pc,.slice gA gl.length gc,.slice oA ob.length oc,.slice vA vb.length vc,.slice rA ru.length rc,.slice nA fn.length nc,.slice dA dm.length dc]:=by rw [hso0];rfl
 rw [HAG] at HRI HMK HCK
 clear hr hz hFV hSP HAG hso0 HSO
 show Calls Tryz.prog 5 #[.agg #[.string (str ti),.string (str by_),.string (str st),.int .i64 re,.int .i64 mx,.slice fA fl.length fc,.slice pA pr.length pc,.slice gA gl.length gc,.slice oA ob.length oc,.slice vA vb.length vc,.slice rA ru.length rc,.slice nA fn.length nc,.slice dA dm.length dc]] w _
 obtain ⟨V,hV⟩ : ∃ W,w.alloc (.cells #[.string (str ti),.string (str by_),.string (str st),.int .i64 re,.int .i64 mx,.slice fA fl.length fc,.slice pA pr.length pc,.slice gA gl.length gc,.slice oA ob.length oc,.slice vA vb.length vc,.slice rA ru.length rc,.slice nA fn.length nc,.slice dA dm.length dc] 29)=W:=⟨_,rfl⟩
 obtain ⟨m1,s1,b1⟩:=made hV
 have HO0:=hI (show ∀ U,Below V.heap.size V U→U.heap[w.heap.size]?=some (.cells #[.string (str ti),.string (str by_),.string (str st),.int .i64 re,.int .i64 mx,.slice fA fl.length fc,.slice pA pr.length pc,.slice gA gl.length gc,.slice oA ob.length oc,.slice vA vb.length vc,.slice rA ru.length rc,.slice nA fn.length nc,.slice dA dm.length dc] 29 (0,0)) from fun U h=>(h.block _ (Array.getElem?_eq_some_iff.1 m1).1).trans m1)
 have HBV:=hI b1
 have HBT:=hI (show ∀ U,Below V.heap.size V U→Below w.heap.size w U from fun U h=>HBV.out.trans (h.mono HBV.out.size))
 obtain ⟨p0,hp0⟩ : ∃ p,w.heap.size=p:=⟨_,rfl⟩
 rw [hp0] at HO0
 clear m1 s1 b1
 go_enter Tryz.func5,Tryz.ntmps5
 go_wp2_with fail
 clear hV hp0
 go_loopw [4,5] (fun nv iv wr=>∃ (j z : Nat),j≤ru.length∧nv=.int .i64 (z : Int)∧iv=.int .i64 (j : Int)∧Hid (z≤((ru.take j).map Rl.m).sum)∧Below V.heap.size V wr) (fun _ iv _=>ru.length - (intOf iv).toNat)
 case atStart=>exact ⟨0,0,Nat.zero_le _,rfl,rfl,hI (by simp),Below.refl _ _⟩
 case round=>
  obtain ⟨j,z,hj,rfl,rfl,HQ,hb⟩:=hrel
  have HB:=hI hb
  clear hb
  have k0 : (0 : Int)≤(j : Int):=by omega
  obtain ⟨x0,x1,x2,x3,x4,x5,x6,x7,x8,x9,x10,x11,x12,xf⟩:=cellz13 (HO0.out wr HB.out)
  by_cases hlt : j < ru.length
  ·have k1 : (j : Int) < (ru.length : Int):=by omega
   obtain ⟨b,o,he,hbz,hc⟩:=Lg.at_ Rl.len (Lg.keep Rl.stays (Keep.below (HBT.out wr HB.out)) HRU.out) hlt
   have hmem : ru[j] ∈ ru:=List.getElem_mem hlt
   have hts:=take_sum Rl.m hlt
   have htm : ((ru.take (j + 1)).map Rl.m).sum=((ru.take j).map Rl.m).sum + Rl.m ru[j]:=by rw [List.take_succ_eq_append_getElem hlt,List.map_append,List.sum_append];simp only [List.map_cons,List.map_nil,List.sum_cons,List.sum_nil,Nat.add_zero]
   have hrd:=(Lg.keep Rl.stays (Keep.below (HBT.out wr HB.out)) HRU.out).2 _ hmem
   obtain ⟨y,hy⟩ : ∃ y,ru[j]=y:=⟨_,rfl⟩
   rw [hy] at hc hts htm hrd
   obtain ⟨rvb,rph,rno,rse,⟨wA,cw,wl⟩,⟨bA,bc,bl⟩⟩:=y
   have hmm : nB (stPs bl)≤Rl.m ⟨rvb,rph,rno,rse,⟨wA,cw,wl⟩,⟨bA,bc,bl⟩⟩:=by unfold Rl.m;simp only;omega
   have hz2:=HZ.out
   have hq:=HQ.out
   have hcl:=cnt_le (stPs bl)
   have HBL:=hI (show nB (stPs bl)≤1048576∧Ls top wr bA bc bl from ⟨by omega,hrd.2⟩)
   obtain ⟨cn,hcn⟩ : ∃ x,cnt (stPs bl)=x:=⟨_,rfl⟩
   have HCN:=hI hcn
   have hb1 : z + cn≤1048576:=by omega
   have HQ2:=hI (show z + cn≤((ru.take (j + 1)).map Rl.m).sum by omega)
   have x10b : wr.cell? ⟨p0,10,none⟩=some (.slice (some ⟨b,o,none⟩) ru.length rc):=by rw [x10,he]
   have c5 : wr.cell? ⟨b,o + j * 6 + 5,none⟩=some (.slice bA bl.length bc):=hc 5 _ rfl
   clear hc hy hmem hbz he x10 hts htm hrd hmm hz2 hq hcl hcn
   go_wp2_with (go_at_call 13;refine (size_r _ bl (Nat.le_refl _) HBL.out.1 bA bc wr HBL.out.2).mono ?_;rintro e w3 ⟨rfl,hb⟩;rw [HCN.out];have HB3:=hI (HB.out.trans (hb.mono HB.out.size));clear hb x0 x1 x2 x3 x4 x5 x6 x7 x8 x9 x10b x11 x12 xf c5)
   go_roundw
   case rel=>exact ⟨j + 1,z + cn,by omega,by go_num,by go_num,HQ2,HB3.out⟩
   case measure=>simp [intOf];omega
  ·have hjm : j=ru.length:=by omega
   have HZZ:=hI hjm
   have hzz : z≤1048576:=by have h:=HQ.out;rw [hjm,List.take_length] at h;have:=HZ.out;omega
   clear hjm
   by_cases h1 : 130 < ob.length
   ·have q1 : decide ((130 : Int) < (ob.length : Int))=true:=decide_eq_true (by omega)
    have q1b : decide (130 < ob.length)=true:=decide_eq_true h1
    go_wp2_with fail
    exact HNO.out _ (HBT.out wr HB.out)
   have q1 : decide ((130 : Int) < (ob.length : Int))=false:=decide_eq_false (by omega)
   have q1b : decide (130 < ob.length)=false:=decide_eq_false h1
   by_cases h2 : 520 < ru.length
   ·have q2 : decide ((520 : Int) < (ru.length : Int))=true:=decide_eq_true (by omega)
    have q2b : decide (520 < ru.length)=true:=decide_eq_true h2
    go_wp2_with fail
    exact HNO.out _ (HBT.out wr HB.out)
   have q2 : decide ((520 : Int) < (ru.length : Int))=false:=decide_eq_false (by omega)
   have q2b : decide (520 < ru.length)=false:=decide_eq_false h2
   by_cases h3 : 600 < z
   ·have q3 : decide ((600 : Int) < (z : Int))=true:=decide_eq_true (by omega)
    have q3b : decide (600 < z)=true:=decide_eq_true h3
    go_wp2_with fail
    exact HNO.out _ (HBT.out wr HB.out)
   have q3 : decide ((600 : Int) < (z : Int))=false:=decide_eq_false (by omega)
   have q3b : decide (600 < z)=false:=decide_eq_false h3
   clear h1 h2 h3
   go_wp2_with fail
   refine (HRI.out wr (HBT.out wr HB.out)).mono ?_
   rintro e w3 ⟨b3,rfl,hp,hb⟩
   have HP3:=hI hp
   have HB3:=hI (HB.out.trans (hb.mono HB.out.size))
   clear hp hb x0 x1 x2 x3 x4 x5 x6 x7 x8 x9 x10 x11 x12 xf
   obtain ⟨x0,x1,x2,x3,x4,x5,x6,x7,x8,x9,x10,x11,x12,xf⟩:=cellz13 (HO0.out w3 HB3.out)
   cases b3
   ·skip
    go_wp2_with fail
    exact HNO.out _ (HBT.out w3 HB3.out)
   go_wp2_with fail
   refine (HMK.out w3 (HBT.out w3 HB3.out)).mono ?_
   rintro e w4 ⟨hb,hmk⟩
   have HB4:=hI (HB3.out.trans (hb.mono HB3.out.size))
   clear hb x0 x1 x2 x3 x4 x5 x6 x7 x8 x9 x10 x11 x12 xf
   rcases hmk with ⟨A,c,T,rfl,hTc,hrd,hmk⟩ | ⟨er,pa,at_,s,hne,rfl⟩
   ·skip
    go_upto_region 9 with fail
    obtain ⟨V5,hV5⟩ : ∃ W,w4.alloc (.cells #[.int .i64 0,.int .i64 0,.int .i64 0,.string ⟨#[]⟩] 55)=W:=⟨_,rfl⟩
    obtain ⟨m5,z5,b5⟩:=made hV5
    have HB5:=hI (HB4.out.trans (b5.mono HB4.out.size))
    obtain ⟨g0,g1,g2,g3,gf⟩:=cellz4 m5
    rw [hV5]
    clear hV5
    have HRT:=hI (hrd.below b5)
    have HMKT:=hI (And.intro hTc hmk)
    clear hrd hmk hTc m5 z5 b5
    obtain ⟨x0,x1,x2,x3,x4,x5,x6,x7,x8,x9,x10,x11,x12,xf⟩:=cellz13 (HO0.out V5 HB5.out)
    go_wp2_with fail
    refine (HCK.out V5 (HBT.out V5 HB5.out) T A c HRT.out HMKT.out.2).mono ?_
    rintro e w6 ⟨er,pa,nu,s,rfl,hp,hb⟩
    have HP6:=hI hp
    have HB6:=hI (HB5.out.trans (hb.mono HB5.out.size))
    have HRT6:=hI (HRT.out.below hb)
    clear hp hb
    by_cases he0 : er=0
    ·subst he0
     obtain ⟨rfl,rfl,rfl,hsc⟩:=HP6.out rfl
     have HSC:=hI hsc
     clear hsc HP6
     have e0 : str ([] : S)=⟨#[]⟩:=rfl
     rw [e0]
     go_wp2_with fail
     refine HFV.out _ _ ⟨A,T,c,true,rfl,fun _=>⟨HMKT.out.1,HRT6.out,HMKT.out.2,by rw [← HSP.out];exact HP3.out (by trivial),HSC.out⟩,HBT.out _ HB6.out⟩
    ·have qe : (er == 0)=false:=beq_eq_false_iff_ne.2 he0
     have qf : (er != 0)=true:=by simp [he0]
     clear he0
     go_wp2_with fail
     exact HNO.out _ (HBT.out _ HB6.out)
   ·have qe : (er == 0)=false:=beq_eq_false_iff_ne.2 hne
    have qf : (er != 0)=true:=by simp [hne]
    clear hne
    obtain ⟨V5,hV5⟩ : ∃ W,w4.alloc (.cells #[.int .i64 er,.int .i64 pa,.int .i64 at_,.string (str s)] 55)=W:=⟨_,rfl⟩
    obtain ⟨m5,z5,b5⟩:=made hV5
    have HB5:=hI (HB4.out.trans (b5.mono HB4.out.size))
    obtain ⟨g0,g1,g2,g3,gf⟩:=cellz4 m5
    clear m5 z5 b5
    go_wp2_with fail
    exact HNO.out _ (HBT.out _ HB5.out)
end Go.Proofs.YteibcfpepdbflaaGreat.CkN
namespace Go.Proofs.YteibcfpepdbflaaGreat.TxB
open Go Go.RowKit BindP BindD BindO BindW BindS BindG BindX BindB BindT BindJ BindU TxW TxA
open Byt (str)
structure Rx (V : World) (l : List S) (v : Value) (w : World) : Prop where
 own : Sq.Own sv 9 w V.heap.size v (l.foldl wth [])
 low : Below V.heap.size V w
 len : l.length≤4194304
theorem Rx.grown {V : World} {l : List S} {v : Value} {w w' : World} (h : Rx V l v w) (hb : Below w.heap.size w w') : Rx V l v w':=⟨h.own.below hb,h.low.trans (hb.mono h.low.size),h.len⟩
end Go.Proofs.YteibcfpepdbflaaGreat.TxB
namespace Go.Proofs.YteibcfpepdbflaaGreat.BindE
open Go Go.RowKit BindP BindD BindO BindW
open Byt (str)
set_option maxRecDepth 100000 in
theorem sameTexts_t {A B : Option Addr} {n ca cb : Nat} (l : List S) (w : World) (ha : Sq.Rd sv w A n l) (hb : Sq.Rd sv w B n l) (hn : n≤17592186043904) :
  Calls Tryz.prog 20 #[.slice A n ca,.slice B n cb] w fun e w'=>e=.returned (.bool true)∧Below w.heap.size w w':=by
 have HA:=hI ha
 have HB:=hI hb
 clear ha hb
 go_enter Tryz.func20,Tryz.ntmps20
 go_wp2_with fail
 go_loopw [5] (fun iv wr=>∃ j : Nat,j≤n∧iv=.int .i64 (j : Int)∧Below w.heap.size w wr) (fun iv _=>n - (intOf iv).toNat)
 case atStart=>exact ⟨0,Nat.zero_le _,rfl,Below.refl _ _⟩
 case round=>
  obtain ⟨j,hj,rfl,hbl⟩:=hrel
  have HBL:=hI hbl
  clear hbl
  by_cases hlt : j < n
  ·obtain ⟨b1,o1,rfl,hb1,hl1,hc1⟩:=(HA.out.below HBL.out).at_ hlt
   obtain ⟨b2,o2,rfl,hb2,hl2,hc2⟩:=(HB.out.below HBL.out).at_ hlt
   obtain ⟨y,hy⟩ : ∃ y,l[j]=y:=⟨_,rfl⟩
   rw [hy] at hc1 hc2
   unfold sv at hc1 hc2
   have q:=eq_q (rfl : y=y)
   have k0 : (0 : Int)≤(j : Int):=by omega
   have k1 : (j : Int) < (n : Int):=by omega
   clear hy hl1 hl2
   go_wp2_with fail
   go_quiet (fail)
   go_wp2_with fail
   go_roundw
   case rel=>exact ⟨j + 1,by omega,by go_num,Sq.belowN HBL.out _⟩
   case measure=>simp [intOf];omega
  ·obtain rfl : n=j:=by omega
   go_wp2_with fail
   go_ret
   exact ⟨rfl,HBL.out⟩
end Go.Proofs.YteibcfpepdbflaaGreat.BindE
namespace Go.Proofs.YteibcfpepdbflaaGreat.BindF
open Go Go.RowKit BindP BindD BindO BindW BindN BindG BindX
open Byt (str)
def SameC (x : Ex) : Prop:=∀ (y : Ex) (w : World),RdX top w x→RdX top w y→x.p=y.p→nE x.p≤1048576→Calls Tryz.prog 19 #[.agg (exE x).toArray,.agg (exE y).toArray] w fun e w'=>e=.returned (.bool true)∧Below w.heap.size w w'
set_option maxRecDepth 100000 in
set_option maxHeartbeats 4000000 in
theorem args_t (ar : List Ex) (ih : ∀ x ∈ ar,SameC x) (br : List Ex) (w : World) (A B : Option Addr) (ca cb : Nat) (ha : Lx top w A ca ar) (hb : Lx top w B cb br) (he : exPs ar=exPs br) (hn : nEs (exPs ar)≤1048576) :
  Calls Tryz.prog 41 #[.slice A ar.length ca,.slice B br.length cb] w fun e w'=>e=.returned (.bool true)∧Below w.heap.size w w':=by
 have hlen : ar.length=br.length:=by
  have:=congrArg List.length he
  rw [exPs_map,exPs_map,List.length_map,List.length_map] at this
  exact this
 have hl : ar.length≤1048576:=by
  have h1:=sum_len (m:=fun x : Ex=>nE x.p) (fun x=>nE_pos x.p) ar
  rw [← nEs_sum] at h1
  omega
 obtain ⟨n,hn2⟩ : ∃ n,ar.length=n:=⟨_,rfl⟩
 have hn3 : br.length=n:=by rw [← hlen];exact hn2
 have HNN:=hI (And.intro hn2 hn3)
 have HA:=hI ha
 have HB:=hI hb
 have HIH:=hI ih
 have HE:=hI he
 have HN:=hI hn
 rw [hn2] at hl ⊢
 rw [hn3]
 clear ha hb ih he hn hlen hn2 hn3
 go_enter Tryz.func41,Tryz.ntmps41
 go_wp2_with fail
 go_loopw [5] (fun iv wr=>∃ j : Nat,j≤n∧iv=.int .i64 (j : Int)∧Below w.heap.size w wr) (fun iv _=>n - (intOf iv).toNat)
 case atStart=>exact ⟨0,Nat.zero_le _,rfl,Below.refl _ _⟩
 case round=>
  obtain ⟨j,hj,rfl,hbl⟩:=hrel
  have HBL:=hI hbl
  clear hbl
  by_cases hlt : j < n
  ·have h1 : j < ar.length:=by rw [HNN.out.1];exact hlt
   have h2 : j < br.length:=by rw [HNN.out.2];exact hlt
   obtain ⟨b1,o1,rfl,hb1,hc1⟩:=Lg.at_ exE_len HA.out h1
   obtain ⟨b2,o2,rfl,hb2,hc2⟩:=Lg.at_ exE_len HB.out h2
   obtain ⟨⟨k1,p1,q1,s1,C1,c1,r1⟩,hy1⟩ : ∃ y,ar[j]=y:=⟨_,rfl⟩
   obtain ⟨⟨k2,p2,q2,s2,C2,c2,r2⟩,hy2⟩ : ∃ y,br[j]=y:=⟨_,rfl⟩
   have HM1:=hI (show Ex.mk k1 p1 q1 s1 C1 c1 r1 ∈ ar from hy1 ▸ List.getElem_mem h1)
   have HM2:=hI (show Ex.mk k2 p2 q2 s2 C2 c2 r2 ∈ br from hy2 ▸ List.getElem_mem h2)
   have HR1:=hI (HA.out.2 _ HM1.out)
   have HR2:=hI (HB.out.2 _ HM2.out)
   have HEQ:=hI (show (Ex.mk k1 p1 q1 s1 C1 c1 r1).p=(Ex.mk k2 p2 q2 s2 C2 c2 r2).p by
    have h:=congrArg (fun l : List Pe=>l[j]?) HE.out
    simp only [exPs_map,List.getElem?_map,List.getElem?_eq_getElem h1,List.getElem?_eq_getElem h2,hy1,hy2,Option.map_some,Option.some.injEq] at h
    exact h)
   have HN1:=hI (show nE (Ex.mk k1 p1 q1 s1 C1 c1 r1).p≤1048576 by
    have h:=sum_mem (m:=fun x : Ex=>nE x.p) ar _ HM1.out
    rw [← nEs_sum] at h
    have:=HN.out
    omega)
   rw [hy1] at hc1
   rw [hy2] at hc2
   have hcell1 : ∀ U,Below w.heap.size w U→∀ p,U.cell? ⟨b1,p,none⟩=w.cell? ⟨b1,p,none⟩:=fun U hU p=>hU.cell (p:=⟨b1,p,none⟩) hb1
   have hcell2 : ∀ U,Below w.heap.size w U→∀ p,U.cell? ⟨b2,p,none⟩=w.cell? ⟨b2,p,none⟩:=fun U hU p=>hU.cell (p:=⟨b2,p,none⟩) hb2
   have hSB : ∀ U,Below w.heap.size w U→(U.cell? ⟨b1,o1 + j * 5,none⟩=some (.int .i64 k1)∧U.cell? ⟨b1,o1 + j * 5 + 1,none⟩=some (.int .i64 p1)∧U.cell? ⟨b1,o1 + j * 5 + 2,none⟩=some (.int .i64 q1)∧U.cell? ⟨b1,o1 + j * 5 + 3,none⟩=some (.string (str s1))∧U.cell? ⟨b1,o1 + j * 5 + 4,none⟩=some (.slice C1 r1.length c1))∧(U.cell? ⟨b2,o2 + j * 5,none⟩=some (.int .i64 k2)∧U.cell? ⟨b2,o2 + j * 5 + 1,none⟩=some (.int .i64 p2)∧U.cell? ⟨b2,o2 + j * 5 + 2,none⟩=some (.int .i64 q2)∧U.cell? ⟨b2,o2 + j * 5 + 3,none⟩=some (.string (str s2))∧U.cell? ⟨b2,o2 + j * 5 + 4,none⟩=some (.slice C2 r2.length c2)):=fun U hU=>
    ⟨⟨(hcell1 U hU _).trans (hc1 0 _ rfl),(hcell1 U hU _).trans (hc1 1 _ rfl),(hcell1 U hU _).trans (hc1 2 _ rfl),(hcell1 U hU _).trans (hc1 3 _ rfl),(hcell1 U hU _).trans (hc1 4 _ rfl)⟩,
     ⟨(hcell2 U hU _).trans (hc2 0 _ rfl),(hcell2 U hU _).trans (hc2 1 _ rfl),(hcell2 U hU _).trans (hc2 2 _ rfl),(hcell2 U hU _).trans (hc2 3 _ rfl),(hcell2 U hU _).trans (hc2 4 _ rfl)⟩⟩
   have hS0:=hSB wr.drew (Below.drew HBL.out)
   have i0 : (0 : Int)≤(j : Int):=by omega
   have i1 : (j : Int) < (n : Int):=by omega
   clear hc1 hc2 hcell1 hcell2 hy1 hy2 h1 h2
   go_upto_region 6 with fail
   refine RgD.begin_ [] (fun U : World=>(U.cell? ⟨b1,o1 + j * 5,none⟩=some (.int .i64 k1)∧U.cell? ⟨b1,o1 + j * 5 + 1,none⟩=some (.int .i64 p1)∧U.cell? ⟨b1,o1 + j * 5 + 2,none⟩=some (.int .i64 q1)∧U.cell? ⟨b1,o1 + j * 5 + 3,none⟩=some (.string (str s1))∧U.cell? ⟨b1,o1 + j * 5 + 4,none⟩=some (.slice C1 r1.length c1))∧(U.cell? ⟨b2,o2 + j * 5,none⟩=some (.int .i64 k2)∧U.cell? ⟨b2,o2 + j * 5 + 1,none⟩=some (.int .i64 p2)∧U.cell? ⟨b2,o2 + j * 5 + 2,none⟩=some (.int .i64 q2)∧U.cell? ⟨b2,o2 + j * 5 + 3,none⟩=some (.string (str s2))∧U.cell? ⟨b2,o2 + j * 5 + 4,none⟩=some (.slice C2 r2.length c2))) (by kernel_rfl) hS0 (fun hHeld=>?_)
   refine tK 0 17 (h:=?_)
   simp only [zA,zB,zC]
   refine tK 1 18 (h:=?_)
   simp only [zA,zB,zC]
   refine tK 2 19 (h:=?_)
   simp only [zA,zB,zC]
   refine tK 3 20 (v:=.agg #[.int .i64 k1,.int .i64 p1,.int .i64 q1,.string (str s1),.slice C1 r1.length c1]) (hy:=by intro w0 hSw;obtain ⟨⟨z0,z1,z2,z3,z4⟩,_⟩:=hSw;first | (go_simp;done) | (go_simp;with_reducible rfl) | (go_simp;intro hc;exfalso;omega)) (h:=?_)
   simp only [zA,zB,zC]
   refine tK 4 21 (h:=?_)
   simp only [zA,zB,zC]
   refine tK 5 22 (h:=?_)
   simp only [zA,zB,zC]
   refine tK 6 23 (h:=?_)
   simp only [zA,zB,zC]
   refine tK 7 24 (v:=.agg #[.int .i64 k2,.int .i64 p2,.int .i64 q2,.string (str s2),.slice C2 r2.length c2]) (hy:=by intro w0 hSw;obtain ⟨_,⟨z0,z1,z2,z3,z4⟩⟩:=hSw;first | (go_simp;done) | (go_simp;with_reducible rfl) | (go_simp;intro hc;exfalso;omega)) (h:=?_)
   simp only [zA,zB,zC]
   refine RgD.one (i:=8) (by kernel_rfl) ?_
   refine RgD.call (i:=8) (t:=25) rfl rfl (by rfl) (by go_simp;exact ⟨rfl,rfl⟩) ?_
   refine (HIH.out (Ex.mk k1 p1 q1 s1 C1 c1 r1) HM1.out (Ex.mk k2 p2 q2 s2 C2 c2 r2) wr.drew (HR1.out.keep (Keep.below (Below.drew HBL.out))) (HR2.out.keep (Keep.below (Below.drew HBL.out))) HEQ.out HN1.out).mono ?_
   rintro r w2 ⟨rfl,hb⟩
   have HB2:=hI ((Below.drew HBL.out).trans (hb.mono HBL.out.size))
   have gS2:=hSB _ HB2.out
   clear hb
   refine ⟨_,rfl,gS2,?_⟩
   simp only [zA,zB,zC]
   refine tK 9 26 (v:=.bool false) (h:=?_)
   simp only [zA,zB,zC]
   refine RgD.done (by kernel_rfl) ?_ _
   clear gS2 hSB hS0
   go_wp2_with fail
   go_roundw
   case rel=>exact ⟨j + 1,by omega,by go_num,HB2.out⟩
   case measure=>simp [intOf];omega
  ·obtain rfl : n=j:=by omega
   go_wp2_with fail
   go_ret
   exact ⟨rfl,HBL.out⟩
set_option maxRecDepth 100000 in
set_option maxHeartbeats 4000000 in
theorem same_t : ∀ x : Ex,SameC x:=by
 intro x
 induction x using Ex.ind with
 | _ k o n s A c ar ih=>
  intro y w hx hy he hn
  obtain ⟨k2,o2,n2,s2,B,cb,br⟩:=y
  unfold Ex.p at he
  injection he with e1 e2 e3 e4 e5
  subst e1 e2 e3 e4
  have hn2 : nEs (exPs ar)≤1048576:=by unfold Ex.p nE at hn;omega
  have HX:=hI hx.open_
  have HY:=hI hy.open_
  have HC:=hI (fun (U : World) (hU : Below w.heap.size w U)=>args_t ar ih br U A B c cb (Lg.below stays_x hU HX.out) (Lg.below stays_x hU HY.out) e5 hn2)
  clear hx hy hn e5 ih hn2
  show Calls Tryz.prog 19 #[.agg #[.int .i64 k,.int .i64 o,.int .i64 n,.string (str s),.slice A ar.length c],.agg #[.int .i64 k,.int .i64 o,.int .i64 n,.string (str s),.slice B br.length cb]] w _
  go_enter Tryz.func19,Tryz.ntmps19
  obtain ⟨w1,hw1⟩ : ∃ W,w.alloc (.cells #[.int .i64 k,.int .i64 o,.int .i64 n,.string (str s),.slice A ar.length c] 68)=W:=⟨_,rfl⟩
  obtain ⟨w2,hw2⟩ : ∃ W,w1.alloc (.cells #[.int .i64 k,.int .i64 o,.int .i64 n,.string (str s),.slice B br.length cb] 68)=W:=⟨_,rfl⟩
  obtain ⟨m1,t1,b1⟩:=made hw1
  obtain ⟨m2,t2,b2⟩:=made hw2
  have HB2:=hI (b1.trans (b2.mono (by omega)))
  obtain ⟨x0,x1,x2,x3,x4,xf⟩:=cells5 ((b2.block _ (by omega)).trans m1)
  obtain ⟨y0,y1,y2,y3,y4,yf⟩:=cells5 m2
  have q0:=eq_q (rfl : s=s)
  have q1 : (k != k)=false:=by simp
  have q2 : (o != o)=false:=by simp
  have q3 : (n != n)=false:=by simp
  clear m1 t1 b1 m2 t2 b2
  go_wp2_with fail
  refine (HC.out w2 HB2.out).mono ?_
  rintro e w3 ⟨rfl,hb⟩
  have HB3:=hI (HB2.out.trans (hb.mono HB2.out.size))
  clear hb
  go_wp2_with fail
  go_ret
  exact ⟨rfl,HB3.out⟩
end Go.Proofs.YteibcfpepdbflaaGreat.BindF
