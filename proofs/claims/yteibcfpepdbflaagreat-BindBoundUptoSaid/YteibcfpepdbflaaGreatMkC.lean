/- clewref15.Make: a source's names, or a fault. Conditions: the source is of bulk at most 1048576. -/
import Derived.Test.YteibcfpepdbflaaGreatBnP
import Derived.Test.YteibcfpepdbflaaGreatRtZ
import Derived.Deep.DeepCutAuto
import Derived.Deep.CutBlock
open Go.Lib renaming hid → hI
open Go.Proofs.YteibcfpepdbflaaGreat.RgD renaming tk → tK, sA → zA, s0 → zB, s1 → zC
namespace Go.Proofs.YteibcfpepdbflaaGreat.MkC
open Go Go.RowKit BindP BindD BindO BindW BindG BindX BindB BindT BindU BindN TxA RtS RtX RtD MkA MkB MkP
open Byt (str)
theorem cellz6 {w : World} {b o k : Nat} {x : En} (h : ∀ j u,(En.e x)[j]?=some u→w.cell? ⟨b,o + k * 6 + j,none⟩=some u) : w.cell? ⟨b,o + k * 6,none⟩=some (.string (str x.nm))∧w.cell? ⟨b,o + k * 6 + 1,none⟩=some (.int .i64 x.ki)∧w.cell? ⟨b,o + k * 6 + 2,none⟩=some (.int .i64 x.pa)∧w.cell? ⟨b,o + k * 6 + 3,none⟩=some (.int .i64 x.at_)∧w.cell? ⟨b,o + k * 6 + 4,none⟩=some (.int .i64 x.nu)∧w.cell? ⟨b,o + k * 6 + 5,none⟩=some (.int .i64 x.mo):=
 ⟨h 0 _ rfl,h 1 _ rfl,h 2 _ rfl,h 3 _ rfl,h 4 _ rfl,h 5 _ rfl⟩
theorem results_tmp_cell {fn : Func} {p u : Tmp} {ty : TypeId} (h : fn.results=#[.tmp u,.cell p ty]) (tmps : Array Value) (P : Program) (w : World) :
  (results fn tmps).run P w=((asAddr (tmps.getD p undef)).run P w).andThen fun a w₁=>((loadVar ty a).run P w₁).andThen fun v w₂=>.ok (.tuple #[tmps.getD u undef,v]) w₂:=by
 simp only [results,h]
 simp [Sem.run_bind,Result.andThen]
theorem ret_tc {P : Program} {fn : Func} {Q : Ending→World→Prop} {a : Act} {w : World} {p u : Tmp} {ty : TypeId} {g : Nat} {t' : TypeId} {cs : Array Value} {fr : Nat × Nat} {d : TypeDesc} (hg : w.heap[g]?=some (.cells cs t' fr))
  (h : fn.results=#[.tmp u,.cell p ty]) (hp : a.tmps.getD p undef=.pointer (some ⟨g,0,none⟩)) {x : Value} (hx : a.tmps.getD u undef=x) (hu : P.underlying ty=some d) (hd : (match d with | .struct _ | .array _ _=>true | _=>false)=true) (hi : (P.info? ty).map (·.size)=some cs.size) (hdf : a.defers=[])
  (hq : Q (.returned (.tuple #[x,.agg cs])) w) : bodyPost P fn Q .ret a w:=by
 subst hx
 refine bodyPost_ret ?_ hdf hq
 rw [results_tmp_cell h]
 have hp' : a.tmps[p]?.getD undef=.pointer (some ⟨g,0,none⟩):=by simpa using hp
 simp [hp',asAddr,Result.andThen,run_loadVar_row w g t' ty cs fr _ hg hu hd hi]
theorem set4 {w : World} {g : Nat} {x0 x1 x2 x3 y0 y1 y2 y3 : Value} {t : TypeId} (h : w.heap[g]?=some (.cells #[x0,x1,x2,x3] t (0,0))) : ((((w.setCell ⟨g,0,none⟩ y0).setCell ⟨g,1,none⟩ y1).setCell ⟨g,2,none⟩ y2).setCell ⟨g,3,none⟩ y3).heap[g]?=some (.cells #[y0,y1,y2,y3] t (0,0)):=by
 simp [World.setCell,Array.getElem?_modify,h]
theorem set4_below {w0 w : World} {B g : Nat} {y0 y1 y2 y3 : Value} (h : Below B w0 w) (hg : B≤g) : Below B w0 ((((w.setCell ⟨g,0,none⟩ y0).setCell ⟨g,1,none⟩ y1).setCell ⟨g,2,none⟩ y2).setCell ⟨g,3,none⟩ y3):=
 (((h.setCell (p:=⟨g,0,none⟩) hg _).setCell (p:=⟨g,1,none⟩) hg _).setCell (p:=⟨g,2,none⟩) hg _).setCell (p:=⟨g,3,none⟩) hg _
theorem cellf4 {w : World} {g : Nat} {x0 x1 x2 x3 : Value} {t : TypeId} (h : w.heap[g]?=some (.cells #[x0,x1,x2,x3] t (0,0))) : w.cell? ⟨g,0,none⟩=some x0∧w.cell? ⟨g,1,none⟩=some x1∧w.cell? ⟨g,2,none⟩=some x2∧w.cell? ⟨g,3,none⟩=some x3∧∀ o,w.frozen? ⟨g,o,none⟩=false:=by
 refine ⟨by simp [World.cell?,h],by simp [World.cell?,h],by simp [World.cell?,h],by simp [World.cell?,h],fun o=>by simp [World.frozen?,h]⟩
theorem set_same {w : World} {g i : Nat} {v : Value} {cs : Array Value} {t : TypeId} {fr : Nat × Nat} (h : w.heap[g]?=some (.cells cs t fr)) (hv : cs[i]?=some v) : w.setCell ⟨g,i,none⟩ v=w:=by
 have e : cs.setIfInBounds i v=cs:=by
  apply Array.ext_getElem?
  intro k
  rw [Array.getElem?_setIfInBounds]
  split
  ·rename_i h2;subst h2
   rw [hv];split
   ·rfl
   ·rename_i h3
    rw [Array.getElem?_eq_none (by omega)] at hv;cases hv
  ·rfl
 have e2 : (w.setCell ⟨g,i,none⟩ v).heap=w.heap:=by
  unfold World.setCell
  apply Array.ext_getElem?
  intro k
  simp only [Array.getElem?_modify]
  split
  ·rename_i h2;subst h2;rw [h];simp [e]
  ·rfl
 have e3 : w.setCell ⟨g,i,none⟩ v={ w with heap:=(w.setCell ⟨g,i,none⟩ v).heap }:=rfl
 rw [e3,e2]
theorem set4_same {w : World} {g : Nat} {x0 x1 x2 x3 : Value} {t : TypeId} (h : w.heap[g]?=some (.cells #[x0,x1,x2,x3] t (0,0))) : (((w.setCell ⟨g,0,none⟩ x0).setCell ⟨g,1,none⟩ x1).setCell ⟨g,2,none⟩ x2).setCell ⟨g,3,none⟩ x3=w:=by
 rw [set_same (i:=0) (v:=x0) h rfl,set_same (i:=1) (v:=x1) h rfl,set_same (i:=2) (v:=x2) h rfl,set_same (i:=3) (v:=x3) h rfl]
def MkV (t : So) (w : World) (e : Ending) (w' : World) : Prop:=Below w.heap.size w w' ∧
 ((∃ A c T,e=.returned (.tuple #[.slice A T.length c,.agg #[.int .i64 0,.int .i64 0,.int .i64 0,.string ⟨#[]⟩]])∧T.length≤c∧Sk.Rd nmE w' A T.length T∧Mk (ens t) T) ∨
  ∃ er pa at_ s,er ≠ 0∧e=.returned (.tuple #[.slice none 0 0,.agg #[.int .i64 er,.int .i64 pa,.int .i64 at_,.string (str s)]]))
theorem ens_len (t : So) (hz : So.m t≤1048576) : (ens t).length≤1048576:=by
 obtain ⟨ti,by_,st,re,mx,⟨fA,fc,fl⟩,⟨pA,pc,pr⟩,⟨gA,gc,gl⟩,⟨oA,oc,ob⟩,⟨vA,vc,vb⟩,⟨rA,rc,ru⟩,⟨nA,nc,fn⟩,⟨dA,dc,dm⟩⟩:=t
 have e : So.m ⟨ti,by_,st,re,mx,⟨fA,fc,fl⟩,⟨pA,pc,pr⟩,⟨gA,gc,gl⟩,⟨oA,oc,ob⟩,⟨vA,vc,vb⟩,⟨rA,rc,ru⟩,⟨nA,nc,fn⟩,⟨dA,dc,dm⟩⟩=(ti.length + 1) + (by_.length + 1) + (st.length + 1) + 1 + 1 + ((fl.map fun x=>x.length + 1).sum + 1) + ((pr.map Pr.m).sum + 1) + ((gl.map Pr.m).sum + 1) + ((ob.map Ob.m).sum + 1) + ((vb.map Vb.m).sum + 1) + ((ru.map Rl.m).sum + 1) + ((fn.map BindO.Fn.m).sum + 1) + ((dm.map BindO.Fn.m).sum + 1):=rfl
 rw [e] at hz
 have h1:=sum_len (m:=fun x : S=>x.length + 1) (fun _=>by omega) fl
 have h2:=sum_len (m:=Pr.m) (fun _=>by unfold Pr.m;omega) pr
 have h3:=sum_len (m:=Pr.m) (fun _=>by unfold Pr.m;omega) gl
 have h4:=sum_len (m:=Ob.m) (fun _=>by unfold Ob.m;omega) ob
 have h5:=sum_len (m:=Vb.m) (fun _=>by unfold Vb.m;omega) vb
 have h6:=sum_len (m:=BindO.Fn.m) (fun _=>by unfold BindO.Fn.m;omega) fn
 have h7:=sum_len (m:=BindO.Fn.m) (fun _=>by unfold BindO.Fn.m;omega) dm
 unfold ens
 simp only [List.length_append,ens1_len,List.length_map]
 omega
theorem nm_le {α : Type} {m : α→Nat} {f : α→S} (h : ∀ x,(f x).length≤m x) (ki pa fr mo : Int) (l : List α) {n : Nat} (hs : (l.map m).sum≤n) : ∀ y ∈ ens1 ki pa fr mo (l.map f),y.nm.length≤n:=by
 intro y hy
 unfold ens1 at hy
 obtain ⟨i,hi,rfl⟩:=List.mem_mapIdx.1 hy
 have hi2 : i < l.length:=by simpa using hi
 have h1:=take_sum m hi2
 have h2:=h l[i]
 simp only [List.getElem_map]
 omega
theorem ens_nm (t : So) (hz : So.m t≤1048576) : ∀ y ∈ ens t,y.nm.length≤1048576:=by
 obtain ⟨ti,by_,st,re,mx,⟨fA,fc,fl⟩,⟨pA,pc,pr⟩,⟨gA,gc,gl⟩,⟨oA,oc,ob⟩,⟨vA,vc,vb⟩,⟨rA,rc,ru⟩,⟨nA,nc,fn⟩,⟨dA,dc,dm⟩⟩:=t
 have e : So.m ⟨ti,by_,st,re,mx,⟨fA,fc,fl⟩,⟨pA,pc,pr⟩,⟨gA,gc,gl⟩,⟨oA,oc,ob⟩,⟨vA,vc,vb⟩,⟨rA,rc,ru⟩,⟨nA,nc,fn⟩,⟨dA,dc,dm⟩⟩=(ti.length + 1) + (by_.length + 1) + (st.length + 1) + 1 + 1 + ((fl.map fun x=>x.length + 1).sum + 1) + ((pr.map Pr.m).sum + 1) + ((gl.map Pr.m).sum + 1) + ((ob.map Ob.m).sum + 1) + ((vb.map Vb.m).sum + 1) + ((ru.map Rl.m).sum + 1) + ((fn.map BindO.Fn.m).sum + 1) + ((dm.map BindO.Fn.m).sum + 1):=rfl
 rw [e] at hz
 unfold ens
 intro y hy
 simp only [List.mem_append] at hy
 rcases hy with (((((hy | hy) | hy) | hy) | hy) | hy) | hy
 ·exact nm_le (m:=fun x : S=>x.length + 1) (f:=id) (fun x=>by simp) _ _ _ _ fl (by omega) y (by simpa using hy)
 ·exact nm_le (m:=Pr.m) (fun x=>by unfold Pr.m;omega) _ _ _ _ pr (by omega) y hy
 ·exact nm_le (m:=Pr.m) (fun x=>by unfold Pr.m;omega) _ _ _ _ gl (by omega) y hy
 ·exact nm_le (m:=Ob.m) (fun x=>by unfold Ob.m;omega) _ _ _ _ ob (by omega) y hy
 ·exact nm_le (m:=Vb.m) (fun x=>by unfold Vb.m;omega) _ _ _ _ vb (by omega) y hy
 ·exact nm_le (m:=BindO.Fn.m) (fun x=>by unfold BindO.Fn.m;omega) _ _ _ _ fn (by omega) y hy
 ·exact nm_le (m:=BindO.Fn.m) (fun x=>by unfold BindO.Fn.m;omega) _ _ _ _ dm (by omega) y hy
set_option maxRecDepth 100000 in
set_option maxHeartbeats 16000000 in
theorem make_r (t : So) (w : World) (hr : So.R top w t) (hz : So.m t≤1048576) : Calls Tryz.prog 15 #[.agg (So.e t).toArray] w (MkV t w):=by
 have HLE:=hI (ens_len t hz)
 have HNM:=hI (ens_nm t hz)
 have HZ:=hI hz
 obtain ⟨l,hl⟩ : ∃ l,ens t=l:=⟨_,rfl⟩
 have HMV:=hI (show ∀ e w2,(Below w.heap.size w w2∧((∃ A c T,e=.returned (.tuple #[.slice A T.length c,.agg #[.int .i64 0,.int .i64 0,.int .i64 0,.string ⟨#[]⟩]])∧T.length≤c∧Sk.Rd nmE w2 A T.length T∧Mk l T)∨∃ er pa at_ s,er ≠ 0∧e=.returned (.tuple #[.slice none 0 0,.agg #[.int .i64 er,.int .i64 pa,.int .i64 at_,.string (str s)]])))→MkV t w e w2 from fun e w2 h=>by rw [← hl] at h;exact h)
 generalize MkV t w=MV at HMV ⊢
 have HAL:=hI (fun U (h : So.R top U t)=>all_r t U h hz)
 rw [hl] at HAL HLE HNM
 clear hl hz
 obtain ⟨ti,by_,st,re,mx,⟨fA,fc,fl⟩,⟨pA,pc,pr⟩,⟨gA,gc,gl⟩,⟨oA,oc,ob⟩,⟨vA,vc,vb⟩,⟨rA,rc,ru⟩,⟨nA,nc,fn⟩,⟨dA,dc,dm⟩⟩:=t
 obtain ⟨V,hV⟩ : ∃ W,w.alloc (.cells #[.string (str ti),.string (str by_),.string (str st),.int .i64 re,.int .i64 mx,.slice fA fl.length fc,.slice pA pr.length pc,.slice gA gl.length gc,.slice oA ob.length oc,.slice vA vb.length vc,.slice rA ru.length rc,.slice nA fn.length nc,.slice dA dm.length dc] 29)=W:=⟨_,rfl⟩
 obtain ⟨mv,sv_,bv⟩:=made hV
 have HR:=hI (So.stays _ _ _ _ _ (Keep.below bv) hr)
 have HBV:=hI bv
 have HBX:=hI (show ∀ U,Below V.heap.size V U→U.heap[w.heap.size]?=some (.cells #[.string (str ti),.string (str by_),.string (str st),.int .i64 re,.int .i64 mx,.slice fA fl.length fc,.slice pA pr.length pc,.slice gA gl.length gc,.slice oA ob.length oc,.slice vA vb.length vc,.slice rA ru.length rc,.slice nA fn.length nc,.slice dA dm.length dc] 29 (0,0)) from fun U hU=>(hU.block _ (Array.getElem?_eq_some_iff.1 mv).1).trans mv)
 obtain ⟨V2,hV2⟩ : ∃ W,V.alloc (.cells #[.int .i64 0,.int .i64 0,.int .i64 0,.string ⟨#[]⟩] 55)=W:=⟨_,rfl⟩
 obtain ⟨mf,sf,bf⟩:=made hV2
 have HBF:=hI bf
 have HF:=hI (show ∀ U,Below V2.heap.size V2 U→U.heap[V.heap.size]?=some (.cells #[.int .i64 0,.int .i64 0,.int .i64 0,.string ⟨#[]⟩] 55 (0,0)) from fun U hU=>(hU.block _ (Array.getElem?_eq_some_iff.1 mf).1).trans mf)
 have HSZ:=hI (show V.heap.size < V2.heap.size∧w.heap.size≤V.heap.size by omega)
 have h9 : (((1 : Nat) : Int))=1:=rfl
 obtain ⟨V3,hV3⟩ : ∃ W,V2.alloc (.cells (base.flatMap nmE).toArray 116)=W:=⟨_,rfl⟩
 have H3:=hI (made hV3).2.2
 have HT0:=hI (show Sk.Rd nmE V3 (some ⟨V2.heap.size,0,none⟩) 4 base by rw [← hV3];exact Sk.rd_lit (enc:=nmE) V2 116 base _ rfl 4 rfl)
 have hV4 : V2.alloc (.cells #[.string ⟨#[98,111,120]⟩,.int .i64 1,.int .i64 2,.string ⟨#[104,105,100,100,101,110]⟩,.int .i64 1,.int .i64 3,.string ⟨#[108,105,116]⟩,.int .i64 1,.int .i64 0,.string ⟨#[111,112,101,110]⟩,.int .i64 1,.int .i64 1] 116)=V3:=hV3
 clear hV3 h9
 obtain ⟨pw,hpw⟩ : ∃ p,w.heap.size=p:=⟨_,rfl⟩
 obtain ⟨pf,hpf⟩ : ∃ p,V.heap.size=p:=⟨_,rfl⟩
 obtain ⟨p2,hp2⟩ : ∃ p,V2.heap.size=p:=⟨_,rfl⟩
 rw [hpw] at HBX
 rw [hpf] at HF
 have HPF:=hI (show w.heap.size≤pf by have:=HSZ.out.2;omega)
 rw [hp2] at HT0
 obtain ⟨x0,x1,x2,x3,x4,x5,x6,x7,x8,x9,x10,x11,x12,xf⟩:=cellz13 (HBX.out V3 (HBF.out.trans (H3.out.mono HBF.out.size)))
 clear mv sv_ bv hr mf sf bf
 show Calls Tryz.prog 15 #[.agg #[.string (str ti),.string (str by_),.string (str st),.int .i64 re,.int .i64 mx,.slice fA fl.length fc,.slice pA pr.length pc,.slice gA gl.length gc,.slice oA ob.length oc,.slice vA vb.length vc,.slice rA ru.length rc,.slice nA fn.length nc,.slice dA dm.length dc]] w _
 go_enter Tryz.func15,Tryz.ntmps15
 go_wp2_with (go_at_call 53;refine (HAL.out V3 (So.stays _ _ _ _ _ (Keep.below (HBF.out.trans (H3.out.mono HBF.out.size))) HR.out)).mono ?_;rintro e w1 ⟨A,c,rfl,hrd,hb⟩;have HL:=hI hrd;have HB1:=hI hb;clear hrd hb x0 x1 x2 x3 x4 x5 x6 x7 x8 x9 x10 x11 x12 xf)
 have HB2:=hI (HBF.out.trans (H3.out.mono HBF.out.size))
 have HT1:=hI (HT0.out.below HB1.out)
 have hn0 : l.length≤1048576:=HLE.out
 clear hV hV2 hV4 HR HZ HAL HBX
 generalize (.agg #[.string (str ti),.string (str by_),.string (str st),.int .i64 re,.int .i64 mx,.slice fA fl.length fc,.slice pA pr.length pc,.slice gA gl.length gc,.slice oA ob.length oc,.slice vA vb.length vc,.slice rA ru.length rc,.slice nA fn.length nc,.slice dA dm.length dc] : Value)=X0
 generalize (.agg #[.string ⟨#[98,111,120]⟩,.int .i64 1,.int .i64 2] : Value)=Y0
 generalize (.agg #[.string ⟨#[104,105,100,100,101,110]⟩,.int .i64 1,.int .i64 3] : Value)=Y1
 generalize (.agg #[.string ⟨#[108,105,116]⟩,.int .i64 1,.int .i64 0] : Value)=Y2
 generalize (.agg #[.string ⟨#[111,112,101,110]⟩,.int .i64 1,.int .i64 1] : Value)=Y3
 clear ti by_ st re mx fA fc fl pA pc pr gA gc gl oA oc ob vA vc vb rA rc ru nA nc fn dA dc dm
 go_loopw [4,6] (fun v iv wr=>∃ (j : Nat) (T : List Nm) (A2 : Option Addr) (c2 : Nat),j≤l.length∧v=.slice A2 T.length c2∧T.length≤c2∧iv=.int .i64 (j : Int)∧Mk (l.take j) T∧Sk.Rd nmE wr A2 T.length T∧Below w1.heap.size w1 wr) (fun _ iv _=>l.length - (intOf iv).toNat)
 case atStart=>exact ⟨0,base,_,_,Nat.zero_le _,rfl,Nat.le_refl _,rfl,by simpa using mk_base,HT1.out,Below.refl _ _⟩
 case round=>
  obtain ⟨j,T,A2,c2,hj,rfl,hc2,rfl,hmk,hrt,hbl⟩:=hrel
  have HMK:=hI hmk
  have HRT:=hI hrt
  have HBL:=hI hbl
  have hTL : T.length=4 + j:=by have h:=hmk.len;rw [List.length_take,Nat.min_eq_left hj] at h;exact h
  have HBW:=hI (show ∀ U,Below wr.heap.size wr U→Below w.heap.size w U from fun U h=>HBV.out.trans ((HB2.out.trans ((HB1.out.trans ((HBL.out.trans (h.mono HBL.out.size)).mono HB1.out.size)).mono HB2.out.size)).mono HBV.out.size))
  have HFW:=hI (show ∀ U,Below wr.heap.size wr U→U.heap[pf]?=some (.cells #[.int .i64 0,.int .i64 0,.int .i64 0,.string ⟨#[]⟩] 55 (0,0)) from fun U h=>HF.out U (H3.out.trans ((HB1.out.trans ((HBL.out.trans (h.mono HBL.out.size)).mono HB1.out.size)).mono H3.out.size)))
  have HTL:=hI hTL
  have hTn : T.length≤2097152:=by omega
  clear hmk hrt hbl hTL
  by_cases hlt : j < l.length
  ·obtain ⟨b,o,rfl,hbz,hl2,hc⟩:=(HL.out.below HBL.out).at_ En.len hlt
   obtain ⟨y,hy⟩ : ∃ y,l[j]=y:=⟨_,rfl⟩
   rw [hy] at hc
   have HST:=hI (show l.take (j + 1)=l.take j ++ [y] by rw [List.take_succ_eq_append_getElem hlt,hy])
   have HC:=hI (show ∀ U,Below wr.heap.size wr U→(∀ j_ u,(En.e y)[j_]?=some u→U.cell? ⟨b,o + j * 6 + j_,none⟩=some u) from fun U hU j_ u hu=>(hU.cell (p:=⟨b,o + j * 6 + j_,none⟩) hbz).trans (hc j_ u hu))
   obtain ⟨z0,z1,z2,z3,z4,z5⟩:=cellz6 hc
   have HSZ2:=hI (show y.nm.length≤4194304∧b < wr.heap.size from ⟨by have h:=HNM.out y (by rw [← hy];exact List.getElem_mem hlt);exact Nat.le_trans h (by omega),hbz⟩)
   have k0 : (0 : Int)≤(j : Int):=by omega
   have k1 : (j : Int) < (l.length : Int):=by omega
   clear hc hy hl2 hbz
   obtain ⟨nm,ki,pa,at_,nu,mo⟩:=y
   simp only at z0 z1 z2 z3 z4 z5 HSZ2
   obtain ⟨q,hq⟩ : ∃ q,hasN T nm=q:=⟨_,rfl⟩
   have HQ:=hI hq
   obtain ⟨⟨g0,g1,g2⟩,hg⟩ : ∃ g,getN T nm=g:=⟨_,rfl⟩
   have HFI:=hI (find_r (c:=c2) T nm wr HRT.out (by omega))
   rw [hq,hg] at HFI
   clear hq hg
   go_upto_if 33 with (go_at_call 54;refine HFI.out.mono ?_;rintro e w2 ⟨rfl,hb⟩;have HB3:=hI hb;clear hb z0 z1 z2 z3 z4 z5)
   go_cut [7] (fun v wx=>∃ e1 : Int,v=.int .i64 e1∧Hid (e1=0→hasN T nm=false)∧Below wr.heap.size wr wx)
   case first=>
    cases q with
    | true=>
     go_wp2_with fail
     go_meet
     exact ⟨10,rfl,hI (fun h=>absurd h (by decide)),HB3.out.alloc HB3.out.size _⟩
    | false=>
     go_wp2_with fail
     go_meet
     exact ⟨0,rfl,hI (fun _=>HQ.out),HB3.out.alloc HB3.out.size _⟩
   case rest=>
    obtain ⟨e1,rfl,HE1,hb⟩:=hcut
    have HB4:=hI hb
    clear hb
    obtain ⟨wb,hwb⟩ : ∃ W,W=wc:=⟨_,rfl⟩
    rw [← hwb] at HB4 ⊢
    clear hwb
    obtain ⟨z0,z1,z2,z3,z4,z5⟩:=cellz6 (HC.out wb HB4.out)
    simp only at z0 z1 z2 z3 z4 z5
    go_upto_region 10 with fail
    go_cut [48] (fun v wx=>∃ b2 : Bool,v=.bool b2∧Hid (b2=false→nm ≠ [])∧Below wr.heap.size wr wx)
    case first=>
     go_wp2_with fail
     refine (isName_o (str nm) (RtD.str_len HSZ2.out.1) _).mono ?_
     rintro e w9 ⟨b1,rfl,hp,rfl⟩
     have HP:=hI hp
     clear hp
     cases b1
     ·go_wp2_with fail
      go_meet
      exact ⟨true,rfl,hI (fun h=>by cases h),HB4.out⟩
     ·go_wp2_with fail
      refine (key_o (str nm) _).mono ?_
      rintro e w9 ⟨b1,rfl,rfl⟩
      go_wp2_with fail
      go_meet
      exact ⟨b1,rfl,hI (fun _ h=>by have:=HP.out (by trivial);rw [h] at this;exact absurd this (by decide)),HB4.out⟩
    case rest=>
     obtain ⟨b2,rfl,HE2,hb⟩:=hcut
     have HB5:=hI hb
     clear hb HB4
     obtain ⟨wd,hwd⟩ : ∃ W,W=wc:=⟨_,rfl⟩
     rw [← hwd] at HB5 ⊢
     clear hwd
     go_upto_if 48 with fail
     go_cut [7] (fun v wx=>∃ e2 : Int,v=.int .i64 e2∧Hid (e2=0→hasN T nm=false∧nm ≠ [])∧Below wr.heap.size wr wx)
     case first=>
      cases b2 with
      | true=>
       go_wp2_with fail
       go_meet
       exact ⟨9,rfl,hI (fun h=>absurd h (by decide)),HB5.out⟩
      | false=>
       go_wp2_with fail
       go_meet
       exact ⟨e1,rfl,hI (fun h=>⟨HE1.out h,HE2.out (by trivial)⟩),HB5.out⟩
     case rest=>
      obtain ⟨e2,rfl,HE3,hb⟩:=hcut
      have HB6:=hI hb
      clear hb HB5
      obtain ⟨we,hwe⟩ : ∃ W,W=wc:=⟨_,rfl⟩
      rw [← hwe] at HB6 ⊢
      clear hwe
      obtain ⟨z0,z1,z2,z3,z4,z5⟩:=cellz6 (HC.out we HB6.out)
      simp only at z0 z1 z2 z3 z4 z5
      obtain ⟨q3,hq3⟩ : ∃ q3,decide (mo≤at_)=q3:=⟨_,rfl⟩
      have HQ3:=hI hq3
      go_upto_region 12 with fail
      go_cut [59] (fun v wx=>v=.bool q3∧Below wr.heap.size wr wx)
      case first=>
       go_quiet (fail)
       go_wp2_with fail
       go_meet
       exact ⟨rfl,Sq.belowN HB6.out _⟩
      case rest=>
       obtain ⟨rfl,hb⟩:=hcut
       have HB7:=hI hb
       clear hb HB6 hq3
       obtain ⟨wf,hwf⟩ : ∃ W,W=wc:=⟨_,rfl⟩
       rw [← hwf] at HB7 ⊢
       clear hwf
       go_upto_if 59 with fail
       go_cut [7] (fun v wx=>∃ e3 : Int,v=.int .i64 e3∧Hid (e3=0→hasN T nm=false∧nm ≠ []∧at_ < mo)∧Below wr.heap.size wr wx)
       case first=>
        cases q3 with
        | true=>
         go_wp2_with fail
         go_meet
         exact ⟨7,rfl,hI (fun h=>absurd h (by decide)),HB7.out⟩
        | false=>
         go_wp2_with fail
         go_meet
         exact ⟨e2,rfl,hI (fun h=>⟨(HE3.out h).1,(HE3.out h).2,by have:=of_decide_eq_false HQ3.out;omega⟩),HB7.out⟩
       case rest=>
        obtain ⟨e3,rfl,HE4,hb⟩:=hcut
        have HB8:=hI hb
        clear hb HB7 HE3 HE2 HE1 HQ3 HQ HFI HB3
        obtain ⟨wg,hwg⟩ : ∃ W,W=wc:=⟨_,rfl⟩
        rw [← hwg] at HB8 ⊢
        clear hwg
        obtain ⟨Sx,hSx⟩ : ∃ S : World→Prop,S=(fun U=>∀ j_ u,(En.e ⟨nm,ki,pa,at_,nu,mo⟩)[j_]?=some u→U.cell? ⟨b,o + j * 6 + j_,none⟩=some u):=⟨_,rfl⟩
        have HSa:=hI (show ∀ U,Sx U→_ from fun U h=>by rw [hSx] at h;exact cellz6 (x:=⟨nm,ki,pa,at_,nu,mo⟩) h)
        have HSB:=hI (show ∀ U,Below wr.heap.size wr U→Sx U from fun U h=>by rw [hSx];exact HC.out U h)
        have HSC:=hI (show ∀ U U9,Sx U→(∀ o1,U9.cell? ⟨b,o1,none⟩=U.cell? ⟨b,o1,none⟩)→Sx U9 from fun U U9 h h2=>by rw [hSx] at h ⊢;exact fun j_ u hu=>(h2 _).trans (h j_ u hu))
        clear hSx
        have hS0:=HSB.out wg.drew (Below.drew HB8.out)
        by_cases h3 : e3=0
        ·subst h3
         go_upto_region 16 with fail
         refine RgD.begin_ [] Sx (by kernel_rfl) hS0 (fun hHeld=>?_)
         refine tK 0 79 (h:=?_)
         simp only [zA,zB,zC]
         refine tK 1 80 (h:=?_)
         simp only [zA,zB,zC]
         refine tK 2 81 (h:=?_)
         simp only [zA,zB,zC]
         refine tK 3 82 (h:=?_)
         simp only [zA,zB,zC]
         refine tK 4 83 (h:=?_)
         simp only [zA,zB,zC]
         refine tK 5 84 (v:=.string (str nm)) (hy:=by intro w0 hSw;obtain ⟨z0,z1,z2,z3,z4,z5⟩:=HSa.out _ hSw;simp only at z0 z1 z2 z3 z4 z5;first | (go_simp;done) | (go_simp;with_reducible rfl) | (go_simp;intro hc;exfalso;omega)) (h:=?_)
         simp only [zA,zB,zC]
         refine tK 6 85 (h:=?_)
         simp only [zA,zB,zC]
         refine tK 7 86 (h:=?_)
         simp only [zA,zB,zC]
         refine tK 8 87 (h:=?_)
         simp only [zA,zB,zC]
         refine tK 9 88 (h:=?_)
         simp only [zA,zB,zC]
         refine tK 10 89 (v:=.int .i64 ki) (hy:=by intro w0 hSw;obtain ⟨z0,z1,z2,z3,z4,z5⟩:=HSa.out _ hSw;simp only at z0 z1 z2 z3 z4 z5;first | (go_simp;done) | (go_simp;with_reducible rfl) | (go_simp;intro hc;exfalso;omega)) (h:=?_)
         simp only [zA,zB,zC]
         refine tK 11 90 (h:=?_)
         simp only [zA,zB,zC]
         refine tK 12 91 (h:=?_)
         simp only [zA,zB,zC]
         refine tK 13 92 (h:=?_)
         simp only [zA,zB,zC]
         refine tK 14 93 (h:=?_)
         simp only [zA,zB,zC]
         refine tK 15 94 (v:=.int .i64 nu) (hy:=by intro w0 hSw;obtain ⟨z0,z1,z2,z3,z4,z5⟩:=HSa.out _ hSw;simp only at z0 z1 z2 z3 z4 z5;first | (go_simp;done) | (go_simp;with_reducible rfl) | (go_simp;intro hc;exfalso;omega)) (h:=?_)
         simp only [zA,zB,zC]
         refine tK 16 95 (h:=?_)
         simp only [zA,zB,zC]
         refine RgD.one (i:=17) (by kernel_rfl) ?_
         refine RgD.call (i:=17) (t:=96) rfl rfl (by rfl) (by go_simp;exact ⟨rfl,rfl⟩) ?_
         refine (put_r T ((nm,ki,nu) : Nm) wg.drew (HRT.out.below (Below.drew HB8.out)) hTn hc2).mono ?_
         rintro r w9 ⟨A9,c9,rfl,hc9,hrd,hb⟩
         have HR9:=hI hrd
         have HB9:=hI ((Below.drew HB8.out).trans (hb.mono (by have:=HB8.out.size;simpa using this)))
         have hS9:=HSB.out _ HB9.out
         clear hb hrd
         refine ⟨_,rfl,hS9,?_⟩
         simp only [zA,zB,zC]
         refine tK 18 4 (h:=?_)
         simp only [zA,zB,zC]
         refine RgD.done (by kernel_rfl) ?_ _
         go_wp2_with fail
         have HIL:=hI (insN_len T (nm,ki,nu))
         go_roundw
         case rel=>exact ⟨j + 1,insN T (nm,ki,nu),A9,c9,by omega,by rw [HIL.out],by rw [HIL.out];exact hc9,by go_num,by rw [HST.out];exact mk_next HMK.out ⟨nm,ki,pa,at_,nu,mo⟩ ⟨(HE4.out rfl).2.1,(HE4.out rfl).2.2⟩ (HE4.out rfl).1,by rw [HIL.out];exact HR9.out,HBL.out.trans (HB9.out.mono HBL.out.size)⟩
         case measure=>simp [intOf];omega
        ·have q3 : (e3 != 0)=true:=by simpa using h3
         go_upto_region 15 with fail
         have hbp : b ≠ pf:=by
          rintro rfl
          have h5:=(cellz6 (HC.out wr (Below.refl _ _))).2.2.2.2.2
          have h6:=HFW.out wr (Below.refl _ _)
          unfold World.cell? at h5
          rw [h6] at h5
          simp at h5
         refine RgD.begin_ [] Sx (by kernel_rfl) hS0 (fun hHeld=>?_)
         refine tK 0 62 (h:=?_)
         simp only [zA,zB,zC]
         refine tK 1 63 (h:=?_)
         simp only [zA,zB,zC]
         refine tK 2 64 (h:=?_)
         simp only [zA,zB,zC]
         refine tK 3 65 (h:=?_)
         simp only [zA,zB,zC]
         refine tK 4 66 (h:=?_)
         simp only [zA,zB,zC]
         refine tK 5 67 (v:=.int .i64 pa) (hy:=by intro w0 hSw;obtain ⟨z0,z1,z2,z3,z4,z5⟩:=HSa.out _ hSw;simp only at z0 z1 z2 z3 z4 z5;first | (go_simp;done) | (go_simp;with_reducible rfl) | (go_simp;intro hc;exfalso;omega)) (h:=?_)
         simp only [zA,zB,zC]
         refine tK 6 68 (h:=?_)
         simp only [zA,zB,zC]
         refine tK 7 69 (h:=?_)
         simp only [zA,zB,zC]
         refine tK 8 70 (h:=?_)
         simp only [zA,zB,zC]
         refine tK 9 71 (h:=?_)
         simp only [zA,zB,zC]
         refine tK 10 72 (v:=.int .i64 at_) (hy:=by intro w0 hSw;obtain ⟨z0,z1,z2,z3,z4,z5⟩:=HSa.out _ hSw;simp only at z0 z1 z2 z3 z4 z5;first | (go_simp;done) | (go_simp;with_reducible rfl) | (go_simp;intro hc;exfalso;omega)) (h:=?_)
         simp only [zA,zB,zC]
         refine tK 11 73 (h:=?_)
         simp only [zA,zB,zC]
         refine tK 12 74 (h:=?_)
         simp only [zA,zB,zC]
         refine tK 13 75 (h:=?_)
         simp only [zA,zB,zC]
         refine tK 14 76 (h:=?_)
         simp only [zA,zB,zC]
         refine tK 15 77 (v:=.string (str nm)) (hy:=by intro w0 hSw;obtain ⟨z0,z1,z2,z3,z4,z5⟩:=HSa.out _ hSw;simp only at z0 z1 z2 z3 z4 z5;first | (go_simp;done) | (go_simp;with_reducible rfl) | (go_simp;intro hc;exfalso;omega)) (h:=?_)
         simp only [zA,zB,zC]
         refine tK 16 78 (h:=?_)
         simp only [zA,zB,zC]
         refine tK 17 2 (h:=?_)
         simp only [zA,zB,zC]
         refine RgD.one (i:=18) (by kernel_rfl) ?_
         have HB9:=hI (Below.drew HB8.out)
         obtain ⟨wh,hwh⟩ : ∃ W,wg.drew=W:=⟨_,rfl⟩
         rw [hwh] at HB9 ⊢
         clear hwh
         have HF9:=hI (HFW.out wh HB9.out)
         obtain ⟨w9,hw9⟩ : ∃ W,((((wh.setCell ⟨pf,0,none⟩ (.int .i64 e3)).setCell ⟨pf,1,none⟩ (.int .i64 pa)).setCell ⟨pf,2,none⟩ (.int .i64 at_)).setCell ⟨pf,3,none⟩ (.string (str nm)))=W:=⟨_,rfl⟩
         have HF10:=hI (show w9.heap[pf]?=some (.cells #[.int .i64 e3,.int .i64 pa,.int .i64 at_,.string (str nm)] 55 (0,0)) by rw [← hw9];exact set4 HF9.out)
         have HB10:=hI (show Below w.heap.size w w9 by rw [← hw9];exact set4_below (HBW.out wh HB9.out) HPF.out)
         have hS9 : Sx w9:=HSC.out wh w9 (HSB.out wh HB9.out) (fun o1=>by rw [← hw9];simp [World.cell?,World.setCell,Array.getElem?_modify,Ne.symm hbp])
         obtain ⟨f0,f1,f2,f3,ff⟩:=cellf4 HF9.out
         refine RgD.storeS (i:=18) (w1:=w9) rfl rfl (by rfl) (by first | (go_simp;done) | (go_simp;exact hw9) | (go_simp;rw [hw9])) hS9 ?_
         refine RgD.done (by kernel_rfl) ?_ _
         clear f0 f1 f2 f3 ff
         go_wp2_with fail
         refine ret_tc (d:=_) (t':=55) (fr:=(0,0)) HF10.out rfl (by kernel_rfl) (x:=.slice none 0 0) (by kernel_rfl) Tryz.underlying55 rfl (by kernel_rfl) rfl ?_
         exact HMV.out _ _ ⟨HB10.out,.inr ⟨e3,pa,at_,nm,h3,rfl⟩⟩
  ·have k1 : ¬ (j : Int) < (l.length : Int):=by omega
   have HJ:=hI (show l.take j=l from List.take_of_length_le (by omega))
   have HF9:=hI (HFW.out wr (Below.refl _ _))
   obtain ⟨f0,f1,f2,f3,ff⟩:=cellf4 HF9.out
   go_wp2_with fail
   clear f0 f1 f2 f3 ff
   rw [set4_same HF9.out]
   refine ret_tc (d:=_) (t':=55) (fr:=(0,0)) HF9.out rfl (by kernel_rfl) (x:=.slice A2 T.length c2) (by kernel_rfl) Tryz.underlying55 rfl (by kernel_rfl) rfl ?_
   rw [HJ.out] at HMK
   exact HMV.out _ _ ⟨HBW.out wr (Below.refl _ _),.inl ⟨A2,c2,T,rfl,hc2,HRT.out,HMK.out⟩⟩
end Go.Proofs.YteibcfpepdbflaaGreat.MkC
