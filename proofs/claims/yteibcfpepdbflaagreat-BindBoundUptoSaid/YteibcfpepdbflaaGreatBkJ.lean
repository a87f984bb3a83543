/- bind.Book: a source's book in the program's way. Conditions: the names rise; props and flags that are there; sizes within the reach. -/
import Derived.Test.YteibcfpepdbflaaGreatBkM
open Go.Lib renaming hid → hI
open Go.Proofs.YteibcfpepdbflaaGreat.RgD renaming tk → tK, sA → zA, s0 → zB, s1 → zC
namespace Go.Proofs.YteibcfpepdbflaaGreat.BkJ
open Go Go.RowKit BindP BindD BindO BindW BindN BindG BindX BindB BindS BindK BindT BindA BkA BkB BkC BkD BkE BkF BkG BkH BkI BkK BkL BkM TxA
open Byt (str)
theorem yB_6 {a b c d : Int} {e : Value} {f : Int} {p g h ac v v' fu : Value} : upd (yB a b c d e f p g h ac v fu) 6 v'=yB a b c d e f v' g h ac v fu:=by
 funext j
 match j with
 | 0 | 1 | 2 | 3 | 4 | 5 | 6 | 7 | 8 | 9 | 10 | 11 | 12=>rfl
 | n + 13=>simp [upd,yB]
theorem yB_7 {a b c d : Int} {e : Value} {f : Int} {p g h ac v v' fu : Value} : upd (yB a b c d e f p g h ac v fu) 7 v'=yB a b c d e f p v' h ac v fu:=by
 funext j
 match j with
 | 0 | 1 | 2 | 3 | 4 | 5 | 6 | 7 | 8 | 9 | 10 | 11 | 12=>rfl
 | n + 13=>simp [upd,yB]
theorem bk_first {w0 w : World} {tv xv : Value} {y : Nat→Value} {rb : Nat} (h : w.heap[w0.heap.size]?=some (.cells #[tv,xv,y 0,y 1,y 2,y 3,y 4,y 5,y 6,y 7,y 8,y 9,y 10,y 11,y 12,vn,vn,vn] 73 (0,0))) (hb : Below w0.heap.size w0 w) (hr : rb < w0.heap.size) (hy : y 6=.slice none 0 0) :
  Bk inE RtI 1 3 (fun _ _=>True) (fun b=>b=rb) w0 tv xv y 6 (.slice none 0 0) [] m0 vn vn vn ⟨[],[],[]⟩ w:=by
 refine ⟨?_,rfl,Ow.nil _ _,trivial⟩
 rw [upd_old hy]
 exact ⟨h,Sk.own_nil _ _,Sk.own_nil _ _,Sk.own_nil _ _,fun _ hs=>(by cases hs),fun b hx=>(by
  rcases hx with hx | hx
  ·have:=hb.size;omega
  ·simp [Value.ownBlock] at hx),(by intro c;cases c),(by intro c;cases c),(by intro c;cases c),(fun _ c=>by cases c),(fun _ c=>by cases c),(fun _ c=>by cases c),hb,(Array.getElem?_eq_some_iff.1 h).1⟩
theorem notext (o : Nat) (x : S) (h : (#[.int .i64 0,.int .i64 0,.int .i64 0,.int .i64 0,.slice none 0 0,.int .i64 0,.slice none 0 0,.slice none 0 0,.slice none 0 0,.slice none 0 0,.slice none 0 0,.slice none 0 0,.slice none 0 0,.slice none 0 0,.slice none 0 0,.slice none 0 0] : Array Value)[o]?=some (sv x)) : False:=by
 have hm:=Array.mem_of_getElem? h
 simp [sv] at hm
theorem firm_true : Firm (fun _ _=>True):=fun _ _ _ _ _ _=>trivial
def I (n : Int) : Value:=.int .i64 n
theorem elQ : Sq.El Tryz.prog 34 3 I 0 8 where
 und:=Tryz.underlying34
 info:=by kernel_rfl
 cells:=fun _=>rfl
 one:=fun _=>rfl
theorem rep_in : ∀ n : Nat,(List.replicate n (0 : Int)).map I=(List.replicate n (0 : Int)).flatMap inE
 | 0=>rfl
 | n + 1=>by rw [List.replicate_succ,List.map_cons,List.flatMap_cons,rep_in n];rfl
theorem run_make (w : World) (B n : Nat) (hn : n≤1048576) (hB : B≤w.heap.size) :
  ∃ w',(Instr.makeSlice 34 (.int .i64 (n : Int)) (.int .i64 (n : Int))).run Tryz.prog w=.ok (.slice (some ⟨w.heap.size,0,none⟩) n n) w'∧Sk.Own inE 1 3 w' B (.slice (some ⟨w.heap.size,0,none⟩) n n) (List.replicate n 0)∧Below w.heap.size w w':=by
 obtain ⟨i,hi,hz,hs,hby⟩:=elQ.parts
 obtain ⟨w',hrun,r1,r2⟩:=run_make_full (P:=Tryz.prog) w B 34 3 i (I 0) 1 elQ.und hi hz hs .i64 .i64 n (by rw [hby];omega) (by simp [maxLen];omega) hB
 refine ⟨w',hrun,?_,r2.os,r2.tape,r2.output,r2.size,fun k hk=>r2.block k hk (by simp)⟩
 have e : (madeCells (I 0).cells (n * 1)).toList=(List.replicate n (0 : Int)).map I:=by
  rw [Nat.mul_one,elQ.cells,toList_madeCells_one,List.map_replicate]
 rw [e,rep_in] at r1
 show w'.ownsRow _ _ _ _ _ _
 simpa using r1
def Zr {α : Type} (enc : α→List Value) (E : TypeId) (l : List α) (W V : World) (v : Value) : Prop:=∃ A c,v=.slice A l.length c∧Sk.Own enc 1 E V W.heap.size (.slice A l.length c) l
theorem Zr.below {α : Type} {enc : α→List Value} {E : TypeId} {l : List α} {W V V' : World} {v : Value} (h : Zr enc E l W V v) (hb : Below V.heap.size V V') : Zr enc E l W V' v:=by
 obtain ⟨A,c,e,ho⟩:=h
 exact ⟨A,c,e,ho.below hb⟩
section
variable {P : Program} {ops : Array Oper} {Q : Exit→Act→World→Prop} {md : Region.Mode} {S : World→Prop} {fr : List Nat} {fuel : Nat} {listed : Array Bool} {ts : Array Value} {ds : List Deferred} {w : World} {f : Nat} {lf : Array Bool}
theorem share (R : World→Array Value→Prop) (h1 : ∀ V ts,R V ts→RgD.wpAnyD P md ops Q fr S f lf ⟨ts,ds⟩ V) (h2 : (∀ V ts,R V ts→RgD.wpAnyD P md ops Q fr S f lf ⟨ts,ds⟩ V)→RgD.wpAnyD P md ops Q fr S fuel listed ⟨ts,ds⟩ w) : RgD.wpAnyD P md ops Q fr S fuel listed ⟨ts,ds⟩ w:=h2 h1
theorem use {R : World→Array Value→Prop} (h1 : ∀ V ts,R V ts→RgD.wpAnyD P md ops Q fr S f lf ⟨ts,ds⟩ V) (he : lf=listed) (h : R w ts) : RgD.wpAnyD P md ops Q fr S f listed ⟨ts,ds⟩ w:=he ▸ h1 w ts h
theorem frame7 (a b c d e g k : Nat) (h : ∀ T : Value→Value→Value→Value→Value→Value→Value→Array Value,(T=fun x y z u v q r=>((((((ts.setIfInBounds a x).setIfInBounds b y).setIfInBounds c z).setIfInBounds d u).setIfInBounds e v).setIfInBounds g q).setIfInBounds k r)→RgD.wpAnyD P md ops Q fr S fuel listed ⟨ts,ds⟩ w) : RgD.wpAnyD P md ops Q fr S fuel listed ⟨ts,ds⟩ w:=h _ rfl
theorem three {i j k : Nat} {a : Act} (hr : Region.ready md ops listed=[i,j,k])
  (h1 : wpOp P ops Q i (fun a' w'=>(i ∉ fr→S w')∧RgD.wpAnyD P md ops Q fr S fuel (listed.setIfInBounds i true) a' w') a w)
  (h2 : wpOp P ops Q j (fun a' w'=>(j ∉ fr→S w')∧RgD.wpAnyD P md ops Q fr S fuel (listed.setIfInBounds j true) a' w') a w)
  (h3 : wpOp P ops Q k (fun a' w'=>(k ∉ fr→S w')∧RgD.wpAnyD P md ops Q fr S fuel (listed.setIfInBounds k true) a' w') a w) : RgD.wpAnyD P md ops Q fr S (fuel + 1) listed a w:=
 ⟨fun h0=>(by rw [hr] at h0;cases h0),fun l hl=>by
  rw [hr,List.mem_cons,List.mem_cons,List.mem_singleton] at hl
  rcases hl with rfl | rfl | rfl
  ·exact h1
  ·exact h2
  ·exact h3⟩
end
set_option maxRecDepth 100000 in
set_option maxHeartbeats 64000000 in
theorem book_w (so : So) (w : World) (hr : So.R top w so) (hz : So.m so≤1048576) (A1 : Option Addr) (n1 c1 : Nat) (t : List Nm) (hup : Up t) (ht : Sk.Rd nmE w A1 n1 t) (hn1 : n1≤17592186043904)
  (hP : ∀ o ∈ so.ob.l,∀ p ∈ o.pr.l,0≤ofN t 2 p.nm∧ofN t 2 p.nm < (so.pr.l.length : Int)) (hF : ∀ o ∈ so.ob.l,∀ f ∈ o.fl.l,0≤ofN t 1 f) :
  Calls Tryz.prog 7 #[.agg (So.e so).toArray,.slice A1 n1 c1] w (BkV (bookI t ((adds so).foldl wth []) so) w):=by
 obtain ⟨tx,htx⟩ : ∃ L,(adds so).foldl wth []=L:=⟨_,rfl⟩
 have hLN : tx.length≤4194304:=by
  have h1:=wths_len (adds so) []
  have h2:=flat_len obT_len so.ob.l
  have h3:=ruT_len so.ru.l
  have h4:=fnT_len so.fn.l
  have h5:=fnT_len so.dm.l
  rw [← htx]
  unfold So.m at hz
  unfold adds at h1 ⊢
  simp only [List.length_append,List.length_cons,List.length_nil] at h1
  omega
 have HTI:=hI (fun u (hu : Below w.heap.size w u)=>texts_i so u (So.stays _ _ _ _ _ (Keep.below hu) hr) hz)
 rw [htx] at HTI ⊢
 obtain ⟨n2,hn2⟩ : ∃ n,tx.length=n:=⟨_,rfl⟩
 rw [hn2] at HTI hLN
 have HN2:=hI (And.intro hn2 hLN)
 have HUP:=hI hup
 have HT:=hI (And.intro ht hn1)
 obtain ⟨BP,hBP⟩ : ∃ p,bookI t tx so=p:=⟨_,rfl⟩
 have HBP:=hI hBP
 rw [hBP]
 obtain ⟨ti,by_,st,re,mx,⟨fA,fc,fl⟩,⟨pA,pc,pr⟩,⟨gA,gc,gl⟩,⟨oA,oc,ob⟩,⟨vA,vc,vb⟩,⟨rA,rc,ru⟩,⟨nA,nc,fn⟩,⟨dA,dc,dm⟩⟩:=so
 simp only at hP
 have HPF:=hI (And.intro hP hF)
 have HZ:=hI (show (pr.map Pr.m).sum≤1048576∧(gl.map Pr.m).sum≤1048576∧(ob.map Ob.m).sum≤1048576∧(vb.map Vb.m).sum≤1048576∧(ru.map Rl.m).sum≤1048576∧(fn.map BindO.Fn.m).sum≤1048576∧(dm.map BindO.Fn.m).sum≤1048576∧(fl.map fun x=>x.length + 1).sum≤1048576 by unfold So.m at hz;simp only at hz;omega)
 have HR:=hI hr
 have HSM:=hI hz
 have zP : pr.length≤1048576:=Nat.le_trans (sum_len (m:=Pr.m) (fun _=>by unfold Pr.m;omega) pr) HZ.out.1
 have zG : gl.length≤1048576:=Nat.le_trans (sum_len (m:=Pr.m) (fun _=>by unfold Pr.m;omega) gl) HZ.out.2.1
 have zO : ob.length≤1048576:=Nat.le_trans (sum_len (m:=Ob.m) (fun _=>by unfold Ob.m;omega) ob) HZ.out.2.2.1
 have zV : vb.length≤1048576:=Nat.le_trans (sum_len (m:=Vb.m) (fun _=>by unfold Vb.m;omega) vb) HZ.out.2.2.2.1
 have zR : ru.length≤1048576:=Nat.le_trans (sum_len (m:=Rl.m) (fun _=>by unfold Rl.m;omega) ru) HZ.out.2.2.2.2.1
 have zN : fn.length≤1048576:=Nat.le_trans (sum_len (m:=BindO.Fn.m) (fun _=>by unfold BindO.Fn.m;omega) fn) HZ.out.2.2.2.2.2.1
 have zD : dm.length≤1048576:=Nat.le_trans (sum_len (m:=BindO.Fn.m) (fun _=>by unfold BindO.Fn.m;omega) dm) HZ.out.2.2.2.2.2.2.1
 have zF : fl.length≤1048576:=Nat.le_trans (sum_len (m:=fun x : S=>x.length + 1) (fun _=>by omega) fl) HZ.out.2.2.2.2.2.2.2
 clear hr hz ht hn1 hP hF hup hBP htx hn2 hLN
 show Calls Tryz.prog 7 #[.agg #[.string (str ti),.string (str by_),.string (str st),.int .i64 re,.int .i64 mx,.slice fA fl.length fc,.slice pA pr.length pc,.slice gA gl.length gc,.slice oA ob.length oc,.slice vA vb.length vc,.slice rA ru.length rc,.slice nA fn.length nc,.slice dA dm.length dc],.slice A1 n1 c1] w _
 go_enter Tryz.func7,Tryz.ntmps7
 go_upto_region 1 with fail
 obtain ⟨V1,hV1⟩ : ∃ W,w.alloc (.cells #[.string (str ti),.string (str by_),.string (str st),.int .i64 re,.int .i64 mx,.slice fA fl.length fc,.slice pA pr.length pc,.slice gA gl.length gc,.slice oA ob.length oc,.slice vA vb.length vc,.slice rA ru.length rc,.slice nA fn.length nc,.slice dA dm.length dc] 29)=W:=⟨_,rfl⟩
 rw [hV1]
 obtain ⟨V,hV⟩ : ∃ W,V1.alloc (.cells #[.int .i64 0,.int .i64 0,.int .i64 0,.int .i64 0,.slice none 0 0,.int .i64 0,.slice none 0 0,.slice none 0 0,.slice none 0 0,.slice none 0 0,.slice none 0 0,.slice none 0 0,.slice none 0 0,.slice none 0 0,.slice none 0 0,.slice none 0 0] 42)=W:=⟨_,rfl⟩
 rw [hV]
 obtain ⟨m1,s1,b1⟩:=made hV1
 obtain ⟨m2,s2,b2⟩:=made hV
 have m1':=(b2.block w.heap.size (by omega)).trans m1
 have HBV:=hI (b1.trans (b2.mono b1.size))
 obtain ⟨rb,hrb⟩ : ∃ p,w.heap.size + 1=p:=⟨_,rfl⟩
 obtain ⟨sb,hsb⟩ : ∃ p,w.heap.size=p:=⟨_,rfl⟩
 have HRB:=hI (show w.heap.size≤sb∧sb < rb∧rb < V.heap.size by omega)
 rw [s1,hrb] at m2
 rw [hrb]
 rw [hsb] at m1' ⊢
 have HS1:=hI m1'
 have HS2:=hI m2
 obtain ⟨x0,x1,x2,x3,x4,x5,x6,x7,x8,x9,x10,x11,x12,xf⟩:=cellz13 m1'
 clear hV1 hV m1 m1' m2 s1 s2 b1 b2 hrb hsb
 go_wp2_with fail
 refine (HTI.out V HBV.out).mono ?_
 rintro e w0 ⟨A2,c2,rfl,hx,hb⟩
 have HX:=hI hx
 have HB0:=hI hb
 have HSRC:=hI (show ∀ U,Below w0.heap.size w0 U→U.heap[sb]?=some (.cells #[.string (str ti),.string (str by_),.string (str st),.int .i64 re,.int .i64 mx,.slice fA fl.length fc,.slice pA pr.length pc,.slice gA gl.length gc,.slice oA ob.length oc,.slice vA vb.length vc,.slice rA ru.length rc,.slice nA fn.length nc,.slice dA dm.length dc] 29 (0,0)) from fun U h=>(h.block _ (by have:=HRB.out;have:=hb.size;omega)).trans ((hb.block _ (by have:=HRB.out;omega)).trans HS1.out))
 have HRES:=hI (show ∀ U,Below w0.heap.size w0 U→U.heap[rb]?=some (.cells #[.int .i64 0,.int .i64 0,.int .i64 0,.int .i64 0,.slice none 0 0,.int .i64 0,.slice none 0 0,.slice none 0 0,.slice none 0 0,.slice none 0 0,.slice none 0 0,.slice none 0 0,.slice none 0 0,.slice none 0 0,.slice none 0 0,.slice none 0 0] 42 (0,0)) from fun U h=>(h.block _ (by have:=HRB.out;have:=hb.size;omega)).trans ((hb.block _ HRB.out.2.2).trans HS2.out))
 have HRW:=hI (show ∀ U,Below w0.heap.size w0 U→So.R top U ⟨ti,by_,st,re,mx,⟨fA,fc,fl⟩,⟨pA,pc,pr⟩,⟨gA,gc,gl⟩,⟨oA,oc,ob⟩,⟨vA,vc,vb⟩,⟨rA,rc,ru⟩,⟨nA,nc,fn⟩,⟨dA,dc,dm⟩⟩∧So.R (fun b=>b < w.heap.size) U ⟨ti,by_,st,re,mx,⟨fA,fc,fl⟩,⟨pA,pc,pr⟩,⟨gA,gc,gl⟩,⟨oA,oc,ob⟩,⟨vA,vc,vb⟩,⟨rA,rc,ru⟩,⟨nA,nc,fn⟩,⟨dA,dc,dm⟩⟩∧Below w.heap.size w U from fun U h=>by
  have h1:=HBV.out.trans (hb.mono HBV.out.size)
  have h2:=h1.trans (h.mono h1.size)
  exact ⟨So.stays _ _ _ _ _ (Keep.below h2) HR.out,So.stays _ _ _ _ _ ⟨h2.size,fun b _ hl=>⟨hl,h2.block b hl⟩⟩ HR.out,h2⟩)
 have HBS:=hI (show Bs w0 A1 n1 t A2 n2 tx from ⟨HUP.out,HT.out.1.below (HBV.out.trans (hb.mono HBV.out.size)),hx,HT.out.2,by have:=HN2.out;omega⟩)
 have HTXB:=hI (show ∀ b o,A2=some ⟨b,o,none⟩→0 < n2→b=rb→False from fun b o e hn c=>by
  obtain ⟨b',o',e',_,hc⟩:=hx.2 hn
  rw [e] at e'
  injection e' with e'
  injection e' with e1 e2
  subst e1 e2 c
  have h9:=HRES.out w0 (Below.refl _ _)
  have hln:=HN2.out.1
  obtain ⟨x,hxx⟩ : ∃ x,tx[0]?=some x:=⟨tx[0]'(by omega),List.getElem?_eq_getElem (by omega)⟩
  have h8:=hc 0 x hxx
  simp only [World.cell?,h9] at h8
  exact notext _ _ h8)
 have HRB0:=hI (show rb < w0.heap.size from Nat.lt_of_lt_of_le HRB.out.2.2 hb.size)
 clear hx hb x0 x1 x2 x3 x4 x5 x6 x7 x8 x9 x10 x11 x12 xf
 go_upto_region 3 with fail
 obtain ⟨w1,hw1⟩ : ∃ W,w0.alloc (.cells #[.slice A1 n1 c1,.slice A2 n2 c2,.int .i64 0,.int .i64 0,.int .i64 0,.int .i64 0,.slice none 0 0,.int .i64 0,.slice none 0 0,.slice none 0 0,.slice none 0 0,.slice none 0 0,.slice none 0 0,.slice none 0 0,.slice none 0 0,.slice none 0 0,.slice none 0 0,.slice none 0 0] 73)=W:=⟨_,rfl⟩
 rw [hw1]
 obtain ⟨m1,s1,b1⟩:=made hw1
 have HM1:=hI m1
 have HB1:=hI b1
 have HS1:=hI s1
 clear hw1 m1 s1 b1
 go_cut [5] (fun v wx=>v=.pointer (some ⟨w0.heap.size,0,none⟩)∧Bk inE RtI 1 3 (fun _ _=>True) (fun b=>b=rb) w0 (.slice A1 n1 c1) (.slice A2 n2 c2) (yB (place tx ti) (place tx by_) re mx (.slice A2 n2 c2) (4 + (fl.length : Int)) (.slice none 0 0) (.slice none 0 0) (.slice none 0 0) (.slice none 0 0) (.slice none 0 0) (.slice none 0 0)) 6 (.slice none 0 0) [] m0 vn vn vn ⟨[],[],[]⟩ wx)
 case first=>
  have HF4:=hI (show IntKind.i64.wrap ((4 : Int) + (fl.length : Int))=4 + (fl.length : Int) by rw [IntKind.wrap_i64];omega)
  have hS0 : w1.drew.heap[w0.heap.size]?=some (.cells #[.slice A1 n1 c1,.slice A2 n2 c2,.int .i64 0,.int .i64 0,.int .i64 0,.int .i64 0,.slice none 0 0,.int .i64 0,.slice none 0 0,.slice none 0 0,.slice none 0 0,.slice none 0 0,.slice none 0 0,.slice none 0 0,.slice none 0 0,.slice none 0 0,.slice none 0 0,.slice none 0 0] 73 (0,0))∧w1.drew.heap[sb]?=some (.cells #[.string (str ti),.string (str by_),.string (str st),.int .i64 re,.int .i64 mx,.slice fA fl.length fc,.slice pA pr.length pc,.slice gA gl.length gc,.slice oA ob.length oc,.slice vA vb.length vc,.slice rA ru.length rc,.slice nA fn.length nc,.slice dA dm.length dc] 29 (0,0)):=⟨HM1.out,HSRC.out w1 HB1.out⟩
  refine RgD.begin_ [29] (fun U=>U.heap[w0.heap.size]?=some (.cells #[.slice A1 n1 c1,.slice A2 n2 c2,.int .i64 0,.int .i64 0,.int .i64 0,.int .i64 0,.slice none 0 0,.int .i64 0,.slice none 0 0,.slice none 0 0,.slice none 0 0,.slice none 0 0,.slice none 0 0,.slice none 0 0,.slice none 0 0,.slice none 0 0,.slice none 0 0,.slice none 0 0] 73 (0,0))∧U.heap[sb]?=some (.cells #[.string (str ti),.string (str by_),.string (str st),.int .i64 re,.int .i64 mx,.slice fA fl.length fc,.slice pA pr.length pc,.slice gA gl.length gc,.slice oA ob.length oc,.slice vA vb.length vc,.slice rA ru.length rc,.slice nA fn.length nc,.slice dA dm.length dc] 29 (0,0))) (by kernel_rfl) hS0 (fun hHeld=>?_)
  refine tK 0 31 (h:=?_)
  simp only [zA,zB,zC]
  refine tK 1 32 (h:=?_)
  simp only [zA,zB,zC]
  refine tK 2 33 (h:=?_)
  simp only [zA,zB,zC]
  refine tK 3 34 (h:=?_)
  simp only [zA,zB,zC]
  refine tK 4 35 (v:=.slice A2 n2 c2) (hy:=by intro w0 hSw;obtain ⟨y0,y1,y2,y3,y4,y5,y6,y7,y8,y9,y10,y11,y12,y13,y14,y15,y16,y17,yf⟩:=cells18 hSw.1;first | (go_simp;done) | (go_simp;with_reducible rfl) | (go_simp;intro hc;exfalso;omega)) (h:=?_)
  simp only [zA,zB,zC]
  refine tK 5 36 (h:=?_)
  simp only [zA,zB,zC]
  refine tK 6 37 (v:=.string (str ti)) (hy:=by intro w0 hSw;obtain ⟨z0,z1,z2,z3,z4,z5,z6,z7,z8,z9,z10,z11,z12,zf⟩:=cellz13 hSw.2;first | (go_simp;done) | (go_simp;with_reducible rfl) | (go_simp;intro hc;exfalso;omega)) (h:=?_)
  simp only [zA,zB,zC]
  refine tK 8 39 (h:=?_)
  simp only [zA,zB,zC]
  refine tK 9 40 (h:=?_)
  simp only [zA,zB,zC]
  refine tK 10 41 (h:=?_)
  simp only [zA,zB,zC]
  refine tK 11 42 (v:=.slice A2 n2 c2) (hy:=by intro w0 hSw;obtain ⟨y0,y1,y2,y3,y4,y5,y6,y7,y8,y9,y10,y11,y12,y13,y14,y15,y16,y17,yf⟩:=cells18 hSw.1;first | (go_simp;done) | (go_simp;with_reducible rfl) | (go_simp;intro hc;exfalso;omega)) (h:=?_)
  simp only [zA,zB,zC]
  refine tK 12 43 (h:=?_)
  simp only [zA,zB,zC]
  refine tK 13 44 (v:=.string (str by_)) (hy:=by intro w0 hSw;obtain ⟨z0,z1,z2,z3,z4,z5,z6,z7,z8,z9,z10,z11,z12,zf⟩:=cellz13 hSw.2;first | (go_simp;done) | (go_simp;with_reducible rfl) | (go_simp;intro hc;exfalso;omega)) (h:=?_)
  simp only [zA,zB,zC]
  refine tK 15 46 (h:=?_)
  simp only [zA,zB,zC]
  refine tK 16 47 (v:=.int .i64 re) (hy:=by intro w0 hSw;obtain ⟨z0,z1,z2,z3,z4,z5,z6,z7,z8,z9,z10,z11,z12,zf⟩:=cellz13 hSw.2;first | (go_simp;done) | (go_simp;with_reducible rfl) | (go_simp;intro hc;exfalso;omega)) (h:=?_)
  simp only [zA,zB,zC]
  refine tK 17 48 (h:=?_)
  simp only [zA,zB,zC]
  refine tK 18 49 (v:=.int .i64 mx) (hy:=by intro w0 hSw;obtain ⟨z0,z1,z2,z3,z4,z5,z6,z7,z8,z9,z10,z11,z12,zf⟩:=cellz13 hSw.2;first | (go_simp;done) | (go_simp;with_reducible rfl) | (go_simp;intro hc;exfalso;omega)) (h:=?_)
  simp only [zA,zB,zC]
  refine tK 19 50 (h:=?_)
  simp only [zA,zB,zC]
  refine tK 20 51 (h:=?_)
  simp only [zA,zB,zC]
  refine tK 21 52 (h:=?_)
  simp only [zA,zB,zC]
  refine tK 22 53 (v:=.slice A2 n2 c2) (hy:=by intro w0 hSw;obtain ⟨y0,y1,y2,y3,y4,y5,y6,y7,y8,y9,y10,y11,y12,y13,y14,y15,y16,y17,yf⟩:=cells18 hSw.1;first | (go_simp;done) | (go_simp;with_reducible rfl) | (go_simp;intro hc;exfalso;omega)) (h:=?_)
  simp only [zA,zB,zC]
  refine tK 23 54 (h:=?_)
  simp only [zA,zB,zC]
  refine tK 24 55 (v:=.slice fA fl.length fc) (hy:=by intro w0 hSw;obtain ⟨z0,z1,z2,z3,z4,z5,z6,z7,z8,z9,z10,z11,z12,zf⟩:=cellz13 hSw.2;first | (go_simp;done) | (go_simp;with_reducible rfl) | (go_simp;intro hc;exfalso;omega)) (h:=?_)
  simp only [zA,zB,zC]
  refine tK 25 56 (h:=?_)
  simp only [zA,zB,zC]
  refine tK 26 57 (v:=.int .i64 (4 + (fl.length : Int))) (hy:=by intro w0 hSw;have zq:=HF4.out;first | (go_simp;done) | (go_simp;with_reducible rfl) | (go_simp;intro hc;exfalso;omega)) (h:=?_)
  simp only [zA,zB,zC]
  refine RgD.one (i:=7) (by kernel_rfl) ?_
  refine RgD.call (i:=7) (t:=38) rfl rfl (by rfl) (by go_simp;exact ⟨rfl,rfl⟩) ?_
  refine (place_i tx ti w1.drew (HBS.out.x.below (HB1.out.trans (Below.drew (Below.refl _ _)))) HBS.out.n2).mono ?_
  rintro r w5 ⟨rfl,rfl⟩
  refine ⟨_,rfl,hS0,?_⟩
  simp only [zA,zB,zC]
  refine RgD.one (i:=14) (by kernel_rfl) ?_
  refine RgD.call (i:=14) (t:=45) rfl rfl (by rfl) (by go_simp;exact ⟨rfl,rfl⟩) ?_
  refine (place_i tx by_ w1.drew (HBS.out.x.below (HB1.out.trans (Below.drew (Below.refl _ _)))) HBS.out.n2).mono ?_
  rintro r w5 ⟨rfl,rfl⟩
  refine ⟨_,rfl,hS0,?_⟩
  simp only [zA,zB,zC]
  refine tK 27 58 (h:=?_)
  simp only [zA,zB,zC]
  refine tK 28 59 (h:=?_)
  simp only [zA,zB,zC]
  refine RgD.one (i:=29) (by kernel_rfl) ?_
  have hbd : Below w0.heap.size w0 w1.drew:=HB1.out.trans (Below.drew (Below.refl _ _))
  obtain ⟨wd,hwd⟩ : ∃ W,w1.drew=W:=⟨_,rfl⟩
  rw [hwd] at hS0 hbd ⊢
  clear hwd hHeld
  obtain ⟨y0,y1,y2,y3,y4,y5,y6,y7,y8,y9,y10,y11,y12,y13,y14,y15,y16,y17,yf⟩:=cells18 hS0.1
  obtain ⟨w3,hw⟩ : ∃ W,putRow wd w0.heap.size 2 [.int .i64 (place tx ti),.int .i64 (place tx by_),.int .i64 re,.int .i64 mx,.slice A2 n2 c2,.int .i64 (4 + (fl.length : Int)),.slice none 0 0,.slice none 0 0,.slice none 0 0,.slice none 0 0,.slice none 0 0,.slice none 0 0,.slice none 0 0,.slice none 0 0,.slice none 0 0]=W:=⟨_,rfl⟩
  have hb3 : Below w0.heap.size w0 w3:=by rw [← hw];exact putRow_below _ _ _ hbd (Nat.le_refl _)
  have hx3 : w3.heap[w0.heap.size]?=some (.cells #[.slice A1 n1 c1,.slice A2 n2 c2,.int .i64 (place tx ti),.int .i64 (place tx by_),.int .i64 re,.int .i64 mx,.slice A2 n2 c2,.int .i64 (4 + (fl.length : Int)),.slice none 0 0,.slice none 0 0,.slice none 0 0,.slice none 0 0,.slice none 0 0,.slice none 0 0,.slice none 0 0,.slice none 0 0,.slice none 0 0,.slice none 0 0] 73 (0,0)):=by rw [← hw];exact putRow_mid [.slice A1 n1 c1,.slice A2 n2 c2] [.int .i64 0,.int .i64 0,.int .i64 0,.int .i64 0,.slice none 0 0,.int .i64 0,.slice none 0 0,.slice none 0 0,.slice none 0 0,.slice none 0 0,.slice none 0 0,.slice none 0 0,.slice none 0 0,.slice none 0 0,.slice none 0 0] [.slice none 0 0] [.int .i64 (place tx ti),.int .i64 (place tx by_),.int .i64 re,.int .i64 mx,.slice A2 n2 c2,.int .i64 (4 + (fl.length : Int)),.slice none 0 0,.slice none 0 0,.slice none 0 0,.slice none 0 0,.slice none 0 0,.slice none 0 0,.slice none 0 0,.slice none 0 0,.slice none 0 0] rfl hS0.1
  have HMB:=hI (bk_first (tv:=.slice A1 n1 c1) (xv:=.slice A2 n2 c2) (y:=(yB (place tx ti) (place tx by_) re mx (.slice A2 n2 c2) (4 + (fl.length : Int)) (.slice none 0 0) (.slice none 0 0) (.slice none 0 0) (.slice none 0 0) (.slice none 0 0) (.slice none 0 0))) hx3 hb3 HRB0.out rfl)
  refine RgD.store (i:=29) (w1:=w3) rfl rfl (by rfl) (by kernel_rfl) (by first | (go_simp;done) | (go_simp;exact hw) | (go_simp;rw [hw])) ?_
  refine RgD.done (by kernel_rfl) ?_ _
  clear hS0 hb3 hx3 hw hbd y0 y1 y2 y3 y4 y5 y6 y7 y8 y9 y10 y11 y12 y13 y14 y15 y16 y17 yf
  go_wp2_with fail
  go_meet
  exact ⟨rfl,HMB.out⟩
 case rest=>
  obtain ⟨rfl,hk⟩:=hcut
  have HK0:=hI hk
  clear hk HB1 HM1 HS1
  clear w1
  obtain ⟨x0,x1,x2,x3,x4,x5,x6,x7,x8,x9,x10,x11,x12,xf⟩:=cellz13 (HSRC.out _ HK0.out.mb.low)
  go_wp2_with fail
  go_loopw [63] (fun iv wr=>∃ (j : Nat) (Ao : Option Addr) (co : Nat),j≤pr.length∧iv=.int .i64 (j : Int)∧Bk inE RtI 1 3 (fun _ _=>True) (fun b=>b=rb) w0 (.slice A1 n1 c1) (.slice A2 n2 c2) (yB (place tx ti) (place tx by_) re mx (.slice A2 n2 c2) (4 + (fl.length : Int)) (.slice none 0 0) (.slice none 0 0) (.slice none 0 0) (.slice none 0 0) (.slice none 0 0) (.slice none 0 0)) 6 (.slice Ao j co) ((pr.take j).map Pr.num) m0 vn vn vn ⟨[],[],[]⟩ wr) (fun iv _=>pr.length - (intOf iv).toNat)
  case atStart=>exact ⟨0,none,0,Nat.zero_le _,rfl,HK0.out⟩
  case round=>
   obtain ⟨j,Ao,co,hj,rfl,hbk⟩:=hrel
   clear x0 x1 x2 x3 x4 x5 x6 x7 x8 x9 x10 x11 x12 xf
   have HK:=hI hbk
   have k0 : (0 : Int)≤(j : Int):=by omega
   by_cases hlt : j < pr.length
   ·have k1 : (j : Int) < (pr.length : Int):=by omega
    obtain ⟨b,o,rfl,hbz,hc⟩:=Lg.at_ Pr.len (HRW.out wr hbk.mb.low).1.2.1 hlt
    have htk:=List.take_succ_eq_append_getElem hlt
    obtain ⟨⟨pnm,pnu⟩,hy⟩ : ∃ y,pr[j]=y:=⟨_,rfl⟩
    rw [hy] at hc htk
    obtain ⟨L,hL⟩ : ∃ L,(pr.take j).map Pr.num=L:=⟨_,rfl⟩
    have HTK:=hI (show (pr.take (j + 1)).map Pr.num=L ++ [pnu] by rw [htk,List.map_append,hL];rfl)
    have HLL:=hI (show L.length=j by rw [← hL,List.length_map,List.length_take];omega)
    rw [hL] at HK
    have e0 : wr.cell? ⟨b,o + j * 2,none⟩=some (.string (str pnm)):=hc 0 _ rfl
    have e1 : wr.cell? ⟨b,o + j * 2 + 1,none⟩=some (.int .i64 pnu):=hc 1 _ rfl
    clear hc hy htk hL hbz hbk
    go_upto_region 7 with fail
    obtain ⟨w1,hw1⟩ : ∃ W,wr.alloc (.cells #[.string (str pnm),.int .i64 pnu] 77)=W:=⟨_,rfl⟩
    obtain ⟨mm1,ms1,b1⟩:=made hw1
    rw [hw1]
    obtain ⟨pb,hpb⟩ : ∃ p,wr.heap.size=p:=⟨_,rfl⟩
    have HK1:=hI (Bk.below stays_i firm_true HK.out b1)
    have HNE:=hI (show Value.ownBlock (.slice Ao j co) ≠ some pb from fun c=>by have:=(HK.out.ow.lt c).2;omega)
    rw [hpb] at mm1 ⊢
    have HPB:=hI mm1
    clear e0 e1 hw1 mm1 ms1 b1 hpb
    have hS0 : w1.drew.cell? ⟨w0.heap.size,8,none⟩=some (.slice Ao j co)∧w1.drew.heap[pb]?=some (.cells #[.string (str pnm),.int .i64 pnu] 77 (0,0)):=⟨(HK1.out.cell (by omega)).1,HPB.out⟩
    refine RgD.begin_ [9,10,11] (fun U=>U.cell? ⟨w0.heap.size,8,none⟩=some (.slice Ao j co)∧U.heap[pb]?=some (.cells #[.string (str pnm),.int .i64 pnu] 77 (0,0))) (by kernel_rfl) hS0 (fun hHeld=>?_)
    refine tK 0 67 (h:=?_)
    simp only [zA,zB,zC]
    refine tK 1 68 (h:=?_)
    simp only [zA,zB,zC]
    refine tK 2 69 (h:=?_)
    simp only [zA,zB,zC]
    refine tK 3 70 (h:=?_)
    simp only [zA,zB,zC]
    refine tK 4 71 (v:=.slice Ao j co) (hy:=by intro w0 hSw;have z0:=hSw.1;first | (go_simp;done) | (go_simp;with_reducible rfl) | (go_simp;intro hc;exfalso;omega)) (h:=?_)
    simp only [zA,zB,zC]
    refine tK 5 72 (h:=?_)
    simp only [zA,zB,zC]
    refine tK 6 73 (v:=.int .i64 pnu) (hy:=by intro w0 hSw;have z1:=pc1 hSw.2;first | (go_simp;done) | (go_simp;with_reducible rfl) | (go_simp;intro hc;exfalso;omega)) (h:=?_)
    simp only [zA,zB,zC]
    refine RgD.one (i:=7) (by kernel_rfl) ?_
    obtain ⟨w10,hw⟩ : ∃ W,w1.drew.alloc (.cells #[.int .i64 pnu] 3)=W:=⟨_,rfl⟩
    have hb:=(made hw).2.2
    have HK10:=hI (Bk.below stays_i firm_true (Bk.below stays_i firm_true HK1.out (Below.drew (Below.refl _ _))) hb)
    have hz : Sk.Rd inE w10 (some ⟨w1.heap.size,0,none⟩) 1 [pnu]:=by rw [← hw];exact Sk.rd_lit (enc:=inE) _ 3 [pnu] _ rfl 1 rfl
    have q010:=(hb.block _ (Array.getElem?_eq_some_iff.1 hS0.2).1).trans hS0.2
    have gS10 : (fun U=>U.cell? ⟨w0.heap.size,8,none⟩=some (.slice Ao j co)∧U.heap[pb]?=some (.cells #[.string (str pnm),.int .i64 pnu] 77 (0,0))) w10:=⟨(HK10.out.cell (by omega)).1,q010⟩
    refine RgD.eff (i:=7) (t:=74) (v:=.slice (some ⟨w1.heap.size,0,none⟩) 1 1) (w1:=w10) rfl rfl (by rfl) (by first | (go_simp;done) | (go_simp;with_reducible rfl) | (go_simp;rw [hw];rfl) | (go_simp;exact ⟨rfl,hw⟩) | (go_simp;exact hw)) gS10 ?_
    simp only [zA,zB,zC]
    clear hb hw
    refine RgD.one (i:=8) (by kernel_rfl) ?_
    refine RgD.app elI (i:=8) (t:=75) (.tmp 71) (.tmp 74) rfl rfl (by rfl) rfl rfl HK10.out.ow.own (some ⟨w1.heap.size,0,none⟩) 1 1 [pnu] rfl hz (by have h1:=HLL.out;unfold maxLen;omega) (by have h1:=HLL.out;omega) (Nat.le_of_lt HK10.out.mb.lt) ?_
    intro v11 w11 ho hb hg hv
    have HK11:=hI (Bk.app stays_i firm_true (by omega) HK10.out ho hg hv (fun _ _=>trivial))
    have hc11 : w11.cell? ⟨w0.heap.size,8,none⟩=w10.cell? ⟨w0.heap.size,8,none⟩:=World.cell?_of_block (hg.block w0.heap.size HK10.out.mb.lt (fun c=>(HK10.out.ow.row _ c.symm).1 (.inl rfl)))
    have d11:=hc11.trans gS10.1
    have q011:=(hg.block _ (Array.getElem?_eq_some_iff.1 q010).1 (fun c=>HNE.out c.symm)).trans q010
    have gS11 : (fun U=>U.cell? ⟨w0.heap.size,8,none⟩=some (.slice Ao j co)∧U.heap[pb]?=some (.cells #[.string (str pnm),.int .i64 pnu] 77 (0,0))) w11:=⟨d11,q011⟩
    have ff11:=frz (hg.block w0.heap.size HK10.out.mb.lt (fun c=>(HK10.out.ow.row _ c.symm).1 (.inl rfl))) (HK10.out.cell (by omega)).2
    refine ⟨gS11,?_⟩
    simp only [zA,zB,zC]
    obtain ⟨A11,c11,rfl,_,_⟩:=ho.shape
    have hlen : (L ++ [pnu]).length=j + 1:=by rw [List.length_append,HLL.out];rfl
    rw [hlen] at HK11 ⊢
    clear hlen ho hb hg hv hz hc11
    refine RgD.tk0 9 76 (h:=?_)
    simp only [zA,zB,zC]
    refine RgD.tk0 10 77 (h:=?_)
    simp only [zA,zB,zC]
    refine RgD.one (i:=11) (by kernel_rfl) ?_
    obtain ⟨w12,hw⟩ : ∃ W,w11.setCell ⟨w0.heap.size,8,none⟩ (.slice A11 (j + 1) c11)=W:=⟨_,rfl⟩
    rw [hw] at HK11
    refine RgD.store (i:=11) (w1:=w12) rfl rfl (by rfl) (by kernel_rfl) (by first | (go_simp;done) | (go_simp;exact hw) | (go_simp;rw [hw])) ?_
    refine RgD.done (by kernel_rfl) ?_ _
    clear hS0 hw d11 ff11 gS10 gS11 q010 q011
    go_wp2_with fail
    go_roundw
    case rel=>exact ⟨j + 1,A11,c11,by omega,by go_num,by rw [HTK.out];exact HK11.out⟩
    case measure=>simp [intOf];omega
   ·obtain rfl : pr.length=j:=by omega
    rw [List.take_length] at hbk
    obtain ⟨Av6,c6,F2,Y2,hv6,hY2,hF2,hG2,hk⟩:=Bk.next inE RtI 1 3 stays_i firm_true hbk (i':=7) (by omega) rfl
    rw [yB_6] at hY2
    subst hY2
    have HF2:=hI hF2
    have HG2:=hI hG2
    have HK2:=hI hk
    clear hbk HK HK0 hv6 hF2 hG2 hk
    obtain ⟨x0,x1,x2,x3,x4,x5,x6,x7,x8,x9,x10,x11,x12,xf⟩:=cellz13 (HSRC.out _ HK2.out.mb.low)
    go_wp2_with fail
    go_loopw [82] (fun iv wr=>∃ (j : Nat) (Ao : Option Addr) (co : Nat),j≤gl.length∧iv=.int .i64 (j : Int)∧Bk inE RtI 1 3 F2 (fun b=>b=rb) w0 (.slice A1 n1 c1) (.slice A2 n2 c2) (yB (place tx ti) (place tx by_) re mx (.slice A2 n2 c2) (4 + (fl.length : Int)) (.slice Av6 (pr.map Pr.num).length c6) (.slice none 0 0) (.slice none 0 0) (.slice none 0 0) (.slice none 0 0) (.slice none 0 0)) 7 (.slice Ao j co) ((gl.take j).map Pr.num) m0 vn vn vn ⟨[],[],[]⟩ wr) (fun iv _=>gl.length - (intOf iv).toNat)
    case atStart=>exact ⟨0,none,0,Nat.zero_le _,rfl,HK2.out⟩
    case round=>
     obtain ⟨j,Ao,co,hj,rfl,hbk⟩:=hrel
     clear x0 x1 x2 x3 x4 x5 x6 x7 x8 x9 x10 x11 x12 xf
     have HK:=hI hbk
     have k0 : (0 : Int)≤(j : Int):=by omega
     by_cases hlt : j < gl.length
     ·have k1 : (j : Int) < (gl.length : Int):=by omega
      obtain ⟨b,o,rfl,hbz,hc⟩:=Lg.at_ Pr.len (HRW.out wr hbk.mb.low).1.2.2.1 hlt
      have htk:=List.take_succ_eq_append_getElem hlt
      obtain ⟨⟨pnm,pnu⟩,hy⟩ : ∃ y,gl[j]=y:=⟨_,rfl⟩
      rw [hy] at hc htk
      obtain ⟨L,hL⟩ : ∃ L,(gl.take j).map Pr.num=L:=⟨_,rfl⟩
      have HTK:=hI (show (gl.take (j + 1)).map Pr.num=L ++ [pnu] by rw [htk,List.map_append,hL];rfl)
      have HLL:=hI (show L.length=j by rw [← hL,List.length_map,List.length_take];omega)
      rw [hL] at HK
      have e0 : wr.cell? ⟨b,o + j * 2,none⟩=some (.string (str pnm)):=hc 0 _ rfl
      have e1 : wr.cell? ⟨b,o + j * 2 + 1,none⟩=some (.int .i64 pnu):=hc 1 _ rfl
      clear hc hy htk hL hbz hbk
      go_upto_region 12 with fail
      obtain ⟨w1,hw1⟩ : ∃ W,wr.alloc (.cells #[.string (str pnm),.int .i64 pnu] 77)=W:=⟨_,rfl⟩
      obtain ⟨mm1,ms1,b1⟩:=made hw1
      rw [hw1]
      obtain ⟨pb,hpb⟩ : ∃ p,wr.heap.size=p:=⟨_,rfl⟩
      have HK1:=hI (Bk.below stays_i HF2.out HK.out b1)
      have HNE:=hI (show Value.ownBlock (.slice Ao j co) ≠ some pb from fun c=>by have:=(HK.out.ow.lt c).2;omega)
      rw [hpb] at mm1 ⊢
      have HPB:=hI mm1
      clear e0 e1 hw1 mm1 ms1 b1 hpb
      have hS0 : w1.drew.cell? ⟨w0.heap.size,9,none⟩=some (.slice Ao j co)∧w1.drew.heap[pb]?=some (.cells #[.string (str pnm),.int .i64 pnu] 77 (0,0)):=⟨(HK1.out.cell (by omega)).1,HPB.out⟩
      refine RgD.begin_ [9,10,11] (fun U=>U.cell? ⟨w0.heap.size,9,none⟩=some (.slice Ao j co)∧U.heap[pb]?=some (.cells #[.string (str pnm),.int .i64 pnu] 77 (0,0))) (by kernel_rfl) hS0 (fun hHeld=>?_)
      refine tK 0 86 (h:=?_)
      simp only [zA,zB,zC]
      refine tK 1 87 (h:=?_)
      simp only [zA,zB,zC]
      refine tK 2 88 (h:=?_)
      simp only [zA,zB,zC]
      refine tK 3 89 (h:=?_)
      simp only [zA,zB,zC]
      refine tK 4 90 (v:=.slice Ao j co) (hy:=by intro w0 hSw;have z0:=hSw.1;first | (go_simp;done) | (go_simp;with_reducible rfl) | (go_simp;intro hc;exfalso;omega)) (h:=?_)
      simp only [zA,zB,zC]
      refine tK 5 91 (h:=?_)
      simp only [zA,zB,zC]
      refine tK 6 92 (v:=.int .i64 pnu) (hy:=by intro w0 hSw;have z1:=pc1 hSw.2;first | (go_simp;done) | (go_simp;with_reducible rfl) | (go_simp;intro hc;exfalso;omega)) (h:=?_)
      simp only [zA,zB,zC]
      refine RgD.one (i:=7) (by kernel_rfl) ?_
      obtain ⟨w10,hw⟩ : ∃ W,w1.drew.alloc (.cells #[.int .i64 pnu] 3)=W:=⟨_,rfl⟩
      have hb:=(made hw).2.2
      have HK10:=hI (Bk.below stays_i HF2.out (Bk.below stays_i HF2.out HK1.out (Below.drew (Below.refl _ _))) hb)
      have hz : Sk.Rd inE w10 (some ⟨w1.heap.size,0,none⟩) 1 [pnu]:=by rw [← hw];exact Sk.rd_lit (enc:=inE) _ 3 [pnu] _ rfl 1 rfl
      have q010:=(hb.block _ (Array.getElem?_eq_some_iff.1 hS0.2).1).trans hS0.2
      have gS10 : (fun U=>U.cell? ⟨w0.heap.size,9,none⟩=some (.slice Ao j co)∧U.heap[pb]?=some (.cells #[.string (str pnm),.int .i64 pnu] 77 (0,0))) w10:=⟨(HK10.out.cell (by omega)).1,q010⟩
      refine RgD.eff (i:=7) (t:=93) (v:=.slice (some ⟨w1.heap.size,0,none⟩) 1 1) (w1:=w10) rfl rfl (by rfl) (by first | (go_simp;done) | (go_simp;with_reducible rfl) | (go_simp;rw [hw];rfl) | (go_simp;exact ⟨rfl,hw⟩) | (go_simp;exact hw)) gS10 ?_
      simp only [zA,zB,zC]
      clear hb hw
      refine RgD.one (i:=8) (by kernel_rfl) ?_
      refine RgD.app elI (i:=8) (t:=94) (.tmp 90) (.tmp 93) rfl rfl (by rfl) rfl rfl HK10.out.ow.own (some ⟨w1.heap.size,0,none⟩) 1 1 [pnu] rfl hz (by have h1:=HLL.out;unfold maxLen;omega) (by have h1:=HLL.out;omega) (Nat.le_of_lt HK10.out.mb.lt) ?_
      intro v11 w11 ho hb hg hv
      have HK11:=hI (Bk.app stays_i HF2.out (by omega) HK10.out ho hg hv (fun _ _=>trivial))
      have hc11 : w11.cell? ⟨w0.heap.size,9,none⟩=w10.cell? ⟨w0.heap.size,9,none⟩:=World.cell?_of_block (hg.block w0.heap.size HK10.out.mb.lt (fun c=>(HK10.out.ow.row _ c.symm).1 (.inl rfl)))
      have d11:=hc11.trans gS10.1
      have q011:=(hg.block _ (Array.getElem?_eq_some_iff.1 q010).1 (fun c=>HNE.out c.symm)).trans q010
      have gS11 : (fun U=>U.cell? ⟨w0.heap.size,9,none⟩=some (.slice Ao j co)∧U.heap[pb]?=some (.cells #[.string (str pnm),.int .i64 pnu] 77 (0,0))) w11:=⟨d11,q011⟩
      have ff11:=frz (hg.block w0.heap.size HK10.out.mb.lt (fun c=>(HK10.out.ow.row _ c.symm).1 (.inl rfl))) (HK10.out.cell (by omega)).2
      refine ⟨gS11,?_⟩
      simp only [zA,zB,zC]
      obtain ⟨A11,c11,rfl,_,_⟩:=ho.shape
      have hlen : (L ++ [pnu]).length=j + 1:=by rw [List.length_append,HLL.out];rfl
      rw [hlen] at HK11 ⊢
      clear hlen ho hb hg hv hz hc11
      refine RgD.tk0 9 95 (h:=?_)
      simp only [zA,zB,zC]
      refine RgD.tk0 10 96 (h:=?_)
      simp only [zA,zB,zC]
      refine RgD.one (i:=11) (by kernel_rfl) ?_
      obtain ⟨w12,hw⟩ : ∃ W,w11.setCell ⟨w0.heap.size,9,none⟩ (.slice A11 (j + 1) c11)=W:=⟨_,rfl⟩
      rw [hw] at HK11
      refine RgD.store (i:=11) (w1:=w12) rfl rfl (by rfl) (by kernel_rfl) (by first | (go_simp;done) | (go_simp;exact hw) | (go_simp;rw [hw])) ?_
      refine RgD.done (by kernel_rfl) ?_ _
      clear hS0 hw d11 ff11 gS10 gS11 q010 q011
      go_wp2_with fail
      go_roundw
      case rel=>exact ⟨j + 1,A11,c11,by omega,by go_num,by rw [HTK.out];exact HK11.out⟩
      case measure=>simp [intOf];omega
     ·obtain rfl : gl.length=j:=by omega
      rw [List.take_length] at hbk
      obtain ⟨Av7,c7,F3,Y3,hv7,hY3,hF3,hG3,hk⟩:=Bk.next thE ThR 9 80 stays_i HF2.out hbk (i':=8) (by omega) rfl
      rw [yB_7] at hY3
      subst hY3
      have HF3:=hI hF3
      have HG3:=hI hG3
      obtain ⟨wq,hwq⟩ : ∃ W,W=wr:=⟨_,rfl⟩
      rw [← hwq] at hk ⊢
      obtain ⟨pl,hpl⟩ : ∃ l,pr.map Pr.num=l:=⟨_,rfl⟩
      obtain ⟨np,hnp⟩ : ∃ n,pl.length=n:=⟨_,rfl⟩
      rw [hpl] at HG2
      rw [hpl,hnp] at hk
      have HKQ:=hI hk
      clear hbk HK HK2 hv7 hF3 hG3 hk hwq
      obtain ⟨x0,x1,x2,x3,x4,x5,x6,x7,x8,x9,x10,x11,x12,xf⟩:=cellz13 (HSRC.out _ HKQ.out.mb.low)
      go_upto_region 14 with fail
      clear x0 x1 x2 x3 x4 x5 x6 x7 x8 x9 x10 x11 x12 xf
      have HPE:=hI hpl
      have HPL:=hI hnp
      have HNP:=hI (show np≤1048576 by rw [← hnp,← hpl,List.length_map];exact zP)
      clear hpl hnp
      have HLW:=hI (show ∀ U,Below wq.heap.size wq U→Below w0.heap.size w0 U from fun U h=>HKQ.out.mb.low.trans (h.mono HKQ.out.mb.low.size))
      have HPR:=hI (show ∀ U,Below wq.heap.size wq U→Sk.Rd inE U Av6 np pl from fun U h=>by
       have h1:=(HG2.out _ _ (HG3.out _ _ HKQ.out.fin).1).2.1.rd
       rw [HPL.out] at h1
       exact h1.below h)
      have HBX:=hI (show ∀ U,Below wq.heap.size wq U→U.cell? ⟨w0.heap.size,1,none⟩=some (.slice A2 n2 c2)∧U.cell? ⟨w0.heap.size,8,none⟩=some (.slice Av6 np c6)∧U.heap[sb]?=some (.cells #[.string (str ti),.string (str by_),.string (str st),.int .i64 re,.int .i64 mx,.slice fA fl.length fc,.slice pA pr.length pc,.slice gA gl.length gc,.slice oA ob.length oc,.slice vA vb.length vc,.slice rA ru.length rc,.slice nA fn.length nc,.slice dA dm.length dc] 29 (0,0)) from fun U h=>by
       obtain ⟨y0,y1,y2,y3,y4,y5,y6,y7,y8,y9,y10,y11,y12,y13,y14,y15,y16,y17,yf⟩:=cells18 (HKQ.out.mb.below h).box
       exact ⟨y1,y8,HSRC.out U (HLW.out U h)⟩)
      go_cut [5] (fun v wx=>v=.pointer (some ⟨w0.heap.size,0,none⟩)∧∃ (A : Option Addr) (c : Nat) (X : List Th),Bk thE ThR 9 80 F3 (fun b=>b=rb) w0 (.slice A1 n1 c1) (.slice A2 n2 c2) (yB (place tx ti) (place tx by_) re mx (.slice A2 n2 c2) (4 + (fl.length : Int)) (.slice Av6 np c6) (.slice Av7 (gl.map Pr.num).length c7) (.slice none 0 0) (.slice none 0 0) (.slice none 0 0) (.slice none 0 0)) 8 (.slice A 2 c) X m0 vn vn vn ⟨[],[],[]⟩ wx∧Hid (X.map Th.p=th2 t tx pl st))
      case first=>
       have hS0 : Below wq.heap.size wq wq.drew:=Below.drew (Below.refl _ _)
       refine RgD.begin_ [25,26,27] (fun U=>Below wq.heap.size wq U) (by kernel_rfl) hS0 (fun hHeld=>?_)
       refine tK 0 98 (h:=?_)
       simp only [zA,zB,zC]
       refine tK 1 99 (h:=?_)
       simp only [zA,zB,zC]
       refine tK 2 100 (h:=?_)
       simp only [zA,zB,zC]
       refine tK 3 101 (h:=?_)
       simp only [zA,zB,zC]
       refine tK 4 102 (v:=.slice Av6 np c6) (hy:=by intro w0 hSw;have z0:=(HBX.out _ hSw).2.1;first | (go_simp;done) | (go_simp;with_reducible rfl) | (go_simp;intro hc;exfalso;omega)) (h:=?_)
       simp only [zA,zB,zC]
       refine tK 5 103 (v:=.int .i64 (np : Int)) (h:=?_)
       simp only [zA,zB,zC]
       refine tK 8 106 (h:=?_)
       simp only [zA,zB,zC]
       refine tK 9 107 (h:=?_)
       simp only [zA,zB,zC]
       refine tK 10 108 (h:=?_)
       simp only [zA,zB,zC]
       refine tK 11 109 (v:=.slice A2 n2 c2) (hy:=by intro w0 hSw;have z0:=(HBX.out _ hSw).1;first | (go_simp;done) | (go_simp;with_reducible rfl) | (go_simp;intro hc;exfalso;omega)) (h:=?_)
       simp only [zA,zB,zC]
       refine tK 13 111 (h:=?_)
       simp only [zA,zB,zC]
       refine tK 14 112 (h:=?_)
       simp only [zA,zB,zC]
       refine tK 15 113 (v:=.string (str st)) (hy:=by intro w0 hSw;obtain ⟨z0,z1,z2,z3,z4,z5,z6,z7,z8,z9,z10,z11,z12,zf⟩:=cellz13 (HBX.out _ hSw).2.2;first | (go_simp;done) | (go_simp;with_reducible rfl) | (go_simp;intro hc;exfalso;omega)) (h:=?_)
       simp only [zA,zB,zC]
       refine tK 18 116 (h:=?_)
       simp only [zA,zB,zC]
       refine tK 19 117 (h:=?_)
       simp only [zA,zB,zC]
       refine tK 20 118 (h:=?_)
       simp only [zA,zB,zC]
       refine tK 21 119 (v:=.slice Av6 np c6) (hy:=by intro w0 hSw;have z0:=(HBX.out _ hSw).2.1;first | (go_simp;done) | (go_simp;with_reducible rfl) | (go_simp;intro hc;exfalso;omega)) (h:=?_)
       simp only [zA,zB,zC]
       refine frame7 104 105 110 114 115 120 121 ?_
       intro T hT
       simp only [zA,zB,zC] at hT
       refine share (f:=4) (lf:=#[true,true,true,true,true,true,true,true,true,true,true,true,true,true,true,true,true,true,true,true,true,true,true,true,false,false,false,false]) (fun V ts=>∃ x104 x105 x110 x114 x115 x120 x121,ts=T x104 x105 x110 x114 x115 x120 x121∧Below wq.heap.size wq V∧Zr inE 3 (List.replicate np 0) wq V x104∧x105=.agg #[.int .i64 0,.int .i64 (-1),.int .i64 0,.int .i64 0,.bool false,x104,.slice none 0 0,.slice none 0 0,.slice none 0 0]∧Zr svE 9 [me,myself] wq V x115∧x110=.int .i64 (place tx you)∧x114=.int .i64 (thg t st)∧Zr inE 3 pl wq V x120∧x121=.agg #[.int .i64 (place tx you),.int .i64 (-1),.int .i64 (thg t st),.int .i64 0,.bool false,x120,x115,.slice none 0 0,.slice none 0 0]) ?_ fun key311=>?_
       ·rintro V ts ⟨x104,x105,x110,x114,x115,x120,x121,rfl,hB,hZa,h105,hZw,h110,h114,hZp,h121⟩
        rw [hT]
        subst h110 h114 h105 h121
        obtain ⟨Az,cz,rfl,hoz⟩:=hZa
        obtain ⟨Aw,cw,rfl,how⟩:=hZw
        obtain ⟨Ap,cp,rfl,hop⟩:=hZp
        simp only [List.length_replicate,List.length_cons,List.length_nil,HPL.out] at hoz how hop ⊢
        have HZA:=hI hoz
        have HZW:=hI how
        have HZP:=hI hop
        have HBV2:=hI hB
        clear hoz how hop
        refine RgD.one (i:=24) (by kernel_rfl) ?_
        obtain ⟨w10,hw⟩ : ∃ W,V.alloc (.cells #[.int .i64 0,.int .i64 (-1),.int .i64 0,.int .i64 0,.bool false,.slice Az np cz,.slice none 0 0,.slice none 0 0,.slice none 0 0,.int .i64 (place tx you),.int .i64 (-1),.int .i64 (thg t st),.int .i64 0,.bool false,.slice Ap np cp,.slice Aw 2 cw,.slice none 0 0,.slice none 0 0] 80)=W:=⟨_,rfl⟩
        have hb:=(made hw).2.2
        have hB2:=hB.trans (hb.mono hB.size)
        have ho : Sk.Own thE 9 80 w10 w0.heap.size (.slice (some ⟨V.heap.size,0,none⟩) 2 2) ([] ++ [(⟨0,-1,0,0,false,⟨Az,cz,List.replicate np 0⟩,⟨none,0,[]⟩,⟨none,0,[]⟩,⟨none,0,[]⟩⟩ : Th),⟨place tx you,-1,thg t st,0,false,⟨Ap,cp,pl⟩,⟨Aw,cw,[me,myself]⟩,⟨none,0,[]⟩,⟨none,0,[]⟩⟩]):=by rw [← hw];exact Sk.own_lit (enc:=thE) _ _ _ thE_len (by simp [thE,Sv.v,HPL.out]) (by unfold maxLen;simp) (by have:=(HLW.out V hB).size;exact this) 2 rfl
        have HO:=hI ho
        have HB10:=hI hb
        clear ho hb
        refine RgD.eff (i:=24) (t:=122) (v:=.slice (some ⟨V.heap.size,0,none⟩) 2 2) (w1:=w10) rfl rfl (by rfl) (by first | (go_simp;done) | (go_simp;with_reducible rfl) | (go_simp;rw [hw];rfl) | (go_simp;exact ⟨rfl,hw⟩) | (go_simp;exact hw)) hB2 ?_
        simp only [zA,zB,zC]
        clear hw
        refine RgD.tk0 25 123 (h:=?_)
        simp only [zA,zB,zC]
        refine RgD.tk0 26 124 (h:=?_)
        simp only [zA,zB,zC]
        refine RgD.one (i:=27) (by kernel_rfl) ?_
        have d11:=(HKQ.out.below stays_th HF3.out hB2).cell (by omega)
        obtain ⟨d11,f11⟩:=d11
        obtain ⟨w12,hw⟩ : ∃ W,w10.setCell ⟨w0.heap.size,10,none⟩ (.slice (some ⟨V.heap.size,0,none⟩) 2 2)=W:=⟨_,rfl⟩
        have HW12:=hI hw
        refine RgD.store (i:=27) (w1:=w12) rfl rfl (by rfl) (by kernel_rfl) (by first | (go_simp;done) | (go_simp;exact hw) | (go_simp;rw [hw])) ?_
        refine RgD.done (by kernel_rfl) ?_ _
        clear d11 f11 hw hB2 hB hS0
        go_wp2_with fail
        go_meet
        refine ⟨rfl,some ⟨V.heap.size,0,none⟩,2,[(⟨0,-1,0,0,false,⟨Az,cz,List.replicate np 0⟩,⟨none,0,[]⟩,⟨none,0,[]⟩,⟨none,0,[]⟩⟩ : Th),⟨place tx you,-1,thg t st,0,false,⟨Ap,cp,pl⟩,⟨Aw,cw,[me,myself]⟩,⟨none,0,[]⟩,⟨none,0,[]⟩⟩],?_,hI ?_⟩
        rotate_left
        ·show List.map Th.p [(⟨0,-1,0,0,false,⟨Az,cz,List.replicate np 0⟩,⟨none,0,[]⟩,⟨none,0,[]⟩,⟨none,0,[]⟩⟩ : Th),⟨place tx you,-1,thg t st,0,false,⟨Ap,cp,pl⟩,⟨Aw,cw,[me,myself]⟩,⟨none,0,[]⟩,⟨none,0,[]⟩⟩]=_
         unfold th2
         rw [HPL.out]
         rfl
        ·rw [← HW12.out]
         have hB:=HBV2.out
         have hKV:=HKQ.out.below stays_th HF3.out hB
         have hmono : ∀ (g : Nat),wq.heap.size≤g→¬ Dm w0 vn vn vn g∧¬ (g=rb∨Value.ownBlock (.slice none 0 0)=some g):=fun g hg=>⟨fun c=>by have:=(HKQ.out.mb.dm c).2;omega,fun c=>by rcases c with c | c;have:=HRB0.out;have:=HKQ.out.mb.low.size;omega;cases c⟩
         refine Bk.app stays_th HF3.out (by omega) hKV HO.out (row_none HB10.out) (.inr rfl) (fun x hx=>?_)
         have lz : Lg inE RtI (fun b=>wq.heap.size≤b) V Az cz (List.replicate np 0):=own_lg stays_i (fun _ _ _=>trivial) HZA.out
         have lp : Lg inE RtI (fun b=>wq.heap.size≤b) V Ap cp pl:=own_lg stays_i (fun _ _ _=>trivial) HZP.out
         have lw : Lg svE Rt (fun b=>wq.heap.size≤b) V Aw cw [me,myself]:=own_lg stays_t (fun _ _ _=>trivial) HZW.out
         have hk : Keep (fun b=>wq.heap.size≤b) (fun b=>¬ Dm w0 vn vn vn b∧¬ (b=rb∨Value.ownBlock (.slice none 0 0)=some b)) V V:=Keep.weak fun b hb _=>hmono b hb
         simp only [List.mem_cons,List.not_mem_nil,or_false] at hx
         rcases hx with rfl | rfl
         ·exact ⟨Lg.keep stays_i hk lz,Lg.nil _,Lg.nil _,Lg.nil _⟩
         ·exact ⟨Lg.keep stays_i hk lp,Lg.keep stays_t hk lw,Lg.nil _,Lg.nil _⟩
       refine share (f:=6) (lf:=#[true,true,true,true,true,true,true,true,true,true,true,true,true,true,true,true,true,false,true,true,true,true,true,false,false,false,false,false]) (fun V ts=>∃ x104 x105 x110 x114 x115 x120 x121,ts=T x104 x105 x110 x114 x115 x120 x121∧Below wq.heap.size wq V∧Zr inE 3 (List.replicate np 0) wq V x104∧x105=.agg #[.int .i64 0,.int .i64 (-1),.int .i64 0,.int .i64 0,.bool false,x104,.slice none 0 0,.slice none 0 0,.slice none 0 0]∧x110=.int .i64 (place tx you)∧x114=.int .i64 (thg t st)∧Zr inE 3 pl wq V x120) ?_ fun key310=>?_
       ·rintro V ts ⟨x104,x105,x110,x114,x115,x120,x121,rfl,hB,hZa,h105,h110,h114,hZp⟩
        rw [hT]
        refine RgD.one (i:=17) (by kernel_rfl) ?_
        subst h110 h114
        obtain ⟨Ap,cp,rfl,hop⟩:=hZp
        obtain ⟨w10,hw⟩ : ∃ W,V.alloc (.cells #[.string (str me),.string (str myself)] 9)=W:=⟨_,rfl⟩
        have hb:=(made hw).2.2
        have ho : Sk.Own svE 1 9 w10 wq.heap.size (.slice (some ⟨V.heap.size,0,none⟩) 2 2) [me,myself]:=by rw [← hw];exact Sk.own_lit (enc:=svE) _ [me,myself] _ (fun _=>rfl) rfl (by unfold maxLen;simp) hB.size 2 rfl
        have hB2:=hB.trans (hb.mono hB.size)
        refine RgD.eff (i:=17) (t:=115) (v:=.slice (some ⟨V.heap.size,0,none⟩) 2 2) (w1:=w10) rfl rfl (by rfl) (by first | (go_simp;done) | (go_simp;with_reducible rfl) | (go_simp;rw [← hw];rfl) | (go_simp;exact ⟨rfl,hw⟩) | (go_simp;exact hw)) hB2 ?_
        simp only [zA,zB,zC]
        refine tK 23 121 (v:=.agg #[.int .i64 (place tx you),.int .i64 (-1),.int .i64 (thg t st),.int .i64 0,.bool false,.slice Ap pl.length cp,.slice (some ⟨V.heap.size,0,none⟩) 2 2,.slice none 0 0,.slice none 0 0]) (h:=?_)
        simp only [zA,zB,zC]
        exact use key311 (by kernel_rfl) ⟨_,_,_,_,_,_,_,by subst hT;rfl,hB2,(hZa.below hb),h105,⟨_,_,rfl,ho⟩,rfl,rfl,⟨_,_,rfl,hop.below hb⟩,rfl⟩
       refine share (f:=6) (lf:=#[true,true,true,true,true,true,false,false,true,true,true,true,true,true,true,true,true,true,true,true,true,true,true,true,false,false,false,false]) (fun V ts=>∃ x104 x105 x110 x114 x115 x120 x121,ts=T x104 x105 x110 x114 x115 x120 x121∧Below wq.heap.size wq V∧Zr svE 9 [me,myself] wq V x115∧x110=.int .i64 (place tx you)∧x114=.int .i64 (thg t st)∧Zr inE 3 pl wq V x120∧x121=.agg #[.int .i64 (place tx you),.int .i64 (-1),.int .i64 (thg t st),.int .i64 0,.bool false,x120,x115,.slice none 0 0,.slice none 0 0]) ?_ fun key301=>?_
       ·rintro V ts ⟨x104,x105,x110,x114,x115,x120,x121,rfl,hB,hZw,h110,h114,hZp,h121⟩
        rw [hT]
        refine RgD.one (i:=6) (by kernel_rfl) ?_
        obtain ⟨w10,hrun,ho,hb⟩:=run_make V wq.heap.size np HNP.out hB.size
        have hB2:=hB.trans (hb.mono hB.size)
        refine RgD.eff (i:=6) (t:=104) (v:=.slice (some ⟨V.heap.size,0,none⟩) np np) (w1:=w10) rfl rfl (by rfl) (by first | (go_simp;done) | (go_simp;rw [hrun];rfl) | (go_simp;rw [hrun];done)) hB2 ?_
        simp only [zA,zB,zC]
        refine tK 7 105 (v:=.agg #[.int .i64 0,.int .i64 (-1),.int .i64 0,.int .i64 0,.bool false,.slice (some ⟨V.heap.size,0,none⟩) np np,.slice none 0 0,.slice none 0 0,.slice none 0 0]) (h:=?_)
        simp only [zA,zB,zC]
        exact use key311 (by kernel_rfl) ⟨_,_,_,_,_,_,_,by subst hT;rfl,hB2,⟨_,_,by rw [List.length_replicate],by rw [List.length_replicate];exact ho⟩,rfl,(hZw.below hb),h110,h114,(hZp.below hb),h121⟩
       refine share (f:=8) (lf:=#[true,true,true,true,true,true,false,false,true,true,true,true,true,true,true,true,true,false,true,true,true,true,true,false,false,false,false,false]) (fun V ts=>∃ x104 x105 x110 x114 x115 x120 x121,ts=T x104 x105 x110 x114 x115 x120 x121∧Below wq.heap.size wq V∧x110=.int .i64 (place tx you)∧x114=.int .i64 (thg t st)∧Zr inE 3 pl wq V x120) ?_ fun key300=>?_
       ·rintro V ts ⟨x104,x105,x110,x114,x115,x120,x121,rfl,hB,h110,h114,hZp⟩
        rw [hT]
        refine RgD.two (i:=6) (j:=17) (by kernel_rfl) ?_ ?_
        ·obtain ⟨w10,hrun,ho,hb⟩:=run_make V wq.heap.size np HNP.out hB.size
         have hB2:=hB.trans (hb.mono hB.size)
         refine RgD.eff (i:=6) (t:=104) (v:=.slice (some ⟨V.heap.size,0,none⟩) np np) (w1:=w10) rfl rfl (by rfl) (by first | (go_simp;done) | (go_simp;rw [hrun];rfl) | (go_simp;rw [hrun];done)) hB2 ?_
         simp only [zA,zB,zC]
         refine tK 7 105 (v:=.agg #[.int .i64 0,.int .i64 (-1),.int .i64 0,.int .i64 0,.bool false,.slice (some ⟨V.heap.size,0,none⟩) np np,.slice none 0 0,.slice none 0 0,.slice none 0 0]) (h:=?_)
         simp only [zA,zB,zC]
         exact use key310 (by kernel_rfl) ⟨_,_,_,_,_,_,_,by subst hT;rfl,hB2,⟨_,_,by rw [List.length_replicate],by rw [List.length_replicate];exact ho⟩,rfl,h110,h114,(hZp.below hb)⟩
        ·subst h110 h114
         obtain ⟨Ap,cp,rfl,hop⟩:=hZp
         obtain ⟨w10,hw⟩ : ∃ W,V.alloc (.cells #[.string (str me),.string (str myself)] 9)=W:=⟨_,rfl⟩
         have hb:=(made hw).2.2
         have ho : Sk.Own svE 1 9 w10 wq.heap.size (.slice (some ⟨V.heap.size,0,none⟩) 2 2) [me,myself]:=by rw [← hw];exact Sk.own_lit (enc:=svE) _ [me,myself] _ (fun _=>rfl) rfl (by unfold maxLen;simp) hB.size 2 rfl
         have hB2:=hB.trans (hb.mono hB.size)
         refine RgD.eff (i:=17) (t:=115) (v:=.slice (some ⟨V.heap.size,0,none⟩) 2 2) (w1:=w10) rfl rfl (by rfl) (by first | (go_simp;done) | (go_simp;with_reducible rfl) | (go_simp;rw [← hw];rfl) | (go_simp;exact ⟨rfl,hw⟩) | (go_simp;exact hw)) hB2 ?_
         simp only [zA,zB,zC]
         refine tK 23 121 (v:=.agg #[.int .i64 (place tx you),.int .i64 (-1),.int .i64 (thg t st),.int .i64 0,.bool false,.slice Ap pl.length cp,.slice (some ⟨V.heap.size,0,none⟩) 2 2,.slice none 0 0,.slice none 0 0]) (h:=?_)
         simp only [zA,zB,zC]
         exact use key301 (by kernel_rfl) ⟨_,_,_,_,_,_,_,by subst hT;rfl,hB2,⟨_,_,rfl,ho⟩,rfl,rfl,⟨_,_,rfl,hop.below hb⟩,rfl⟩
       refine share (f:=6) (lf:=#[true,true,true,true,true,true,true,true,true,true,true,true,true,true,true,true,true,true,true,true,true,true,false,false,false,false,false,false]) (fun V ts=>∃ x104 x105 x110 x114 x115 x120 x121,ts=T x104 x105 x110 x114 x115 x120 x121∧Below wq.heap.size wq V∧Zr inE 3 (List.replicate np 0) wq V x104∧x105=.agg #[.int .i64 0,.int .i64 (-1),.int .i64 0,.int .i64 0,.bool false,x104,.slice none 0 0,.slice none 0 0,.slice none 0 0]∧Zr svE 9 [me,myself] wq V x115∧x110=.int .i64 (place tx you)∧x114=.int .i64 (thg t st)) ?_ fun key211=>?_
       ·rintro V ts ⟨x104,x105,x110,x114,x115,x120,x121,rfl,hB,hZa,h105,hZw,h110,h114⟩
        rw [hT]
        refine RgD.one (i:=22) (by kernel_rfl) ?_
        subst h110 h114
        obtain ⟨Aw,cw,rfl,how⟩:=hZw
        refine RgD.app elI (i:=22) (t:=120) (.const (.slice none 0 0)) (.tmp 119) rfl rfl (by rfl) rfl rfl (Sk.own_nil V V.heap.size) Av6 np c6 pl rfl (HPR.out V hB) (by have:=HNP.out;unfold maxLen;simp;omega) (by have:=HNP.out;simp;omega) (Nat.le_refl _) ?_
        intro v9 w5 ho hb hg hv
        have hB2:=hB.trans (hb.mono hB.size)
        rw [List.nil_append] at ho
        obtain ⟨A9,c9,rfl,_,_⟩:=ho.shape
        refine ⟨hB2,?_⟩
        simp only [zA,zB,zC]
        refine tK 23 121 (v:=.agg #[.int .i64 (place tx you),.int .i64 (-1),.int .i64 (thg t st),.int .i64 0,.bool false,.slice A9 pl.length c9,.slice Aw [me,myself].length cw,.slice none 0 0,.slice none 0 0]) (h:=?_)
        simp only [zA,zB,zC]
        exact use key311 (by kernel_rfl) ⟨_,_,_,_,_,_,_,by subst hT;rfl,hB2,(hZa.below hb),h105,⟨_,_,rfl,how.below hb⟩,rfl,rfl,⟨_,_,rfl,Sk.Own.lower ho hB.size⟩,rfl⟩
       refine share (f:=7) (lf:=#[true,true,true,true,true,true,true,true,true,true,true,true,true,true,true,true,true,false,true,true,true,true,false,false,false,false,false,false]) (fun V ts=>∃ x104 x105 x110 x114 x115 x120 x121,ts=T x104 x105 x110 x114 x115 x120 x121∧Below wq.heap.size wq V∧Zr inE 3 (List.replicate np 0) wq V x104∧x105=.agg #[.int .i64 0,.int .i64 (-1),.int .i64 0,.int .i64 0,.bool false,x104,.slice none 0 0,.slice none 0 0,.slice none 0 0]∧x110=.int .i64 (place tx you)∧x114=.int .i64 (thg t st)) ?_ fun key210=>?_
       ·rintro V ts ⟨x104,x105,x110,x114,x115,x120,x121,rfl,hB,hZa,h105,h110,h114⟩
        rw [hT]
        refine RgD.two (i:=17) (j:=22) (by kernel_rfl) ?_ ?_
        ·obtain ⟨w10,hw⟩ : ∃ W,V.alloc (.cells #[.string (str me),.string (str myself)] 9)=W:=⟨_,rfl⟩
         have hb:=(made hw).2.2
         have ho : Sk.Own svE 1 9 w10 wq.heap.size (.slice (some ⟨V.heap.size,0,none⟩) 2 2) [me,myself]:=by rw [← hw];exact Sk.own_lit (enc:=svE) _ [me,myself] _ (fun _=>rfl) rfl (by unfold maxLen;simp) hB.size 2 rfl
         have hB2:=hB.trans (hb.mono hB.size)
         refine RgD.eff (i:=17) (t:=115) (v:=.slice (some ⟨V.heap.size,0,none⟩) 2 2) (w1:=w10) rfl rfl (by rfl) (by first | (go_simp;done) | (go_simp;with_reducible rfl) | (go_simp;rw [← hw];rfl) | (go_simp;exact ⟨rfl,hw⟩) | (go_simp;exact hw)) hB2 ?_
         simp only [zA,zB,zC]
         exact use key211 (by kernel_rfl) ⟨_,_,_,_,_,_,_,by subst hT;rfl,hB2,(hZa.below hb),h105,⟨_,_,rfl,ho⟩,h110,h114⟩
        ·refine RgD.app elI (i:=22) (t:=120) (.const (.slice none 0 0)) (.tmp 119) rfl rfl (by rfl) rfl rfl (Sk.own_nil V V.heap.size) Av6 np c6 pl rfl (HPR.out V hB) (by have:=HNP.out;unfold maxLen;simp;omega) (by have:=HNP.out;simp;omega) (Nat.le_refl _) ?_
         intro v9 w5 ho hb hg hv
         have hB2:=hB.trans (hb.mono hB.size)
         rw [List.nil_append] at ho
         obtain ⟨A9,c9,rfl,_,_⟩:=ho.shape
         refine ⟨hB2,?_⟩
         simp only [zA,zB,zC]
         exact use key310 (by kernel_rfl) ⟨_,_,_,_,_,_,_,by subst hT;rfl,hB2,(hZa.below hb),h105,h110,h114,⟨_,_,rfl,Sk.Own.lower ho hB.size⟩⟩
       refine share (f:=8) (lf:=#[true,true,true,true,true,true,false,false,true,true,true,true,true,true,true,true,true,true,true,true,true,true,false,false,false,false,false,false]) (fun V ts=>∃ x104 x105 x110 x114 x115 x120 x121,ts=T x104 x105 x110 x114 x115 x120 x121∧Below wq.heap.size wq V∧Zr svE 9 [me,myself] wq V x115∧x110=.int .i64 (place tx you)∧x114=.int .i64 (thg t st)) ?_ fun key201=>?_
       ·rintro V ts ⟨x104,x105,x110,x114,x115,x120,x121,rfl,hB,hZw,h110,h114⟩
        rw [hT]
        refine RgD.two (i:=6) (j:=22) (by kernel_rfl) ?_ ?_
        ·obtain ⟨w10,hrun,ho,hb⟩:=run_make V wq.heap.size np HNP.out hB.size
         have hB2:=hB.trans (hb.mono hB.size)
         refine RgD.eff (i:=6) (t:=104) (v:=.slice (some ⟨V.heap.size,0,none⟩) np np) (w1:=w10) rfl rfl (by rfl) (by first | (go_simp;done) | (go_simp;rw [hrun];rfl) | (go_simp;rw [hrun];done)) hB2 ?_
         simp only [zA,zB,zC]
         refine tK 7 105 (v:=.agg #[.int .i64 0,.int .i64 (-1),.int .i64 0,.int .i64 0,.bool false,.slice (some ⟨V.heap.size,0,none⟩) np np,.slice none 0 0,.slice none 0 0,.slice none 0 0]) (h:=?_)
         simp only [zA,zB,zC]
         exact use key211 (by kernel_rfl) ⟨_,_,_,_,_,_,_,by subst hT;rfl,hB2,⟨_,_,by rw [List.length_replicate],by rw [List.length_replicate];exact ho⟩,rfl,(hZw.below hb),h110,h114⟩
        ·subst h110 h114
         obtain ⟨Aw,cw,rfl,how⟩:=hZw
         refine RgD.app elI (i:=22) (t:=120) (.const (.slice none 0 0)) (.tmp 119) rfl rfl (by rfl) rfl rfl (Sk.own_nil V V.heap.size) Av6 np c6 pl rfl (HPR.out V hB) (by have:=HNP.out;unfold maxLen;simp;omega) (by have:=HNP.out;simp;omega) (Nat.le_refl _) ?_
         intro v9 w5 ho hb hg hv
         have hB2:=hB.trans (hb.mono hB.size)
         rw [List.nil_append] at ho
         obtain ⟨A9,c9,rfl,_,_⟩:=ho.shape
         refine ⟨hB2,?_⟩
         simp only [zA,zB,zC]
         refine tK 23 121 (v:=.agg #[.int .i64 (place tx you),.int .i64 (-1),.int .i64 (thg t st),.int .i64 0,.bool false,.slice A9 pl.length c9,.slice Aw [me,myself].length cw,.slice none 0 0,.slice none 0 0]) (h:=?_)
         simp only [zA,zB,zC]
         exact use key301 (by kernel_rfl) ⟨_,_,_,_,_,_,_,by subst hT;rfl,hB2,⟨_,_,rfl,how.below hb⟩,rfl,rfl,⟨_,_,rfl,Sk.Own.lower ho hB.size⟩,rfl⟩
       refine share (f:=9) (lf:=#[true,true,true,true,true,true,false,false,true,true,true,true,true,true,true,true,true,false,true,true,true,true,false,false,false,false,false,false]) (fun V ts=>∃ x104 x105 x110 x114 x115 x120 x121,ts=T x104 x105 x110 x114 x115 x120 x121∧Below wq.heap.size wq V∧x110=.int .i64 (place tx you)∧x114=.int .i64 (thg t st)) ?_ fun key200=>?_
       ·rintro V ts ⟨x104,x105,x110,x114,x115,x120,x121,rfl,hB,h110,h114⟩
        rw [hT]
        refine three (i:=6) (j:=17) (k:=22) (by kernel_rfl) ?_ ?_ ?_
        ·obtain ⟨w10,hrun,ho,hb⟩:=run_make V wq.heap.size np HNP.out hB.size
         have hB2:=hB.trans (hb.mono hB.size)
         refine RgD.eff (i:=6) (t:=104) (v:=.slice (some ⟨V.heap.size,0,none⟩) np np) (w1:=w10) rfl rfl (by rfl) (by first | (go_simp;done) | (go_simp;rw [hrun];rfl) | (go_simp;rw [hrun];done)) hB2 ?_
         simp only [zA,zB,zC]
         refine tK 7 105 (v:=.agg #[.int .i64 0,.int .i64 (-1),.int .i64 0,.int .i64 0,.bool false,.slice (some ⟨V.heap.size,0,none⟩) np np,.slice none 0 0,.slice none 0 0,.slice none 0 0]) (h:=?_)
         simp only [zA,zB,zC]
         exact use key210 (by kernel_rfl) ⟨_,_,_,_,_,_,_,by subst hT;rfl,hB2,⟨_,_,by rw [List.length_replicate],by rw [List.length_replicate];exact ho⟩,rfl,h110,h114⟩
        ·obtain ⟨w10,hw⟩ : ∃ W,V.alloc (.cells #[.string (str me),.string (str myself)] 9)=W:=⟨_,rfl⟩
         have hb:=(made hw).2.2
         have ho : Sk.Own svE 1 9 w10 wq.heap.size (.slice (some ⟨V.heap.size,0,none⟩) 2 2) [me,myself]:=by rw [← hw];exact Sk.own_lit (enc:=svE) _ [me,myself] _ (fun _=>rfl) rfl (by unfold maxLen;simp) hB.size 2 rfl
         have hB2:=hB.trans (hb.mono hB.size)
         refine RgD.eff (i:=17) (t:=115) (v:=.slice (some ⟨V.heap.size,0,none⟩) 2 2) (w1:=w10) rfl rfl (by rfl) (by first | (go_simp;done) | (go_simp;with_reducible rfl) | (go_simp;rw [← hw];rfl) | (go_simp;exact ⟨rfl,hw⟩) | (go_simp;exact hw)) hB2 ?_
         simp only [zA,zB,zC]
         exact use key201 (by kernel_rfl) ⟨_,_,_,_,_,_,_,by subst hT;rfl,hB2,⟨_,_,rfl,ho⟩,h110,h114⟩
        ·refine RgD.app elI (i:=22) (t:=120) (.const (.slice none 0 0)) (.tmp 119) rfl rfl (by rfl) rfl rfl (Sk.own_nil V V.heap.size) Av6 np c6 pl rfl (HPR.out V hB) (by have:=HNP.out;unfold maxLen;simp;omega) (by have:=HNP.out;simp;omega) (Nat.le_refl _) ?_
         intro v9 w5 ho hb hg hv
         have hB2:=hB.trans (hb.mono hB.size)
         rw [List.nil_append] at ho
         obtain ⟨A9,c9,rfl,_,_⟩:=ho.shape
         refine ⟨hB2,?_⟩
         simp only [zA,zB,zC]
         exact use key300 (by kernel_rfl) ⟨_,_,_,_,_,_,_,by subst hT;rfl,hB2,h110,h114,⟨_,_,rfl,Sk.Own.lower ho hB.size⟩⟩
       refine share (f:=7) (lf:=#[true,true,true,true,true,true,true,true,true,true,true,true,true,true,true,true,false,true,true,true,true,true,false,false,false,false,false,false]) (fun V ts=>∃ x104 x105 x110 x114 x115 x120 x121,ts=T x104 x105 x110 x114 x115 x120 x121∧Below wq.heap.size wq V∧Zr inE 3 (List.replicate np 0) wq V x104∧x105=.agg #[.int .i64 0,.int .i64 (-1),.int .i64 0,.int .i64 0,.bool false,x104,.slice none 0 0,.slice none 0 0,.slice none 0 0]∧Zr svE 9 [me,myself] wq V x115∧x110=.int .i64 (place tx you)) ?_ fun key111=>?_
       ·rintro V ts ⟨x104,x105,x110,x114,x115,x120,x121,rfl,hB,hZa,h105,hZw,h110⟩
        rw [hT]
        refine RgD.one (i:=16) (by kernel_rfl) ?_
        refine RgD.call (i:=16) (t:=114) rfl rfl (by rfl) (by go_simp;exact ⟨rfl,rfl⟩) ?_
        refine (thing_w _ w0 A1 A2 n1 c1 n2 c2 t tx HBS.out _ V vn vn vn ⟨[],[],[]⟩ (HKQ.out.mb.below hB) st).mono ?_
        rintro r w5 ⟨rfl,hb⟩
        have hB2:=hB.trans (hb.mono hB.size)
        refine ⟨_,rfl,hB2,?_⟩
        simp only [zA,zB,zC]
        exact use key211 (by kernel_rfl) ⟨_,_,_,_,_,_,_,by subst hT;rfl,hB2,(hZa.below hb),h105,(hZw.below hb),h110,rfl⟩
       refine share (f:=8) (lf:=#[true,true,true,true,true,true,true,true,true,true,true,true,true,true,true,true,false,false,true,true,true,true,false,false,false,false,false,false]) (fun V ts=>∃ x104 x105 x110 x114 x115 x120 x121,ts=T x104 x105 x110 x114 x115 x120 x121∧Below wq.heap.size wq V∧Zr inE 3 (List.replicate np 0) wq V x104∧x105=.agg #[.int .i64 0,.int .i64 (-1),.int .i64 0,.int .i64 0,.bool false,x104,.slice none 0 0,.slice none 0 0,.slice none 0 0]∧x110=.int .i64 (place tx you)) ?_ fun key110=>?_
       ·rintro V ts ⟨x104,x105,x110,x114,x115,x120,x121,rfl,hB,hZa,h105,h110⟩
        rw [hT]
        refine RgD.two (i:=16) (j:=17) (by kernel_rfl) ?_ ?_
        ·refine RgD.call (i:=16) (t:=114) rfl rfl (by rfl) (by go_simp;exact ⟨rfl,rfl⟩) ?_
         refine (thing_w _ w0 A1 A2 n1 c1 n2 c2 t tx HBS.out _ V vn vn vn ⟨[],[],[]⟩ (HKQ.out.mb.below hB) st).mono ?_
         rintro r w5 ⟨rfl,hb⟩
         have hB2:=hB.trans (hb.mono hB.size)
         refine ⟨_,rfl,hB2,?_⟩
         simp only [zA,zB,zC]
         exact use key210 (by kernel_rfl) ⟨_,_,_,_,_,_,_,by subst hT;rfl,hB2,(hZa.below hb),h105,h110,rfl⟩
        ·obtain ⟨w10,hw⟩ : ∃ W,V.alloc (.cells #[.string (str me),.string (str myself)] 9)=W:=⟨_,rfl⟩
         have hb:=(made hw).2.2
         have ho : Sk.Own svE 1 9 w10 wq.heap.size (.slice (some ⟨V.heap.size,0,none⟩) 2 2) [me,myself]:=by rw [← hw];exact Sk.own_lit (enc:=svE) _ [me,myself] _ (fun _=>rfl) rfl (by unfold maxLen;simp) hB.size 2 rfl
         have hB2:=hB.trans (hb.mono hB.size)
         refine RgD.eff (i:=17) (t:=115) (v:=.slice (some ⟨V.heap.size,0,none⟩) 2 2) (w1:=w10) rfl rfl (by rfl) (by first | (go_simp;done) | (go_simp;with_reducible rfl) | (go_simp;rw [← hw];rfl) | (go_simp;exact ⟨rfl,hw⟩) | (go_simp;exact hw)) hB2 ?_
         simp only [zA,zB,zC]
         exact use key111 (by kernel_rfl) ⟨_,_,_,_,_,_,_,by subst hT;rfl,hB2,(hZa.below hb),h105,⟨_,_,rfl,ho⟩,h110⟩
       refine share (f:=9) (lf:=#[true,true,true,true,true,true,false,false,true,true,true,true,true,true,true,true,false,true,true,true,true,true,false,false,false,false,false,false]) (fun V ts=>∃ x104 x105 x110 x114 x115 x120 x121,ts=T x104 x105 x110 x114 x115 x120 x121∧Below wq.heap.size wq V∧Zr svE 9 [me,myself] wq V x115∧x110=.int .i64 (place tx you)) ?_ fun key101=>?_
       ·rintro V ts ⟨x104,x105,x110,x114,x115,x120,x121,rfl,hB,hZw,h110⟩
        rw [hT]
        refine RgD.two (i:=6) (j:=16) (by kernel_rfl) ?_ ?_
        ·obtain ⟨w10,hrun,ho,hb⟩:=run_make V wq.heap.size np HNP.out hB.size
         have hB2:=hB.trans (hb.mono hB.size)
         refine RgD.eff (i:=6) (t:=104) (v:=.slice (some ⟨V.heap.size,0,none⟩) np np) (w1:=w10) rfl rfl (by rfl) (by first | (go_simp;done) | (go_simp;rw [hrun];rfl) | (go_simp;rw [hrun];done)) hB2 ?_
         simp only [zA,zB,zC]
         refine tK 7 105 (v:=.agg #[.int .i64 0,.int .i64 (-1),.int .i64 0,.int .i64 0,.bool false,.slice (some ⟨V.heap.size,0,none⟩) np np,.slice none 0 0,.slice none 0 0,.slice none 0 0]) (h:=?_)
         simp only [zA,zB,zC]
         exact use key111 (by kernel_rfl) ⟨_,_,_,_,_,_,_,by subst hT;rfl,hB2,⟨_,_,by rw [List.length_replicate],by rw [List.length_replicate];exact ho⟩,rfl,(hZw.below hb),h110⟩
        ·refine RgD.call (i:=16) (t:=114) rfl rfl (by rfl) (by go_simp;exact ⟨rfl,rfl⟩) ?_
         refine (thing_w _ w0 A1 A2 n1 c1 n2 c2 t tx HBS.out _ V vn vn vn ⟨[],[],[]⟩ (HKQ.out.mb.below hB) st).mono ?_
         rintro r w5 ⟨rfl,hb⟩
         have hB2:=hB.trans (hb.mono hB.size)
         refine ⟨_,rfl,hB2,?_⟩
         simp only [zA,zB,zC]
         exact use key201 (by kernel_rfl) ⟨_,_,_,_,_,_,_,by subst hT;rfl,hB2,(hZw.below hb),h110,rfl⟩
       refine share (f:=10) (lf:=#[true,true,true,true,true,true,false,false,true,true,true,true,true,true,true,true,false,false,true,true,true,true,false,false,false,false,false,false]) (fun V ts=>∃ x104 x105 x110 x114 x115 x120 x121,ts=T x104 x105 x110 x114 x115 x120 x121∧Below wq.heap.size wq V∧x110=.int .i64 (place tx you)) ?_ fun key100=>?_
       ·rintro V ts ⟨x104,x105,x110,x114,x115,x120,x121,rfl,hB,h110⟩
        rw [hT]
        refine three (i:=6) (j:=16) (k:=17) (by kernel_rfl) ?_ ?_ ?_
        ·obtain ⟨w10,hrun,ho,hb⟩:=run_make V wq.heap.size np HNP.out hB.size
         have hB2:=hB.trans (hb.mono hB.size)
         refine RgD.eff (i:=6) (t:=104) (v:=.slice (some ⟨V.heap.size,0,none⟩) np np) (w1:=w10) rfl rfl (by rfl) (by first | (go_simp;done) | (go_simp;rw [hrun];rfl) | (go_simp;rw [hrun];done)) hB2 ?_
         simp only [zA,zB,zC]
         refine tK 7 105 (v:=.agg #[.int .i64 0,.int .i64 (-1),.int .i64 0,.int .i64 0,.bool false,.slice (some ⟨V.heap.size,0,none⟩) np np,.slice none 0 0,.slice none 0 0,.slice none 0 0]) (h:=?_)
         simp only [zA,zB,zC]
         exact use key110 (by kernel_rfl) ⟨_,_,_,_,_,_,_,by subst hT;rfl,hB2,⟨_,_,by rw [List.length_replicate],by rw [List.length_replicate];exact ho⟩,rfl,h110⟩
        ·refine RgD.call (i:=16) (t:=114) rfl rfl (by rfl) (by go_simp;exact ⟨rfl,rfl⟩) ?_
         refine (thing_w _ w0 A1 A2 n1 c1 n2 c2 t tx HBS.out _ V vn vn vn ⟨[],[],[]⟩ (HKQ.out.mb.below hB) st).mono ?_
         rintro r w5 ⟨rfl,hb⟩
         have hB2:=hB.trans (hb.mono hB.size)
         refine ⟨_,rfl,hB2,?_⟩
         simp only [zA,zB,zC]
         exact use key200 (by kernel_rfl) ⟨_,_,_,_,_,_,_,by subst hT;rfl,hB2,h110,rfl⟩
        ·obtain ⟨w10,hw⟩ : ∃ W,V.alloc (.cells #[.string (str me),.string (str myself)] 9)=W:=⟨_,rfl⟩
         have hb:=(made hw).2.2
         have ho : Sk.Own svE 1 9 w10 wq.heap.size (.slice (some ⟨V.heap.size,0,none⟩) 2 2) [me,myself]:=by rw [← hw];exact Sk.own_lit (enc:=svE) _ [me,myself] _ (fun _=>rfl) rfl (by unfold maxLen;simp) hB.size 2 rfl
         have hB2:=hB.trans (hb.mono hB.size)
         refine RgD.eff (i:=17) (t:=115) (v:=.slice (some ⟨V.heap.size,0,none⟩) 2 2) (w1:=w10) rfl rfl (by rfl) (by first | (go_simp;done) | (go_simp;with_reducible rfl) | (go_simp;rw [← hw];rfl) | (go_simp;exact ⟨rfl,hw⟩) | (go_simp;exact hw)) hB2 ?_
         simp only [zA,zB,zC]
         exact use key101 (by kernel_rfl) ⟨_,_,_,_,_,_,_,by subst hT;rfl,hB2,⟨_,_,rfl,ho⟩,h110⟩
       refine share (f:=8) (lf:=#[true,true,true,true,true,true,true,true,true,true,true,true,false,true,true,true,false,true,true,true,true,true,false,false,false,false,false,false]) (fun V ts=>∃ x104 x105 x110 x114 x115 x120 x121,ts=T x104 x105 x110 x114 x115 x120 x121∧Below wq.heap.size wq V∧Zr inE 3 (List.replicate np 0) wq V x104∧x105=.agg #[.int .i64 0,.int .i64 (-1),.int .i64 0,.int .i64 0,.bool false,x104,.slice none 0 0,.slice none 0 0,.slice none 0 0]∧Zr svE 9 [me,myself] wq V x115) ?_ fun key011=>?_
       ·rintro V ts ⟨x104,x105,x110,x114,x115,x120,x121,rfl,hB,hZa,h105,hZw⟩
        rw [hT]
        refine RgD.one (i:=12) (by kernel_rfl) ?_
        refine RgD.call (i:=12) (t:=110) rfl rfl (by rfl) (by go_simp;exact ⟨rfl,rfl⟩) ?_
        refine (place_i tx you V (HBS.out.x.below (HLW.out V hB)) HBS.out.n2).mono ?_
        rintro r w5 ⟨rfl,hw5⟩
        obtain rfl : V=w5:=hw5.symm
        have hB2:=hB
        refine ⟨_,rfl,hB2,?_⟩
        simp only [zA,zB,zC]
        exact use key111 (by kernel_rfl) ⟨_,_,_,_,_,_,_,by subst hT;rfl,hB2,hZa,h105,hZw,rfl⟩
       refine share (f:=9) (lf:=#[true,true,true,true,true,true,true,true,true,true,true,true,false,true,true,true,false,false,true,true,true,true,false,false,false,false,false,false]) (fun V ts=>∃ x104 x105 x110 x114 x115 x120 x121,ts=T x104 x105 x110 x114 x115 x120 x121∧Below wq.heap.size wq V∧Zr inE 3 (List.replicate np 0) wq V x104∧x105=.agg #[.int .i64 0,.int .i64 (-1),.int .i64 0,.int .i64 0,.bool false,x104,.slice none 0 0,.slice none 0 0,.slice none 0 0]) ?_ fun key010=>?_
       ·rintro V ts ⟨x104,x105,x110,x114,x115,x120,x121,rfl,hB,hZa,h105⟩
        rw [hT]
        refine RgD.two (i:=12) (j:=17) (by kernel_rfl) ?_ ?_
        ·refine RgD.call (i:=12) (t:=110) rfl rfl (by rfl) (by go_simp;exact ⟨rfl,rfl⟩) ?_
         refine (place_i tx you V (HBS.out.x.below (HLW.out V hB)) HBS.out.n2).mono ?_
         rintro r w5 ⟨rfl,hw5⟩
         obtain rfl : V=w5:=hw5.symm
         have hB2:=hB
         refine ⟨_,rfl,hB2,?_⟩
         simp only [zA,zB,zC]
         exact use key110 (by kernel_rfl) ⟨_,_,_,_,_,_,_,by subst hT;rfl,hB2,hZa,h105,rfl⟩
        ·obtain ⟨w10,hw⟩ : ∃ W,V.alloc (.cells #[.string (str me),.string (str myself)] 9)=W:=⟨_,rfl⟩
         have hb:=(made hw).2.2
         have ho : Sk.Own svE 1 9 w10 wq.heap.size (.slice (some ⟨V.heap.size,0,none⟩) 2 2) [me,myself]:=by rw [← hw];exact Sk.own_lit (enc:=svE) _ [me,myself] _ (fun _=>rfl) rfl (by unfold maxLen;simp) hB.size 2 rfl
         have hB2:=hB.trans (hb.mono hB.size)
         refine RgD.eff (i:=17) (t:=115) (v:=.slice (some ⟨V.heap.size,0,none⟩) 2 2) (w1:=w10) rfl rfl (by rfl) (by first | (go_simp;done) | (go_simp;with_reducible rfl) | (go_simp;rw [← hw];rfl) | (go_simp;exact ⟨rfl,hw⟩) | (go_simp;exact hw)) hB2 ?_
         simp only [zA,zB,zC]
         exact use key011 (by kernel_rfl) ⟨_,_,_,_,_,_,_,by subst hT;rfl,hB2,(hZa.below hb),h105,⟨_,_,rfl,ho⟩⟩
       refine share (f:=10) (lf:=#[true,true,true,true,true,true,false,false,true,true,true,true,false,true,true,true,false,true,true,true,true,true,false,false,false,false,false,false]) (fun V ts=>∃ x104 x105 x110 x114 x115 x120 x121,ts=T x104 x105 x110 x114 x115 x120 x121∧Below wq.heap.size wq V∧Zr svE 9 [me,myself] wq V x115) ?_ fun key001=>?_
       ·rintro V ts ⟨x104,x105,x110,x114,x115,x120,x121,rfl,hB,hZw⟩
        rw [hT]
        refine RgD.two (i:=6) (j:=12) (by kernel_rfl) ?_ ?_
        ·obtain ⟨w10,hrun,ho,hb⟩:=run_make V wq.heap.size np HNP.out hB.size
         have hB2:=hB.trans (hb.mono hB.size)
         refine RgD.eff (i:=6) (t:=104) (v:=.slice (some ⟨V.heap.size,0,none⟩) np np) (w1:=w10) rfl rfl (by rfl) (by first | (go_simp;done) | (go_simp;rw [hrun];rfl) | (go_simp;rw [hrun];done)) hB2 ?_
         simp only [zA,zB,zC]
         refine tK 7 105 (v:=.agg #[.int .i64 0,.int .i64 (-1),.int .i64 0,.int .i64 0,.bool false,.slice (some ⟨V.heap.size,0,none⟩) np np,.slice none 0 0,.slice none 0 0,.slice none 0 0]) (h:=?_)
         simp only [zA,zB,zC]
         exact use key011 (by kernel_rfl) ⟨_,_,_,_,_,_,_,by subst hT;rfl,hB2,⟨_,_,by rw [List.length_replicate],by rw [List.length_replicate];exact ho⟩,rfl,(hZw.below hb)⟩
        ·refine RgD.call (i:=12) (t:=110) rfl rfl (by rfl) (by go_simp;exact ⟨rfl,rfl⟩) ?_
         refine (place_i tx you V (HBS.out.x.below (HLW.out V hB)) HBS.out.n2).mono ?_
         rintro r w5 ⟨rfl,hw5⟩
         obtain rfl : V=w5:=hw5.symm
         have hB2:=hB
         refine ⟨_,rfl,hB2,?_⟩
         simp only [zA,zB,zC]
         exact use key101 (by kernel_rfl) ⟨_,_,_,_,_,_,_,by subst hT;rfl,hB2,hZw,rfl⟩
       refine share (f:=11) (lf:=#[true,true,true,true,true,true,false,false,true,true,true,true,false,true,true,true,false,false,true,true,true,true,false,false,false,false,false,false]) (fun V ts=>∃ x104 x105 x110 x114 x115 x120 x121,ts=T x104 x105 x110 x114 x115 x120 x121∧Below wq.heap.size wq V) ?_ fun key000=>?_
       ·rintro V ts ⟨x104,x105,x110,x114,x115,x120,x121,rfl,hB⟩
        rw [hT]
        refine three (i:=6) (j:=12) (k:=17) (by kernel_rfl) ?_ ?_ ?_
        ·obtain ⟨w10,hrun,ho,hb⟩:=run_make V wq.heap.size np HNP.out hB.size
         have hB2:=hB.trans (hb.mono hB.size)
         refine RgD.eff (i:=6) (t:=104) (v:=.slice (some ⟨V.heap.size,0,none⟩) np np) (w1:=w10) rfl rfl (by rfl) (by first | (go_simp;done) | (go_simp;rw [hrun];rfl) | (go_simp;rw [hrun];done)) hB2 ?_
         simp only [zA,zB,zC]
         refine tK 7 105 (v:=.agg #[.int .i64 0,.int .i64 (-1),.int .i64 0,.int .i64 0,.bool false,.slice (some ⟨V.heap.size,0,none⟩) np np,.slice none 0 0,.slice none 0 0,.slice none 0 0]) (h:=?_)
         simp only [zA,zB,zC]
         exact use key010 (by kernel_rfl) ⟨_,_,_,_,_,_,_,by subst hT;rfl,hB2,⟨_,_,by rw [List.length_replicate],by rw [List.length_replicate];exact ho⟩,rfl⟩
        ·refine RgD.call (i:=12) (t:=110) rfl rfl (by rfl) (by go_simp;exact ⟨rfl,rfl⟩) ?_
         refine (place_i tx you V (HBS.out.x.below (HLW.out V hB)) HBS.out.n2).mono ?_
         rintro r w5 ⟨rfl,hw5⟩
         obtain rfl : V=w5:=hw5.symm
         have hB2:=hB
         refine ⟨_,rfl,hB2,?_⟩
         simp only [zA,zB,zC]
         exact use key100 (by kernel_rfl) ⟨_,_,_,_,_,_,_,by subst hT;rfl,hB2,rfl⟩
        ·obtain ⟨w10,hw⟩ : ∃ W,V.alloc (.cells #[.string (str me),.string (str myself)] 9)=W:=⟨_,rfl⟩
         have hb:=(made hw).2.2
         have ho : Sk.Own svE 1 9 w10 wq.heap.size (.slice (some ⟨V.heap.size,0,none⟩) 2 2) [me,myself]:=by rw [← hw];exact Sk.own_lit (enc:=svE) _ [me,myself] _ (fun _=>rfl) rfl (by unfold maxLen;simp) hB.size 2 rfl
         have hB2:=hB.trans (hb.mono hB.size)
         refine RgD.eff (i:=17) (t:=115) (v:=.slice (some ⟨V.heap.size,0,none⟩) 2 2) (w1:=w10) rfl rfl (by rfl) (by first | (go_simp;done) | (go_simp;with_reducible rfl) | (go_simp;rw [← hw];rfl) | (go_simp;exact ⟨rfl,hw⟩) | (go_simp;exact hw)) hB2 ?_
         simp only [zA,zB,zC]
         exact use key001 (by kernel_rfl) ⟨_,_,_,_,_,_,_,by subst hT;rfl,hB2,⟨_,_,rfl,ho⟩⟩
       exact use key000 (by kernel_rfl) ⟨_,_,_,_,_,_,_,by subst hT;rfl,hS0⟩
      case rest=>
       obtain ⟨rfl,Ao,co,X0,hk,HX0⟩:=hcut
       rename_i KK HKK
       refine HKK _ _ ?_
       have hcx : Cx w w0 ⟨ti,by_,st,re,mx,⟨fA,fc,fl⟩,⟨pA,pc,pr⟩,⟨gA,gc,gl⟩,⟨oA,oc,ob⟩,⟨vA,vc,vb⟩,⟨rA,rc,ru⟩,⟨nA,nc,fn⟩,⟨dA,dc,dm⟩⟩ t tx A1 n1 A2 n2 sb rb:=⟨HBS.out,fun U h=>HSRC.out U h,fun U h=>HRES.out U h,fun U h=>HRW.out U h,HSM.out,⟨by have:=HRB.out;omega,HRB0.out⟩,fun b o e hn c=>HTXB.out b o e hn c,HN2.out.1⟩
       have hpl : pl.length≤1048576:=by rw [HPL.out];exact HNP.out
       have hk2:=hk
       rw [← HPL.out] at hk2
       exact tail7 w w0 ⟨ti,by_,st,re,mx,⟨fA,fc,fl⟩,⟨pA,pc,pr⟩,⟨gA,gc,gl⟩,⟨oA,oc,ob⟩,⟨vA,vc,vb⟩,⟨rA,rc,ru⟩,⟨nA,nc,fn⟩,⟨dA,dc,dm⟩⟩ t tx A1 n1 c1 A2 n2 c2 sb rb (hI hcx) F3 HF3 (place tx ti) (place tx by_) re mx (4 + (fl.length : Int)) ⟨Av6,c6,pl⟩ ⟨Av7,c7,gl.map Pr.num⟩ (hI fun K U h=>⟨(HG2.out K U (HG3.out K U h).1).2,(HG3.out K U h).2⟩) (hI ⟨fun o ho p hp=>by have h:=HPF.out.1 o ho p hp;rw [← HPE.out,List.length_map];exact h,HPF.out.2,hpl⟩) wc Ao co X0 HX0 (hI hk2) BP HBP (hI ⟨HPE.out.symm,rfl⟩) (hI ⟨rfl,rfl,rfl,rfl,rfl⟩) _ _ _ _ _ _ _ _ _ _ _ _ _ _ _ _ _ _ _ _ _ _ _ _ _ _ _ _ _ _ _ _ _ _ _ _ _ _ _ _ _ _ _ _ _ _ _ _ _ _ _ _ _ _ _ _ _ _ _ _ _ _ _ _ _ _ _ _ _ _ _ _ _ _ _ _ _ _ _ _ _ _ _ _ _ _ _ _ _ _ _ _ _ _ _ _ _ _ _ _ _ _ _ _ _ _ _ _ _ _ _ _ _ _ _ _ _ _ _ _ _ _ _ _ _ _ _ _ _ _ _ _ _ _ _ _ _ _ _ _ _ _ _ _ _ _ _ _ _ _ _ _ _ _ _ _ _ _ _ _ _ _ _ _ _ _ _ _ _ _ _ _ _ _ _ _ _ _ _ _ _ _ _ _ _ _ _ _ _ _ _ _ _ _ _ _ _ _ _ _ _ _ _ _ _ _ _ _ _ _ _ _ _ _ _ _ _ _ _ _ _ _ _ _ _ _ _ _ _ _ _ _ _ _ _ _ _ _ _ _ _ _ _ _ _ _ _ _ _ _ _ _
end Go.Proofs.YteibcfpepdbflaaGreat.BkJ
