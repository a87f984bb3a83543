/- For every source without a fault, the thing of each object has its title, kind and parent, and each func and daemon has its routine with the right number of params. Condition: the argument is of bulk at most 1048576. -/
import Derived.Test.YteibcfpepdbflaaLawS
namespace Go.Proofs.Yteibcfpepdbflaa.bindNumbers
open Go Go.RowKit Go.ChangeShapes Go.WideShapes Go.ChangeAt BindP BindD BindO BindW BindN BindG BindX BindB BindT BindU BkB BkD BkE BkG BkI BkK BkJ RtX RtF TxA TxL LawS MkP MkA MkC CkP CkA CkE CkM CkN BnP BnQ BnR BnS BnT
open Byt (str)
set_option maxRecDepth 100000 in
set_option maxHeartbeats 64000000 in
theorem walk (so : So) (w : World) (hr : So.R top w so) (hz : So.m so≤1048576) : Calls Try.prog 5 #[.agg (So.e so).toArray] w fun e w'=>e=.returned (.bool true)∧Below w.heap.size w w':=by
 have HFI:=Lib.hid (fun u (hu : Below w.heap.size w u)=>fine_c so u (So.stays _ _ _ _ _ (Keep.below hu) hr) hz)
 have HBK:=Lib.hid (fun u (hu : Below w.heap.size w u) (T : List Nm) (A : Option Addr) (n c : Nat) (ht : Sk.Rd nmE u A n T) (hn : n≤17592186043904) (hm : Mk (ens so) T) (hc : SoC T so)=>book_w so u (So.stays _ _ _ _ _ (Keep.below hu) hr) hz A n c T hm.up ht hn (props_in hm hc) (fun _ _ f _=>(mk_nb hm hz 1 f).1))
 have HEL:=Lib.hid (ens_len so hz)
 have HSO:=Lib.hid (show ∀ (T : List Nm) (b : Bo),Mk (ens so) T→SoC T so→Bo.p b=bookI T ((adds so).foldl wth []) so→(b.th.l.length=so.ob.l.length + 2∧b.fu.l.length=so.fn.l.length∧b.da.l.length=so.dm.l.length) ∧
   (∀ j (hj : j < so.ob.l.length),(ofN T 4 so.ob.l[j].nm=(j : Int) + 2∧errN T 4 so.ob.l[j].nm=0)∧(so.ob.l[j].inn ≠ []→errN T 4 so.ob.l[j].inn=0)∧∃ (x : Th) (i : Nat),b.th.l[j + 2]?=some x∧x.ti=(i : Int)∧b.tx.l[i]?=some so.ob.l[j].ti∧x.ro=so.ob.l[j].room∧x.pa=(if so.ob.l[j].inn=[] then 0 else ofN T 4 so.ob.l[j].inn)∧x.wy.l.length=so.ob.l[j].xt.l.length) ∧
   (∀ j (hj : j < so.fn.l.length),(ofN T 6 so.fn.l[j].nm=(j : Int) + 0∧errN T 6 so.fn.l[j].nm=0)∧∃ k : Nat,b.fu.l[j]?=some (k : Int)∧b.pa.l[k]?=some (so.fn.l[j].ps.l.length : Int)) from
  fun T b hm hc hb=>⟨book_lens hb,fun j hj=>⟨ob_of hm hj,in_ok hc (List.getElem_mem hj),book_ob hb rfl hj⟩,fun j hj=>⟨fn_of hm hj,book_fn hb hj⟩⟩)
 obtain ⟨TX,hTX⟩ : ∃ L,(adds so).foldl wth []=L:=⟨_,rfl⟩
 rw [hTX] at HBK HSO
 obtain ⟨FV,hFV⟩ : ∃ p,p=FineV so:=⟨_,rfl⟩
 have HFV:=Lib.hid (show ∀ u e w',FV u e w'→∃ (A : Option Addr) (T : List Nm) (c : Nat) (b : Bool),e=.returned (.tuple #[.slice A T.length c,.bool b])∧(b=true→Sk.Rd nmE w' A T.length T∧T.length≤1048580∧Mk (ens so) T∧SoC T so)∧Below u.heap.size u w' from fun u e w' h=>by
  rw [hFV] at h
  obtain ⟨A,T,c,b,h1,h2,h3⟩:=h
  exact ⟨A,T,c,b,h1,fun hb=>⟨(h2 hb).2.1,by have:=(h2 hb).2.2.1.len;have:=HEL.out;omega,(h2 hb).2.2.1,(h2 hb).2.2.2.2⟩,h3⟩)
 have HFI:=Lib.hid (fun u (hu : Below w.heap.size w u)=>(show Calls _ _ _ _ (FV u) by rw [hFV];exact HFI.out u hu))
 have HZ:=Lib.hid (show (so.ob.l.map Ob.m).sum≤1048576∧(so.fn.l.map BindO.Fn.m).sum≤1048576∧(so.dm.l.map BindO.Fn.m).sum≤1048576 by unfold So.m at hz;omega)
 obtain ⟨ti,by_,st,re,mx,⟨fA,fc,fl⟩,⟨pA,pc,pr⟩,⟨gA,gc,gl⟩,⟨oA,oc,ob⟩,⟨vA,vc,vb⟩,⟨rA,rc,ru⟩,⟨nA,nc,fn⟩,⟨dA,dc,dm⟩⟩:=so
 have zO : ob.length≤1048576:=Nat.le_trans (sum_len (m:=Ob.m) (fun _=>by unfold Ob.m;omega) ob) HZ.out.1
 have zN : fn.length≤1048576:=Nat.le_trans (sum_len (m:=BindO.Fn.m) (fun _=>by unfold BindO.Fn.m;omega) fn) HZ.out.2.1
 have zD : dm.length≤1048576:=Nat.le_trans (sum_len (m:=BindO.Fn.m) (fun _=>by unfold BindO.Fn.m;omega) dm) HZ.out.2.2
 have HR:=Lib.hid (show Lg Ob.e Ob.R top w oA oc ob∧Lg BindO.Fn.e BindO.Fn.R top w nA nc fn from ⟨hr.2.2.2.1,hr.2.2.2.2.2.2.1⟩)
 clear hr hz hFV hTX HEL
 show Calls Try.prog 5 #[.agg #[.string (str ti),.string (str by_),.string (str st),.int .i64 re,.int .i64 mx,.slice fA fl.length fc,.slice pA pr.length pc,.slice gA gl.length gc,.slice oA ob.length oc,.slice vA vb.length vc,.slice rA ru.length rc,.slice nA fn.length nc,.slice dA dm.length dc]] w _
 obtain ⟨V,hV⟩ : ∃ W,w.alloc (.cells #[.string (str ti),.string (str by_),.string (str st),.int .i64 re,.int .i64 mx,.slice fA fl.length fc,.slice pA pr.length pc,.slice gA gl.length gc,.slice oA ob.length oc,.slice vA vb.length vc,.slice rA ru.length rc,.slice nA fn.length nc,.slice dA dm.length dc] 29)=W:=⟨_,rfl⟩
 obtain ⟨m1,s1,b1⟩:=made hV
 have HO0:=Lib.hid (show ∀ U,Below V.heap.size V U→U.heap[w.heap.size]?=some (.cells #[.string (str ti),.string (str by_),.string (str st),.int .i64 re,.int .i64 mx,.slice fA fl.length fc,.slice pA pr.length pc,.slice gA gl.length gc,.slice oA ob.length oc,.slice vA vb.length vc,.slice rA ru.length rc,.slice nA fn.length nc,.slice dA dm.length dc] 29 (0,0)) from fun U h=>(h.block _ (Array.getElem?_eq_some_iff.1 m1).1).trans m1)
 have HBV:=Lib.hid b1
 have HBT:=Lib.hid (show ∀ U,Below V.heap.size V U→Below w.heap.size w U from fun U h=>HBV.out.trans (h.mono HBV.out.size))
 obtain ⟨p0,hp0⟩ : ∃ p,w.heap.size=p:=⟨_,rfl⟩
 rw [hp0] at HO0
 clear m1 s1 b1
 obtain ⟨x0,x1,x2,x3,x4,x5,x6,x7,x8,x9,x10,x11,x12,xf⟩:=cellz13 (HO0.out V (Below.refl _ _))
 go_enter Try.func5,Try.ntmps5
 go_wp2_with fail
 clear hV hp0
 refine (HFI.out V HBV.out).mono ?_
 rintro e w2 hfv
 obtain ⟨A1,T,c1,b2,rfl,hp,hb⟩:=HFV.out _ _ _ hfv
 have HP:=Lib.hid hp
 have HB2:=Lib.hid hb
 obtain ⟨n1,hn1⟩ : ∃ n,T.length=n:=⟨_,rfl⟩
 rw [hn1] at HP ⊢
 have HAW:=Lib.hid (show ∀ u,Below V.heap.size V u→Calls Try.prog 7 #[] u fun e w'=>e=.returned (.bool true)∧Below w.heap.size w w' from fun u hu=>(awake_i u).mono (by rintro e w' ⟨rfl,hb⟩;exact ⟨rfl,HBT.out _ (hu.trans (hb.mono hu.size))⟩))
 clear hfv hp hb x0 x1 x2 x3 x4 x5 x6 x7 x8 x9 x10 x11 x12 xf
 obtain ⟨x0,x1,x2,x3,x4,x5,x6,x7,x8,x9,x10,x11,x12,xf⟩:=cellz13 (HO0.out w2 HB2.out)
 cases b2 with
 | false=>
  go_wp2_with fail
  refine (HAW.out w2 HB2.out).mono ?_
  rintro e w3 ⟨rfl,hb⟩
  have HBE:=Lib.hid hb
  clear hb
  go_wp2_with fail
  go_ret
  exact ⟨rfl,HBE.out⟩
 | true=>
  have HPP:=Lib.hid (HP.out (by trivial))
  go_wp2_with fail
  refine (HBK.out w2 (HBT.out _ HB2.out) T A1 n1 c1 HPP.out.1 (by have:=HPP.out.2.1;omega) HPP.out.2.2.1 HPP.out.2.2.2).mono ?_
  rintro e w3 ⟨⟨bti,bby,bre,bmx,⟨xA,xc,xl⟩,bfl,⟨b6A,b6c,b6l⟩,⟨b7A,b7c,b7l⟩,⟨thA,thc,thl⟩,⟨b9A,b9c,b9l⟩,⟨b10A,b10c,b10l⟩,⟨fuA,fuc,ful⟩,⟨daA,dac,dal⟩,⟨paA,pac,pal⟩,⟨b14A,b14c,b14l⟩,⟨b15A,b15c,b15l⟩⟩,rfl,hbp,hbr,hb⟩
  have HL:=Lib.hid (HSO.out T _ HPP.out.2.2.1 HPP.out.2.2.2 hbp)
  have HRD:=Lib.hid (show ∀ U,Below w3.heap.size w3 U→Sq.Rd sv U xA xl.length xl∧Lg thE ThR top U thA thc thl∧Lg inE RtI top U fuA fuc ful∧Lg inE RtI top U paA pac pal from fun U h=>⟨hbr.1.below h,Lg.below stays_th h hbr.2.2.2.1,Lg.below stays_i h hbr.2.2.2.2.2.2.1,Lg.below stays_i h hbr.2.2.2.2.2.2.2.2.1⟩)
  have HB3:=Lib.hid (HB2.out.trans (hb.mono HB2.out.size))
  have HB23:=Lib.hid hb
  obtain ⟨ntx,hntx⟩ : ∃ n,xl.length=n:=⟨_,rfl⟩
  obtain ⟨nth,hnth⟩ : ∃ n,thl.length=n:=⟨_,rfl⟩
  obtain ⟨nfu,hnfu⟩ : ∃ n,ful.length=n:=⟨_,rfl⟩
  obtain ⟨nda,hnda⟩ : ∃ n,dal.length=n:=⟨_,rfl⟩
  obtain ⟨npa,hnpa⟩ : ∃ n,pal.length=n:=⟨_,rfl⟩
  have HNN:=Lib.hid (And.intro hntx (And.intro hnth (And.intro hnfu (And.intro hnda hnpa))))
  have HV3 : (Value.agg (Bo.e ⟨bti,bby,bre,bmx,⟨xA,xc,xl⟩,bfl,⟨b6A,b6c,b6l⟩,⟨b7A,b7c,b7l⟩,⟨thA,thc,thl⟩,⟨b9A,b9c,b9l⟩,⟨b10A,b10c,b10l⟩,⟨fuA,fuc,ful⟩,⟨daA,dac,dal⟩,⟨paA,pac,pal⟩,⟨b14A,b14c,b14l⟩,⟨b15A,b15c,b15l⟩⟩).toArray)=.agg #[.int .i64 bti,.int .i64 bby,.int .i64 bre,.int .i64 bmx,.slice xA ntx xc,.int .i64 bfl,.slice b6A b6l.length b6c,.slice b7A b7l.length b7c,.slice thA nth thc,.slice b9A b9l.length b9c,.slice b10A b10l.length b10c,.slice fuA nfu fuc,.slice daA nda dac,.slice paA npa pac,.slice b14A b14l.length b14c,.slice b15A b15l.length b15c]:=by rw [← hntx,← hnth,← hnfu,← hnda,← hnpa];rfl
  rw [HV3]
  have hlen:=HL.out.1
  simp only [hnth,hnfu,hnda] at hlen
  obtain ⟨h1,h2,h3⟩:=hlen
  have q1 : (nth : Int)=(ob.length : Int) + 2:=by omega
  have HQ1:=Lib.hid h1
  subst h2 h3
  clear hbp hbr hb HV3 hntx hnth hnfu hnda hnpa h1 x0 x1 x2 x3 x4 x5 x6 x7 x8 x9 x10 x11 x12 xf
  obtain ⟨x0,x1,x2,x3,x4,x5,x6,x7,x8,x9,x10,x11,x12,xf⟩:=cellz13 (HO0.out w3 HB3.out)
  go_upto_region 5 with fail
  obtain ⟨w4,hw4⟩ : ∃ W,w3.alloc (.cells #[.int .i64 bti,.int .i64 bby,.int .i64 bre,.int .i64 bmx,.slice xA ntx xc,.int .i64 bfl,.slice b6A b6l.length b6c,.slice b7A b7l.length b7c,.slice thA nth thc,.slice b9A b9l.length b9c,.slice b10A b10l.length b10c,.slice fuA fn.length fuc,.slice daA dm.length dac,.slice paA npa pac,.slice b14A b14l.length b14c,.slice b15A b15l.length b15c] 60)=W:=⟨_,rfl⟩
  obtain ⟨m4,s4,b4⟩:=made hw4
  rw [hw4]
  obtain ⟨g0,g1,g2,g3,g4,g5,g6,g7,g8,g9,g10,g11,g12,g13,g14,g15,gf⟩:=cells16 m4
  have HB4:=Lib.hid (HB3.out.trans (b4.mono HB3.out.size))
  have HL4:=Lib.hid b4
  clear hw4 x0 x1 x2 x3 x4 x5 x6 x7 x8 x9 x10 x11 x12 xf
  obtain ⟨x0,x1,x2,x3,x4,x5,x6,x7,x8,x9,x10,x11,x12,xf⟩:=cellz13 (HO0.out w4 HB4.out)
  go_upto_region 6 with fail
  obtain ⟨w5,hw5⟩ : ∃ W,w4.alloc (.cells #[.int .i64 bti,.int .i64 bby,.int .i64 bre,.int .i64 bmx,.slice xA ntx xc,.int .i64 bfl,.slice b6A b6l.length b6c,.slice b7A b7l.length b7c,.slice thA nth thc,.slice b9A b9l.length b9c,.slice b10A b10l.length b10c,.slice fuA fn.length fuc,.slice daA dm.length dac,.slice paA npa pac,.slice b14A b14l.length b14c] 57)=W:=⟨_,rfl⟩
  obtain ⟨m5,s5,b5⟩:=made hw5
  rw [hw5]
  have HB5:=Lib.hid (HB4.out.trans (b5.mono HB4.out.size))
  have HL5:=Lib.hid (HL4.out.trans (b5.mono HL4.out.size))
  rw [s4] at m5
  obtain ⟨tb,htb⟩ : ∃ p,w3.heap.size + 1=p:=⟨_,rfl⟩
  rw [htb] at m5 ⊢
  have HTB:=Lib.hid (show ∀ U,Below w5.heap.size w5 U→U.heap[tb]?=some (.cells #[.int .i64 bti,.int .i64 bby,.int .i64 bre,.int .i64 bmx,.slice xA ntx xc,.int .i64 bfl,.slice b6A b6l.length b6c,.slice b7A b7l.length b7c,.slice thA nth thc,.slice b9A b9l.length b9c,.slice b10A b10l.length b10c,.slice fuA fn.length fuc,.slice daA dm.length dac,.slice paA npa pac,.slice b14A b14l.length b14c] 57 (0,0)) from fun U h=>(h.block _ (Array.getElem?_eq_some_iff.1 m5).1).trans m5)
  clear hw5 m4 s4 b4 m5 s5 b5 htb g0 g1 g2 g3 g4 g5 g6 g7 g8 g9 g10 g11 g12 g13 g14 g15 gf x0 x1 x2 x3 x4 x5 x6 x7 x8 x9 x10 x11 x12 xf
  obtain ⟨x0,x1,x2,x3,x4,x5,x6,x7,x8,x9,x10,x11,x12,xf⟩:=cellz13 (HO0.out w5 HB5.out)
  obtain ⟨y0,y1,y2,y3,y4,y5,y6,y7,y8,y9,y10,y11,y12,y13,y14,yf⟩:=cells15 (HTB.out w5 (Below.refl _ _))
  have zw : IntKind.i64.wrap ((ob.length : Int) + 2)=(ob.length : Int) + 2:=by rw [IntKind.wrap_i64];omega
  have HC:=Lib.hid (show CnR w w5 p0 tb T A1 n1 (.string (str ti)) (.string (str by_)) (.string (str st)) (.int .i64 re) (.int .i64 mx) (.slice fA fl.length fc) (.slice pA pr.length pc) (.slice gA gl.length gc) (.slice vA vb.length vc) (.slice rA ru.length rc) (.slice dA dm.length dc) (.int .i64 bti) (.int .i64 bby) (.int .i64 bre) (.int .i64 bmx) (.int .i64 bfl) (.slice b6A b6l.length b6c) (.slice b7A b7l.length b7c) (.slice b9A b9l.length b9c) (.slice b10A b10l.length b10c) (.slice daA dm.length dac) (.slice b14A b14l.length b14c) oA nA xA thA fuA paA oc nc xc thc fuc pac ntx nth npa ob fn xl thl ful pal from
   ⟨fun U h=>HO0.out U (HB5.out.trans (h.mono HB5.out.size)),HTB.out,fun U h=>HPP.out.1.below (HB23.out.trans ((HL5.out.trans (h.mono HL5.out.size)).mono HB23.out.size)),by have:=HPP.out.2.1;omega,fun U h=>HAW.out U (HB5.out.trans (h.mono HB5.out.size)),fun U h=>⟨Lg.keep Ob.stays (Keep.below (HBT.out U (HB5.out.trans (h.mono HB5.out.size)))) HR.out.1,Lg.keep BindO.Fn.stays (Keep.below (HBT.out U (HB5.out.trans (h.mono HB5.out.size)))) HR.out.2⟩,fun U h=>HRD.out U (HL5.out.trans (h.mono HL5.out.size)),HL.out.2.1,HL.out.2.2,⟨HNN.out.1,HNN.out.2.1,HNN.out.2.2.1,HNN.out.2.2.2.2⟩,zO,zN,HZ.out.2.1⟩)
  clear HO0 HTB HPP HAW HR HRD HL HNN HZ HB3 HB23 HB2 HB4 HL4 HFI HBK HSO HFV HP HBV
  rename_i Q2 K1 h1 K0 h0
  have HK1:=Lib.hid h1
  clear h1
  go_wp2_with fail
  refine HK1.out _ _ ?_
  exact tail6 HC (Lib.hid (Below.refl _ _))
theorem own : ownKnob Try.prog.godebug=none:=by kernel_rfl
set_option maxRecDepth 100000 in
theorem contract (H : Type) (enc : TypeId × Value→H) (W : World) (base : Nat) (args : Array Value) (ds gs : List (DataW H)) (before : List MemPlace)
  (hval : ∀ (j : Nat) t v,Try.f5.params[j]?=some t→args[j]?=some v→Value.okWide Try.prog W .any base t v)
  (hW : DataW.Whole enc Try.prog Try.f5.params.toList Rows.bindNumbersSpec.vars false W args.toList ds gs before) (hk : Rows.uptoSmall H (ds ++ gs)=true) :
  Calls Try.prog 5 args W fun e W'=>∃ v,e=.returned v∧Rows.bindNumbersSpec.post enc Try.prog Try.f5 false true false false W args v W':=by
 have hW':=hW
 obtain ⟨p,q,hA0,hV,rfl,hfz,hnd⟩:=hW
 have hA : DataW.TrodAll enc Try.prog W 0 (fun _=>true) true Try.f5.params.toList args.toList ds p:=hA0
 rw [Try.params5] at hA hval
 obtain ⟨v0,vs0,d0,ds0,p0,q0,hargs,rfl,rfl,h0,r0⟩:=trodAll_cons hA
 obtain ⟨rfl,rfl,rfl⟩:=trodAll_nil r0
 obtain rfl : args=#[v0]:=by cases args;simp_all
 have hb : Rows.uptoBulkAll ([d0] ++ gs)≤1048576:=of_decide_eq_true hk
 clear hV
 obtain ⟨t,rfl,hr,hm⟩:=open_source (hval 0 29 v0 rfl rfl) h0
 have hm2 : So.m t≤1048576:=by
  simp only [List.cons_append,Rows.uptoBulkAll] at hb
  omega
 clear hA0
 refine (walk t W hr hm2).mono fun e W' ⟨he,hg⟩=>?_
 subst he
 exact ⟨_,rfl,Law.post (by kernel_rfl) (by kernel_rfl) Try.underlying4 rfl rfl hW' hg ⟨rfl,rfl,rfl⟩⟩
set_option maxRecDepth 100000 in
theorem lifted (os : Os) (started : os.Started) (H : Type) (enc : TypeId × Value→H) (F : Stop.Interp) :
  ReturnsInHanded {} Try.checked os 5 .any ((Rows.OpenSpec.upto Rows.bindNumbersSpec).pre6 enc Try.prog Try.f5 Rows.bindNumbersUptoRow.domain false) (((Rows.OpenSpec.upto Rows.bindNumbersSpec).at F).post enc Try.prog Try.f5 false true false false):=by
 refine returnsInHanded_of_cond (C:=Try.checked) (s:=Rows.OpenSpec.upto Rows.bindNumbersSpec) (k:=Rows.uptoSmall) rfl own started (by kernel_rfl) Try.func5
  (OpenSpec.witness (enc:=enc) (C:=Try.checked) (s:=Rows.OpenSpec.upto Rows.bindNumbersSpec) (k:=Rows.uptoSmall) rfl false ⟨#[],#[.agg #[.string .empty,.string .empty,.string .empty,.int .i64 0,.int .i64 0,.slice none 0 0,.slice none 0 0,.slice none 0 0,.slice none 0 0,.slice none 0 0,.slice none 0 0,.slice none 0 0,.slice none 0 0]],[]⟩ 8 (by kernel_rfl) (by kernel_rfl) (by kernel_rfl)
   (x:=([.agg [.lit (.string []),.lit (.string []),.lit (.string []),.lit (.int .i64 0),.lit (.int .i64 0),.nil,.nil,.nil,.nil,.nil,.nil,.nil,.nil]],[],[])) (by kernel_rfl) rfl (by kernel_rfl)) ?_
 intro W base args ds gs before hval hW _ hk _
 exact contract H enc W base args ds gs before hval hW hk
theorem proved : Rows.BindNumbersUptoSaid:=
 OpenClaim.holds_of_cond 5 Try.f5 rfl rfl rfl rfl rfl rfl rfl ⟨rfl,rfl,rfl,rfl,rfl⟩ rfl rfl rfl rfl rfl (by kernel_rfl) Try.func5 (by kernel_rfl)
  (of_decide_eq_true (by kernel_rfl)) (by unfold Func.isWrapper;first | (rw [if_pos (by decide +kernel)];kernel_rfl) | (rw [if_neg (by decide +kernel)];exact ⟨rfl,rfl⟩))
  (fun os started H enc _ F=>lifted os started H enc F)
#print axioms proved
end Go.Proofs.Yteibcfpepdbflaa.bindNumbers
