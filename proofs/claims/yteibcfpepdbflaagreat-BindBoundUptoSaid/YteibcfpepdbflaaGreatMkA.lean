/- clewref15.all: a source's declarations, in order. Conditions: the source is of bulk at most 1048576. -/
import Derived.Test.YteibcfpepdbflaaGreatTxA
import Derived.Test.YteibcfpepdbflaaGreatRtX
import Derived.Test.YteibcfpepdbflaaGreatRtD
open Go.Lib renaming hid → hI
namespace Go.Proofs.YteibcfpepdbflaaGreat.MkA
open Go Go.RowKit BindP BindD BindO BindW BindG BindX BindB BindT BindU TxA RtX RtD
open Byt (str)
structure En where
 nm : S
 ki : Int
 pa : Int
 at_ : Int
 nu : Int
 mo : Int
def En.e (t : En) : List Value:=[sv t.nm,.int .i64 t.ki,.int .i64 t.pa,.int .i64 t.at_,.int .i64 t.nu,.int .i64 t.mo]
theorem En.len (t : En) : (En.e t).length=6:=rfl
theorem elE : Sk.El Tryz.prog 117 122 En.e (.agg #[.string ⟨#[]⟩,.int .i64 0,.int .i64 0,.int .i64 0,.int .i64 0,.int .i64 0]) 6 56 where
 und:=Tryz.underlying117
 info:=by kernel_rfl
 len:=En.len
 one:=fun x u hu=>by cases x;simp [En.e,sv] at hu;rcases hu with rfl | rfl | rfl | rfl | rfl | rfl <;> rfl
 zs:=rfl
 pos:=by omega
def ens1 (ki pa fr mo : Int) (l : List S) : List En:=l.mapIdx fun i s=>⟨s,ki,pa,i,i + fr,mo⟩
theorem ens1_len (ki pa fr mo : Int) (l : List S) : (ens1 ki pa fr mo l).length=l.length:=by unfold ens1;simp
theorem ens1_snoc (ki pa fr mo : Int) (l : List S) (s : S) : ens1 ki pa fr mo (l ++ [s])=ens1 ki pa fr mo l ++ [⟨s,ki,pa,l.length,l.length + fr,mo⟩]:=by unfold ens1;simp
theorem ens1_take {α : Type} (f : α→S) (ki pa fr mo : Int) {l : List α} {j : Nat} (h : j < l.length) : ens1 ki pa fr mo ((l.take (j + 1)).map f)=ens1 ki pa fr mo ((l.take j).map f) ++ [⟨f l[j],ki,pa,(j : Nat),(j : Nat) + fr,mo⟩]:=by
 rw [List.take_succ_eq_append_getElem h,List.map_append]
 show ens1 ki pa fr mo ((l.take j).map f ++ [f l[j]])=_
 rw [ens1_snoc]
 simp only [List.length_map,List.length_take,Nat.min_eq_left (Nat.le_of_lt h)]
theorem one_len {α : Type} {enc : α→List Value} {R : (Nat→Prop)→World→α→Prop} {K : Nat→Prop} {w : World} {A : Option Addr} {c : Nat} {l : List α} (hk : ∀ x,(enc x).length=1) (h : Lg enc R K w A c l) {i : Nat} (hi : i < l.length) :
  ∃ b o,A=some ⟨b,o,none⟩∧b < w.heap.size∧∀ (j : Nat) (u : Value),(enc l[i])[j]?=some u→w.cell? ⟨b,o + i,none⟩=some u:=by
 obtain ⟨b,o,e,hb,hc⟩:=Lg.at_ hk h hi
 refine ⟨b,o,e,hb,fun j u hu=>?_⟩
 have hj:=(List.getElem?_eq_some_iff.1 hu).1
 rw [hk] at hj
 obtain rfl : j=0:=by omega
 simpa using hc 0 u hu
def ens (t : So) : List En:=ens1 1 2 4 12 t.fl.l ++ ens1 2 3 0 16 (t.pr.l.map Pr.nm) ++ ens1 3 4 0 64 (t.gl.l.map Pr.nm) ++ ens1 4 5 2 126 (t.ob.l.map Ob.nm) ++ ens1 5 6 0 64 (t.vb.l.map Vb.nm) ++ ens1 6 8 0 64 (t.fn.l.map BindO.Fn.nm) ++ ens1 7 9 0 16 (t.dm.l.map BindO.Fn.nm)
set_option maxRecDepth 100000 in
set_option maxHeartbeats 16000000 in
theorem all_r (t : So) (w : World) (hr : So.R top w t) (hz : So.m t≤1048576) : Calls Tryz.prog 53 #[.agg (So.e t).toArray] w fun e w'=>∃ A c,e=.returned (.slice A (ens t).length c)∧Sk.Rd En.e w' A (ens t).length (ens t)∧Below w.heap.size w w':=by
 obtain ⟨ti,by_,st,re,mx,⟨fA,fc,fl⟩,⟨pA,pc,pr⟩,⟨gA,gc,gl⟩,⟨oA,oc,ob⟩,⟨vA,vc,vb⟩,⟨rA,rc,ru⟩,⟨nA,nc,fn⟩,⟨dA,dc,dm⟩⟩:=t
 have hS : fl.length≤1048576∧pr.length≤1048576∧gl.length≤1048576∧ob.length≤1048576∧vb.length≤1048576∧fn.length≤1048576∧dm.length≤1048576:=by
  have e : So.m ⟨ti,by_,st,re,mx,⟨fA,fc,fl⟩,⟨pA,pc,pr⟩,⟨gA,gc,gl⟩,⟨oA,oc,ob⟩,⟨vA,vc,vb⟩,⟨rA,rc,ru⟩,⟨nA,nc,fn⟩,⟨dA,dc,dm⟩⟩=(ti.length + 1) + (by_.length + 1) + (st.length + 1) + 1 + 1 + ((fl.map fun x=>x.length + 1).sum + 1) + ((pr.map Pr.m).sum + 1) + ((gl.map Pr.m).sum + 1) + ((ob.map Ob.m).sum + 1) + ((vb.map Vb.m).sum + 1) + ((ru.map Rl.m).sum + 1) + ((fn.map BindO.Fn.m).sum + 1) + ((dm.map BindO.Fn.m).sum + 1):=rfl
  rw [e] at hz
  have h1:=sum_len (m:=fun x : S=>x.length + 1) (fun _=>by omega) fl
  have h2:=sum_len (m:=Pr.m) (fun _=>by unfold Pr.m;omega) pr
  have h3:=sum_len (m:=Pr.m) (fun _=>by unfold Pr.m;omega) gl
  have h4:=sum_len (m:=Ob.m) (fun _=>by unfold Ob.m;omega) ob
  have h5:=sum_len (m:=Vb.m) (fun _=>by unfold Vb.m;omega) vb
  have h6:=sum_len (m:=BindO.Fn.m) (fun _=>by unfold BindO.Fn.m;omega) fn
  have h7:=sum_len (m:=BindO.Fn.m) (fun _=>by unfold BindO.Fn.m;omega) dm
  exact ⟨by omega,by omega,by omega,by omega,by omega,by omega,by omega⟩
 obtain ⟨z1,z2,z3,z4,z5,z6,z7⟩:=hS
 have HEQ:=hI (show ens ⟨ti,by_,st,re,mx,⟨fA,fc,fl⟩,⟨pA,pc,pr⟩,⟨gA,gc,gl⟩,⟨oA,oc,ob⟩,⟨vA,vc,vb⟩,⟨rA,rc,ru⟩,⟨nA,nc,fn⟩,⟨dA,dc,dm⟩⟩=ens1 1 2 4 12 (fl.map id) ++ ens1 2 3 0 16 (pr.map Pr.nm) ++ ens1 3 4 0 64 (gl.map Pr.nm) ++ ens1 4 5 2 126 (ob.map Ob.nm) ++ ens1 5 6 0 64 (vb.map Vb.nm) ++ ens1 6 8 0 64 (fn.map BindO.Fn.nm) ++ ens1 7 9 0 16 (dm.map BindO.Fn.nm) by unfold ens;simp only [List.map_id])
 obtain ⟨V,hV⟩ : ∃ W,w.alloc (.cells #[.string (str ti),.string (str by_),.string (str st),.int .i64 re,.int .i64 mx,.slice fA fl.length fc,.slice pA pr.length pc,.slice gA gl.length gc,.slice oA ob.length oc,.slice vA vb.length vc,.slice rA ru.length rc,.slice nA fn.length nc,.slice dA dm.length dc] 29)=W:=⟨_,rfl⟩
 obtain ⟨mv,sv_,bv⟩:=made hV
 obtain ⟨Bs,hBs⟩ : ∃ q,w.heap.size=q:=⟨_,rfl⟩
 have HR:=hI (So.stays _ _ _ _ _ (Keep.below bv) hr)
 have HBV:=hI bv
 rw [hBs] at mv
 have HBX:=hI (show ∀ U,Below V.heap.size V U→U.heap[Bs]?=some (.cells #[.string (str ti),.string (str by_),.string (str st),.int .i64 re,.int .i64 mx,.slice fA fl.length fc,.slice pA pr.length pc,.slice gA gl.length gc,.slice oA ob.length oc,.slice vA vb.length vc,.slice rA ru.length rc,.slice nA fn.length nc,.slice dA dm.length dc] 29 (0,0)) from fun U hU=>(hU.block _ (Array.getElem?_eq_some_iff.1 mv).1).trans mv)
 obtain ⟨x0,x1,x2,x3,x4,x5,x6,x7,x8,x9,x10,x11,x12,xf⟩:=cellz13 mv
 clear mv sv_ bv hr hz
 show Calls Tryz.prog 53 #[.agg #[.string (str ti),.string (str by_),.string (str st),.int .i64 re,.int .i64 mx,.slice fA fl.length fc,.slice pA pr.length pc,.slice gA gl.length gc,.slice oA ob.length oc,.slice vA vb.length vc,.slice rA ru.length rc,.slice nA fn.length nc,.slice dA dm.length dc]] w _
 go_enter Tryz.func53,Tryz.ntmps53
 go_wp2_with fail
 have HO0:=hI (show Sk.Own En.e 6 122 V V.heap.size (.slice none 0 0) ([] : List En) from Sk.own_nil _ _)
 have HB0:=hI (Below.refl V.heap.size V)
 go_loopw [3,4] (fun v iv wr=>∃ j : Nat,j≤fl.length∧iv=.int .i64 (j : Int)∧Sk.Own En.e 6 122 wr V.heap.size v (([] : List En) ++ ens1 1 2 4 12 ((fl.take j).map id))∧Below V.heap.size V wr) (fun _ iv _=>fl.length - (intOf iv).toNat)
 case atStart=>exact ⟨0,Nat.zero_le _,rfl,by simpa [ens1] using HO0.out,HB0.out⟩
 case round=>
  clear x0 x1 x2 x3 x4 x5 x6 x7 x8 x9 x10 x11 x12 xf
  obtain ⟨j,hj,rfl,ho,hb⟩:=hrel
  obtain ⟨v4,rfl⟩ : ∃ q,q=u3:=⟨_,rfl⟩
  have HO1:=hI ho
  have HB1:=hI hb
  obtain ⟨x0,x1,x2,x3,x4,x5,x6,x7,x8,x9,x10,x11,x12,xf⟩:=cellz13 (HBX.out _ hb)
  clear ho hb HO0 HB0
  by_cases hlt : j < fl.length
  ·have hst:=ens1_take id 1 2 4 12 hlt
   obtain ⟨b1,o1,rfl,hb1,hc⟩:=one_len (fun _=>rfl) (Lg.keep stays_t (Keep.below HB1.out) HR.out.1) hlt
   obtain ⟨y,hy⟩ : ∃ y,fl[j]=y:=⟨_,rfl⟩
   rw [hy] at hst hc
   have c0 : wr.cell? ⟨b1,o1 + j,none⟩=some (.string (str y)):=hc 0 _ rfl
   have HST:=hI hst
   have k0 : (0 : Int)≤(j : Int):=by omega
   have k1 : (j : Int) < (fl.length : Int):=by omega
   clear hst hc hy
   have HLE:=hI (show (([] : List En) ++ ens1 1 2 4 12 ((fl.take j).map id)).length≤8388608 by simp only [List.length_append,ens1_len,List.length_map,List.length_take,List.length_nil];omega)
   go_wp2_with (at_builtin;refine Sk.wpList_append elE rfl _ _ rfl rfl (Sk.Own.below HO1.out (made rfl).2.2) (some ⟨wr.heap.size,0,none⟩) 1 1 [(⟨y,1,2,(j : Nat),(j : Nat) + 4,12⟩ : En)] rfl (Sk.rd_lit (enc:=En.e) wr 122 [(⟨y,1,2,(j : Nat),(j : Nat) + 4,12⟩ : En)] _ (by simp [En.e,sv]) 1 rfl) (by have:=HLE.out;unfold maxLen;omega) (by have:=HLE.out;omega) (by have:=HB1.out.size;simp;omega) ?_;intro v5 w5 ho5 hb5 _ _ _;have HO5:=hI ho5;have HB5:=hI ((HB1.out.trans ((made (w:=wr) rfl).2.2.mono HB1.out.size)).trans hb5);clear ho5 hb5)
   go_roundw
   case rel=>exact ⟨j + 1,by omega,by go_num,by rw [HST.out,← List.append_assoc];exact HO5.out,HB5.out⟩
   case measure=>simp [intOf];omega
  ·obtain rfl : j=fl.length:=by omega
   have ho:=HO1.out
   rw [List.take_length] at ho
   clear HO1
   have HO1:=hI ho
   clear ho
   go_wp2_with fail
   go_loopw [3,5] (fun v iv wr=>∃ j : Nat,j≤pr.length∧iv=.int .i64 (j : Int)∧Sk.Own En.e 6 122 wr V.heap.size v (([] : List En) ++ ens1 1 2 4 12 (fl.map id) ++ ens1 2 3 0 16 ((pr.take j).map Pr.nm))∧Below V.heap.size V wr) (fun _ iv _=>pr.length - (intOf iv).toNat)
   case atStart=>exact ⟨0,Nat.zero_le _,rfl,by simpa [ens1] using HO1.out,HB1.out⟩
   case round=>
    clear x0 x1 x2 x3 x4 x5 x6 x7 x8 x9 x10 x11 x12 xf
    obtain ⟨j,hj,rfl,ho,hb⟩:=hrel
    obtain ⟨v4,rfl⟩ : ∃ q,q=u3:=⟨_,rfl⟩
    have HO2:=hI ho
    have HB2:=hI hb
    obtain ⟨x0,x1,x2,x3,x4,x5,x6,x7,x8,x9,x10,x11,x12,xf⟩:=cellz13 (HBX.out _ hb)
    clear ho hb HO1 HB1
    by_cases hlt : j < pr.length
    ·have hst:=ens1_take Pr.nm 2 3 0 16 hlt
     obtain ⟨b1,o1,rfl,hb1,hc⟩:=Lg.at_ Pr.len (Lg.keep Pr.stays (Keep.below HB2.out) HR.out.2.1) hlt
     obtain ⟨el,hel⟩ : ∃ y,pr[j]=y:=⟨_,rfl⟩
     rw [hel] at hst hc
     obtain ⟨y,hy⟩ : ∃ y,Pr.nm el=y:=⟨_,rfl⟩
     rw [hy] at hst
     have c0 : wr.cell? ⟨b1,o1 + j * 2,none⟩=some (.string (str y)):=by have h:=hc 0 (sv (Pr.nm el)) (by cases el;rfl);rw [hy] at h;simpa [sv] using h
     have HST:=hI hst
     have k0 : (0 : Int)≤(j : Int):=by omega
     have k1 : (j : Int) < (pr.length : Int):=by omega
     clear hst hc hy hel
     have HLE:=hI (show (([] : List En) ++ ens1 1 2 4 12 (fl.map id) ++ ens1 2 3 0 16 ((pr.take j).map Pr.nm)).length≤8388608 by simp only [List.length_append,ens1_len,List.length_map,List.length_take,List.length_nil];omega)
     go_wp2_with (at_builtin;refine Sk.wpList_append elE rfl _ _ rfl rfl (Sk.Own.below HO2.out (made rfl).2.2) (some ⟨wr.heap.size,0,none⟩) 1 1 [(⟨y,2,3,(j : Nat),(j : Nat) + 0,16⟩ : En)] rfl (Sk.rd_lit (enc:=En.e) wr 122 [(⟨y,2,3,(j : Nat),(j : Nat) + 0,16⟩ : En)] _ (by simp [En.e,sv]) 1 rfl) (by have:=HLE.out;unfold maxLen;omega) (by have:=HLE.out;omega) (by have:=HB2.out.size;simp;omega) ?_;intro v5 w5 ho5 hb5 _ _ _;have HO5:=hI ho5;have HB5:=hI ((HB2.out.trans ((made (w:=wr) rfl).2.2.mono HB2.out.size)).trans hb5);clear ho5 hb5)
     go_roundw
     case rel=>exact ⟨j + 1,by omega,by go_num,by rw [HST.out,← List.append_assoc];exact HO5.out,HB5.out⟩
     case measure=>simp [intOf];omega
    ·obtain rfl : j=pr.length:=by omega
     have ho:=HO2.out
     rw [List.take_length] at ho
     clear HO2
     have HO2:=hI ho
     clear ho
     go_wp2_with fail
     go_loopw [3,6] (fun v iv wr=>∃ j : Nat,j≤gl.length∧iv=.int .i64 (j : Int)∧Sk.Own En.e 6 122 wr V.heap.size v (([] : List En) ++ ens1 1 2 4 12 (fl.map id) ++ ens1 2 3 0 16 (pr.map Pr.nm) ++ ens1 3 4 0 64 ((gl.take j).map Pr.nm))∧Below V.heap.size V wr) (fun _ iv _=>gl.length - (intOf iv).toNat)
     case atStart=>exact ⟨0,Nat.zero_le _,rfl,by simpa [ens1] using HO2.out,HB2.out⟩
     case round=>
      clear x0 x1 x2 x3 x4 x5 x6 x7 x8 x9 x10 x11 x12 xf
      obtain ⟨j,hj,rfl,ho,hb⟩:=hrel
      obtain ⟨v4,rfl⟩ : ∃ q,q=u3:=⟨_,rfl⟩
      have HO3:=hI ho
      have HB3:=hI hb
      obtain ⟨x0,x1,x2,x3,x4,x5,x6,x7,x8,x9,x10,x11,x12,xf⟩:=cellz13 (HBX.out _ hb)
      clear ho hb HO2 HB2
      by_cases hlt : j < gl.length
      ·have hst:=ens1_take Pr.nm 3 4 0 64 hlt
       obtain ⟨b1,o1,rfl,hb1,hc⟩:=Lg.at_ Pr.len (Lg.keep Pr.stays (Keep.below HB3.out) HR.out.2.2.1) hlt
       obtain ⟨el,hel⟩ : ∃ y,gl[j]=y:=⟨_,rfl⟩
       rw [hel] at hst hc
       obtain ⟨y,hy⟩ : ∃ y,Pr.nm el=y:=⟨_,rfl⟩
       rw [hy] at hst
       have c0 : wr.cell? ⟨b1,o1 + j * 2,none⟩=some (.string (str y)):=by have h:=hc 0 (sv (Pr.nm el)) (by cases el;rfl);rw [hy] at h;simpa [sv] using h
       have HST:=hI hst
       have k0 : (0 : Int)≤(j : Int):=by omega
       have k1 : (j : Int) < (gl.length : Int):=by omega
       clear hst hc hy hel
       have HLE:=hI (show (([] : List En) ++ ens1 1 2 4 12 (fl.map id) ++ ens1 2 3 0 16 (pr.map Pr.nm) ++ ens1 3 4 0 64 ((gl.take j).map Pr.nm)).length≤8388608 by simp only [List.length_append,ens1_len,List.length_map,List.length_take,List.length_nil];omega)
       go_wp2_with (at_builtin;refine Sk.wpList_append elE rfl _ _ rfl rfl (Sk.Own.below HO3.out (made rfl).2.2) (some ⟨wr.heap.size,0,none⟩) 1 1 [(⟨y,3,4,(j : Nat),(j : Nat) + 0,64⟩ : En)] rfl (Sk.rd_lit (enc:=En.e) wr 122 [(⟨y,3,4,(j : Nat),(j : Nat) + 0,64⟩ : En)] _ (by simp [En.e,sv]) 1 rfl) (by have:=HLE.out;unfold maxLen;omega) (by have:=HLE.out;omega) (by have:=HB3.out.size;simp;omega) ?_;intro v5 w5 ho5 hb5 _ _ _;have HO5:=hI ho5;have HB5:=hI ((HB3.out.trans ((made (w:=wr) rfl).2.2.mono HB3.out.size)).trans hb5);clear ho5 hb5)
       go_roundw
       case rel=>exact ⟨j + 1,by omega,by go_num,by rw [HST.out,← List.append_assoc];exact HO5.out,HB5.out⟩
       case measure=>simp [intOf];omega
      ·obtain rfl : j=gl.length:=by omega
       have ho:=HO3.out
       rw [List.take_length] at ho
       clear HO3
       have HO3:=hI ho
       clear ho
       go_wp2_with fail
       go_loopw [3,7] (fun v iv wr=>∃ j : Nat,j≤ob.length∧iv=.int .i64 (j : Int)∧Sk.Own En.e 6 122 wr V.heap.size v (([] : List En) ++ ens1 1 2 4 12 (fl.map id) ++ ens1 2 3 0 16 (pr.map Pr.nm) ++ ens1 3 4 0 64 (gl.map Pr.nm) ++ ens1 4 5 2 126 ((ob.take j).map Ob.nm))∧Below V.heap.size V wr) (fun _ iv _=>ob.length - (intOf iv).toNat)
       case atStart=>exact ⟨0,Nat.zero_le _,rfl,by simpa [ens1] using HO3.out,HB3.out⟩
       case round=>
        clear x0 x1 x2 x3 x4 x5 x6 x7 x8 x9 x10 x11 x12 xf
        obtain ⟨j,hj,rfl,ho,hb⟩:=hrel
        obtain ⟨v4,rfl⟩ : ∃ q,q=u3:=⟨_,rfl⟩
        have HO4:=hI ho
        have HB4:=hI hb
        obtain ⟨x0,x1,x2,x3,x4,x5,x6,x7,x8,x9,x10,x11,x12,xf⟩:=cellz13 (HBX.out _ hb)
        clear ho hb HO3 HB3
        by_cases hlt : j < ob.length
        ·have hst:=ens1_take Ob.nm 4 5 2 126 hlt
         obtain ⟨b1,o1,rfl,hb1,hc⟩:=Lg.at_ Ob.len (Lg.keep Ob.stays (Keep.below HB4.out) HR.out.2.2.2.1) hlt
         obtain ⟨el,hel⟩ : ∃ y,ob[j]=y:=⟨_,rfl⟩
         rw [hel] at hst hc
         obtain ⟨y,hy⟩ : ∃ y,Ob.nm el=y:=⟨_,rfl⟩
         rw [hy] at hst
         have c0 : wr.cell? ⟨b1,o1 + j * 10,none⟩=some (.string (str y)):=by have h:=hc 0 (sv (Ob.nm el)) (by cases el;rfl);rw [hy] at h;simpa [sv] using h
         have HST:=hI hst
         have k0 : (0 : Int)≤(j : Int):=by omega
         have k1 : (j : Int) < (ob.length : Int):=by omega
         clear hst hc hy hel
         have HLE:=hI (show (([] : List En) ++ ens1 1 2 4 12 (fl.map id) ++ ens1 2 3 0 16 (pr.map Pr.nm) ++ ens1 3 4 0 64 (gl.map Pr.nm) ++ ens1 4 5 2 126 ((ob.take j).map Ob.nm)).length≤8388608 by simp only [List.length_append,ens1_len,List.length_map,List.length_take,List.length_nil];omega)
         go_wp2_with (at_builtin;refine Sk.wpList_append elE rfl _ _ rfl rfl (Sk.Own.below HO4.out (made rfl).2.2) (some ⟨wr.heap.size,0,none⟩) 1 1 [(⟨y,4,5,(j : Nat),(j : Nat) + 2,126⟩ : En)] rfl (Sk.rd_lit (enc:=En.e) wr 122 [(⟨y,4,5,(j : Nat),(j : Nat) + 2,126⟩ : En)] _ (by simp [En.e,sv]) 1 rfl) (by have:=HLE.out;unfold maxLen;omega) (by have:=HLE.out;omega) (by have:=HB4.out.size;simp;omega) ?_;intro v5 w5 ho5 hb5 _ _ _;have HO5:=hI ho5;have HB5:=hI ((HB4.out.trans ((made (w:=wr) rfl).2.2.mono HB4.out.size)).trans hb5);clear ho5 hb5)
         go_roundw
         case rel=>exact ⟨j + 1,by omega,by go_num,by rw [HST.out,← List.append_assoc];exact HO5.out,HB5.out⟩
         case measure=>simp [intOf];omega
        ·obtain rfl : j=ob.length:=by omega
         have ho:=HO4.out
         rw [List.take_length] at ho
         clear HO4
         have HO4:=hI ho
         clear ho
         go_wp2_with fail
         go_loopw [3,8] (fun v iv wr=>∃ j : Nat,j≤vb.length∧iv=.int .i64 (j : Int)∧Sk.Own En.e 6 122 wr V.heap.size v (([] : List En) ++ ens1 1 2 4 12 (fl.map id) ++ ens1 2 3 0 16 (pr.map Pr.nm) ++ ens1 3 4 0 64 (gl.map Pr.nm) ++ ens1 4 5 2 126 (ob.map Ob.nm) ++ ens1 5 6 0 64 ((vb.take j).map Vb.nm))∧Below V.heap.size V wr) (fun _ iv _=>vb.length - (intOf iv).toNat)
         case atStart=>exact ⟨0,Nat.zero_le _,rfl,by simpa [ens1] using HO4.out,HB4.out⟩
         case round=>
          clear x0 x1 x2 x3 x4 x5 x6 x7 x8 x9 x10 x11 x12 xf
          obtain ⟨j,hj,rfl,ho,hb⟩:=hrel
          obtain ⟨v4,rfl⟩ : ∃ q,q=u3:=⟨_,rfl⟩
          have HO5:=hI ho
          have HB5:=hI hb
          obtain ⟨x0,x1,x2,x3,x4,x5,x6,x7,x8,x9,x10,x11,x12,xf⟩:=cellz13 (HBX.out _ hb)
          clear ho hb HO4 HB4
          by_cases hlt : j < vb.length
          ·have hst:=ens1_take Vb.nm 5 6 0 64 hlt
           obtain ⟨b1,o1,rfl,hb1,hc⟩:=Lg.at_ Vb.len (Lg.keep Vb.stays (Keep.below HB5.out) HR.out.2.2.2.2.1) hlt
           obtain ⟨el,hel⟩ : ∃ y,vb[j]=y:=⟨_,rfl⟩
           rw [hel] at hst hc
           obtain ⟨y,hy⟩ : ∃ y,Vb.nm el=y:=⟨_,rfl⟩
           rw [hy] at hst
           have c0 : wr.cell? ⟨b1,o1 + j * 3,none⟩=some (.string (str y)):=by have h:=hc 0 (sv (Vb.nm el)) (by cases el;rfl);rw [hy] at h;simpa [sv] using h
           have HST:=hI hst
           have k0 : (0 : Int)≤(j : Int):=by omega
           have k1 : (j : Int) < (vb.length : Int):=by omega
           clear hst hc hy hel
           have HLE:=hI (show (([] : List En) ++ ens1 1 2 4 12 (fl.map id) ++ ens1 2 3 0 16 (pr.map Pr.nm) ++ ens1 3 4 0 64 (gl.map Pr.nm) ++ ens1 4 5 2 126 (ob.map Ob.nm) ++ ens1 5 6 0 64 ((vb.take j).map Vb.nm)).length≤8388608 by simp only [List.length_append,ens1_len,List.length_map,List.length_take,List.length_nil];omega)
           go_wp2_with (at_builtin;refine Sk.wpList_append elE rfl _ _ rfl rfl (Sk.Own.below HO5.out (made rfl).2.2) (some ⟨wr.heap.size,0,none⟩) 1 1 [(⟨y,5,6,(j : Nat),(j : Nat) + 0,64⟩ : En)] rfl (Sk.rd_lit (enc:=En.e) wr 122 [(⟨y,5,6,(j : Nat),(j : Nat) + 0,64⟩ : En)] _ (by simp [En.e,sv]) 1 rfl) (by have:=HLE.out;unfold maxLen;omega) (by have:=HLE.out;omega) (by have:=HB5.out.size;simp;omega) ?_;intro v5 w5 ho5 hb5 _ _ _;have HO5:=hI ho5;have HB5:=hI ((HB5.out.trans ((made (w:=wr) rfl).2.2.mono HB5.out.size)).trans hb5);clear ho5 hb5)
           go_roundw
           case rel=>exact ⟨j + 1,by omega,by go_num,by rw [HST.out,← List.append_assoc];exact HO5.out,HB5.out⟩
           case measure=>simp [intOf];omega
          ·obtain rfl : j=vb.length:=by omega
           have ho:=HO5.out
           rw [List.take_length] at ho
           clear HO5
           have HO5:=hI ho
           clear ho
           go_wp2_with fail
           go_loopw [3,9] (fun v iv wr=>∃ j : Nat,j≤fn.length∧iv=.int .i64 (j : Int)∧Sk.Own En.e 6 122 wr V.heap.size v (([] : List En) ++ ens1 1 2 4 12 (fl.map id) ++ ens1 2 3 0 16 (pr.map Pr.nm) ++ ens1 3 4 0 64 (gl.map Pr.nm) ++ ens1 4 5 2 126 (ob.map Ob.nm) ++ ens1 5 6 0 64 (vb.map Vb.nm) ++ ens1 6 8 0 64 ((fn.take j).map BindO.Fn.nm))∧Below V.heap.size V wr) (fun _ iv _=>fn.length - (intOf iv).toNat)
           case atStart=>exact ⟨0,Nat.zero_le _,rfl,by simpa [ens1] using HO5.out,HB5.out⟩
           case round=>
            clear x0 x1 x2 x3 x4 x5 x6 x7 x8 x9 x10 x11 x12 xf
            obtain ⟨j,hj,rfl,ho,hb⟩:=hrel
            obtain ⟨v4,rfl⟩ : ∃ q,q=u3:=⟨_,rfl⟩
            have HO6:=hI ho
            have HB6:=hI hb
            obtain ⟨x0,x1,x2,x3,x4,x5,x6,x7,x8,x9,x10,x11,x12,xf⟩:=cellz13 (HBX.out _ hb)
            clear ho hb HO5 HB5
            by_cases hlt : j < fn.length
            ·have hst:=ens1_take BindO.Fn.nm 6 8 0 64 hlt
             obtain ⟨b1,o1,rfl,hb1,hc⟩:=Lg.at_ BindO.Fn.len (Lg.keep BindO.Fn.stays (Keep.below HB6.out) HR.out.2.2.2.2.2.2.1) hlt
             obtain ⟨el,hel⟩ : ∃ y,fn[j]=y:=⟨_,rfl⟩
             rw [hel] at hst hc
             obtain ⟨y,hy⟩ : ∃ y,BindO.Fn.nm el=y:=⟨_,rfl⟩
             rw [hy] at hst
             have c0 : wr.cell? ⟨b1,o1 + j * 3,none⟩=some (.string (str y)):=by have h:=hc 0 (sv (BindO.Fn.nm el)) (by cases el;rfl);rw [hy] at h;simpa [sv] using h
             have HST:=hI hst
             have k0 : (0 : Int)≤(j : Int):=by omega
             have k1 : (j : Int) < (fn.length : Int):=by omega
             clear hst hc hy hel
             have HLE:=hI (show (([] : List En) ++ ens1 1 2 4 12 (fl.map id) ++ ens1 2 3 0 16 (pr.map Pr.nm) ++ ens1 3 4 0 64 (gl.map Pr.nm) ++ ens1 4 5 2 126 (ob.map Ob.nm) ++ ens1 5 6 0 64 (vb.map Vb.nm) ++ ens1 6 8 0 64 ((fn.take j).map BindO.Fn.nm)).length≤8388608 by simp only [List.length_append,ens1_len,List.length_map,List.length_take,List.length_nil];omega)
             go_wp2_with (at_builtin;refine Sk.wpList_append elE rfl _ _ rfl rfl (Sk.Own.below HO6.out (made rfl).2.2) (some ⟨wr.heap.size,0,none⟩) 1 1 [(⟨y,6,8,(j : Nat),(j : Nat) + 0,64⟩ : En)] rfl (Sk.rd_lit (enc:=En.e) wr 122 [(⟨y,6,8,(j : Nat),(j : Nat) + 0,64⟩ : En)] _ (by simp [En.e,sv]) 1 rfl) (by have:=HLE.out;unfold maxLen;omega) (by have:=HLE.out;omega) (by have:=HB6.out.size;simp;omega) ?_;intro v5 w5 ho5 hb5 _ _ _;have HO5:=hI ho5;have HB5:=hI ((HB6.out.trans ((made (w:=wr) rfl).2.2.mono HB6.out.size)).trans hb5);clear ho5 hb5)
             go_roundw
             case rel=>exact ⟨j + 1,by omega,by go_num,by rw [HST.out,← List.append_assoc];exact HO5.out,HB5.out⟩
             case measure=>simp [intOf];omega
            ·obtain rfl : j=fn.length:=by omega
             have ho:=HO6.out
             rw [List.take_length] at ho
             clear HO6
             have HO6:=hI ho
             clear ho
             go_wp2_with fail
             go_loopw [3,10] (fun v iv wr=>∃ j : Nat,j≤dm.length∧iv=.int .i64 (j : Int)∧Sk.Own En.e 6 122 wr V.heap.size v (([] : List En) ++ ens1 1 2 4 12 (fl.map id) ++ ens1 2 3 0 16 (pr.map Pr.nm) ++ ens1 3 4 0 64 (gl.map Pr.nm) ++ ens1 4 5 2 126 (ob.map Ob.nm) ++ ens1 5 6 0 64 (vb.map Vb.nm) ++ ens1 6 8 0 64 (fn.map BindO.Fn.nm) ++ ens1 7 9 0 16 ((dm.take j).map BindO.Fn.nm))∧Below V.heap.size V wr) (fun _ iv _=>dm.length - (intOf iv).toNat)
             case atStart=>exact ⟨0,Nat.zero_le _,rfl,by simpa [ens1] using HO6.out,HB6.out⟩
             case round=>
              clear x0 x1 x2 x3 x4 x5 x6 x7 x8 x9 x10 x11 x12 xf
              obtain ⟨j,hj,rfl,ho,hb⟩:=hrel
              obtain ⟨v4,rfl⟩ : ∃ q,q=u3:=⟨_,rfl⟩
              have HO7:=hI ho
              have HB7:=hI hb
              obtain ⟨x0,x1,x2,x3,x4,x5,x6,x7,x8,x9,x10,x11,x12,xf⟩:=cellz13 (HBX.out _ hb)
              clear ho hb HO6 HB6
              by_cases hlt : j < dm.length
              ·have hst:=ens1_take BindO.Fn.nm 7 9 0 16 hlt
               obtain ⟨b1,o1,rfl,hb1,hc⟩:=Lg.at_ BindO.Fn.len (Lg.keep BindO.Fn.stays (Keep.below HB7.out) HR.out.2.2.2.2.2.2.2) hlt
               obtain ⟨el,hel⟩ : ∃ y,dm[j]=y:=⟨_,rfl⟩
               rw [hel] at hst hc
               obtain ⟨y,hy⟩ : ∃ y,BindO.Fn.nm el=y:=⟨_,rfl⟩
               rw [hy] at hst
               have c0 : wr.cell? ⟨b1,o1 + j * 3,none⟩=some (.string (str y)):=by have h:=hc 0 (sv (BindO.Fn.nm el)) (by cases el;rfl);rw [hy] at h;simpa [sv] using h
               have HST:=hI hst
               have k0 : (0 : Int)≤(j : Int):=by omega
               have k1 : (j : Int) < (dm.length : Int):=by omega
               clear hst hc hy hel
               have HLE:=hI (show (([] : List En) ++ ens1 1 2 4 12 (fl.map id) ++ ens1 2 3 0 16 (pr.map Pr.nm) ++ ens1 3 4 0 64 (gl.map Pr.nm) ++ ens1 4 5 2 126 (ob.map Ob.nm) ++ ens1 5 6 0 64 (vb.map Vb.nm) ++ ens1 6 8 0 64 (fn.map BindO.Fn.nm) ++ ens1 7 9 0 16 ((dm.take j).map BindO.Fn.nm)).length≤8388608 by simp only [List.length_append,ens1_len,List.length_map,List.length_take,List.length_nil];omega)
               go_wp2_with (at_builtin;refine Sk.wpList_append elE rfl _ _ rfl rfl (Sk.Own.below HO7.out (made rfl).2.2) (some ⟨wr.heap.size,0,none⟩) 1 1 [(⟨y,7,9,(j : Nat),(j : Nat) + 0,16⟩ : En)] rfl (Sk.rd_lit (enc:=En.e) wr 122 [(⟨y,7,9,(j : Nat),(j : Nat) + 0,16⟩ : En)] _ (by simp [En.e,sv]) 1 rfl) (by have:=HLE.out;unfold maxLen;omega) (by have:=HLE.out;omega) (by have:=HB7.out.size;simp;omega) ?_;intro v5 w5 ho5 hb5 _ _ _;have HO5:=hI ho5;have HB5:=hI ((HB7.out.trans ((made (w:=wr) rfl).2.2.mono HB7.out.size)).trans hb5);clear ho5 hb5)
               go_roundw
               case rel=>exact ⟨j + 1,by omega,by go_num,by rw [HST.out,← List.append_assoc];exact HO5.out,HB5.out⟩
               case measure=>simp [intOf];omega
              ·obtain rfl : j=dm.length:=by omega
               have ho:=HO7.out
               rw [List.take_length] at ho
               clear HO7
               have HO7:=hI ho
               clear ho
               have ho:=HO7.out
               rw [List.nil_append] at ho
               obtain ⟨A9,c9,rfl,_,_⟩:=ho.shape
               have HF:=hI ho
               clear ho
               generalize hfin : ens1 1 2 4 12 (fl.map id) ++ ens1 2 3 0 16 (pr.map Pr.nm) ++ ens1 3 4 0 64 (gl.map Pr.nm) ++ ens1 4 5 2 126 (ob.map Ob.nm) ++ ens1 5 6 0 64 (vb.map Vb.nm) ++ ens1 6 8 0 64 (fn.map BindO.Fn.nm) ++ ens1 7 9 0 16 (dm.map BindO.Fn.nm)=fin at HF HEQ
               clear hfin
               go_wp2_with fail
               go_ret
               rw [HEQ.out]
               exact ⟨A9,c9,rfl,HF.out.rd,HBV.out.trans (HB7.out.mono HBV.out.size)⟩
end Go.Proofs.YteibcfpepdbflaaGreat.MkA
