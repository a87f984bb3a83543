/- bind.Texts: the texts of a source, each once. Conditions: the source is of bulk at most 1048576. -/
import Derived.Test.YteibcfpepdbflaaGreatTxW
import Derived.Laws.EntriesVeiled
open Go.Lib renaming hid → hI
namespace Go.Proofs.YteibcfpepdbflaaGreat.TxA
open Go Go.RowKit Go.Maps BindP BindD BindO BindW BindG BindX BindB BindT BindJ BindU TxW
open Byt (str)
theorem cellz13 {w : World} {g : Nat} {x0 x1 x2 x3 x4 x5 x6 x7 x8 x9 x10 x11 x12 : Value} {t : TypeId} (h : w.heap[g]?=some (.cells #[x0,x1,x2,x3,x4,x5,x6,x7,x8,x9,x10,x11,x12] t (0,0))) : w.cell? ⟨g,0,none⟩=some x0∧w.cell? ⟨g,1,none⟩=some x1∧w.cell? ⟨g,2,none⟩=some x2∧w.cell? ⟨g,3,none⟩=some x3∧w.cell? ⟨g,4,none⟩=some x4∧w.cell? ⟨g,5,none⟩=some x5∧w.cell? ⟨g,6,none⟩=some x6∧w.cell? ⟨g,7,none⟩=some x7∧w.cell? ⟨g,8,none⟩=some x8∧w.cell? ⟨g,9,none⟩=some x9∧w.cell? ⟨g,10,none⟩=some x10∧w.cell? ⟨g,11,none⟩=some x11∧w.cell? ⟨g,12,none⟩=some x12∧∀ o,w.frozen? ⟨g,o,none⟩=false:=by
 refine ⟨by simp [World.cell?,h],by simp [World.cell?,h],by simp [World.cell?,h],by simp [World.cell?,h],by simp [World.cell?,h],by simp [World.cell?,h],by simp [World.cell?,h],by simp [World.cell?,h],by simp [World.cell?,h],by simp [World.cell?,h],by simp [World.cell?,h],by simp [World.cell?,h],by simp [World.cell?,h],fun o=>by simp [World.frozen?,h]⟩
theorem cellz10 {w : World} {g : Nat} {x0 x1 x2 x3 x4 x5 x6 x7 x8 x9 : Value} {t : TypeId} (h : w.heap[g]?=some (.cells #[x0,x1,x2,x3,x4,x5,x6,x7,x8,x9] t (0,0))) : w.cell? ⟨g,0,none⟩=some x0∧w.cell? ⟨g,1,none⟩=some x1∧w.cell? ⟨g,2,none⟩=some x2∧w.cell? ⟨g,3,none⟩=some x3∧w.cell? ⟨g,4,none⟩=some x4∧w.cell? ⟨g,5,none⟩=some x5∧w.cell? ⟨g,6,none⟩=some x6∧w.cell? ⟨g,7,none⟩=some x7∧w.cell? ⟨g,8,none⟩=some x8∧w.cell? ⟨g,9,none⟩=some x9∧∀ o,w.frozen? ⟨g,o,none⟩=false:=by
 refine ⟨by simp [World.cell?,h],by simp [World.cell?,h],by simp [World.cell?,h],by simp [World.cell?,h],by simp [World.cell?,h],by simp [World.cell?,h],by simp [World.cell?,h],by simp [World.cell?,h],by simp [World.cell?,h],by simp [World.cell?,h],fun o=>by simp [World.frozen?,h]⟩
theorem cellz4 {w : World} {g : Nat} {x0 x1 x2 x3 : Value} {t : TypeId} (h : w.heap[g]?=some (.cells #[x0,x1,x2,x3] t (0,0))) : w.cell? ⟨g,0,none⟩=some x0∧w.cell? ⟨g,1,none⟩=some x1∧w.cell? ⟨g,2,none⟩=some x2∧w.cell? ⟨g,3,none⟩=some x3∧∀ o,w.frozen? ⟨g,o,none⟩=false:=by
 refine ⟨by simp [World.cell?,h],by simp [World.cell?,h],by simp [World.cell?,h],by simp [World.cell?,h],fun o=>by simp [World.frozen?,h]⟩
theorem cellz3 {w : World} {g : Nat} {x0 x1 x2 : Value} {t : TypeId} (h : w.heap[g]?=some (.cells #[x0,x1,x2] t (0,0))) : w.cell? ⟨g,0,none⟩=some x0∧w.cell? ⟨g,1,none⟩=some x1∧w.cell? ⟨g,2,none⟩=some x2∧∀ o,w.frozen? ⟨g,o,none⟩=false:=by
 refine ⟨by simp [World.cell?,h],by simp [World.cell?,h],by simp [World.cell?,h],fun o=>by simp [World.frozen?,h]⟩
structure Sx (w0 : World) (Bs : Nat) (cs : Array Value) (Bm Bo Bc Ba : Nat) (l : List S) (w : World) : Prop where
 tx : ∃ v D,Tx w0.heap.size Bm Bo Bc Ba l v D w
 box : w.heap[Bs]?=some (.cells cs 29 (0,0))
 low : Below w0.heap.size w0 w
def SxV (w0 : World) (Bs : Nat) (cs : Array Value) (Bm Bo Bc Ba : Nat) (l : List S) (w : World) (e : Ending) (w' : World) : Prop:=e=.returned (.tuple #[])∧Sx w0 Bs cs Bm Bo Bc Ba l w'∧Turn w0.heap.size Bm w w'
section
variable {w0 : World} {Bs : Nat} {cs : Array Value} {Bm Bo Bc Ba : Nat} {l : List S} {w : World}
theorem Sx.ab (h : Sx w0 Bs cs Bm Bo Bc Ba l w) : w.cell? ⟨Ba,0,none⟩=some (adder Bc Bo):=by
 obtain ⟨v,D,h⟩:=h.tx
 exact (cell1 h.ab).1
theorem Sx.grown (h : Sx w0 Bs cs Bm Bo Bc Ba l w) {w' : World} (hb : Below w.heap.size w w') : Sx w0 Bs cs Bm Bo Bc Ba l w':=by
 obtain ⟨v,D,ht⟩:=h.tx
 exact ⟨⟨v,D,ht.grown hb⟩,(hb.block _ (Array.getElem?_eq_some_iff.1 h.box).1).trans h.box,h.low.trans (hb.mono h.low.size)⟩
theorem Sx.turned (h : Sx w0 Bs cs Bm Bo Bc Ba l w) {l2 : List S} {w' : World} {e : Ending} (hv : TxV w0.heap.size Bm Bo Bc Ba l2 w e w') : SxV w0 Bs cs Bm Bo Bc Ba l2 w e w':=by
 obtain ⟨v,D,ht⟩:=h.tx
 obtain ⟨es,clock,hm,_⟩:=ht.map
 refine ⟨hv.1,⟨hv.2.1,hv.2.2.keep Bs _ h.box (fun e=>?_) (fun _ _ c=>?_) (fun _ _ c=>?_),h.low.trans hv.2.2.low⟩,hv.2.2⟩
 ·have:=h.box;rw [e,hm] at this;cases this
 ·injection c with _ c _;exact absurd c (by decide)
 ·injection c with _ c _;exact absurd c (by decide)
theorem add_s (s : S) (hs : s.length≤4194304) (hl : l.length≤4194304) (h : Sx w0 Bs cs Bm Bo Bc Ba l w) : Calls Tryz.prog 67 #[.string (str s),.pointer (some ⟨Bc,0,none⟩),.pointer (some ⟨Bo,0,none⟩)] w (SxV w0 Bs cs Bm Bo Bc Ba (l ++ [s]) w):=by
 obtain ⟨v,D,ht⟩:=h.tx
 exact (add_i l s v D w hs hl ht).mono fun e w' hv=>h.turned hv
theorem some_s (s : S) (hs : s.length≤4194304) (hl : l.length≤4194304) (h : Sx w0 Bs cs Bm Bo Bc Ba l w) : Calls Tryz.prog 68 #[.string (str s),.pointer (some ⟨Ba,0,none⟩)] w (SxV w0 Bs cs Bm Bo Bc Ba (l ++ someT s) w):=by
 obtain ⟨v,D,ht⟩:=h.tx
 exact (some_i l s v D w hs hl ht).mono fun e w' hv=>h.turned hv
theorem block_s (sl : List St) (A : Option Addr) (c : Nat) (hsl : Ls top w0 A c sl) (hn : nB (stPs sl)≤1048576) (hl : l.length + nB (stPs sl)≤4194304) (h : Sx w0 Bs cs Bm Bo Bc Ba l w) : Calls Tryz.prog 69 #[.slice A sl.length c,.pointer (some ⟨Ba,0,none⟩)] w (SxV w0 Bs cs Bm Bo Bc Ba (l ++ said (stPs sl)) w):=by
 obtain ⟨v,D,ht⟩:=h.tx
 exact (block_i w0 rfl l sl A c v D w hsl hn hl h.low ht).mono fun e w' hv=>h.turned hv
end
theorem Turn.cells {n0 Bm : Nat} {W W' : World} (h : Turn n0 Bm W W') {b : Nat} {cs : Array Value} {t : TypeId} (hb : W.heap[b]?=some (.cells cs t (0,0))) (hm : ∀ (cs : Array Value) (t : TypeId) (fr : Nat × Nat),W.heap[Bm]? ≠ some (.cells cs t fr)) (h1 : t ≠ 9) (h2 : t ≠ 22) : W'.heap[b]?=some (.cells cs t (0,0)):=(h.trn hm).keep b cs t _ hb h1 h2
theorem Sx.nocells {w0 : World} {Bs : Nat} {cs : Array Value} {Bm Bo Bc Ba : Nat} {l : List S} {w : World} (h : Sx w0 Bs cs Bm Bo Bc Ba l w) : ∀ (cs : Array Value) (t : TypeId) (fr : Nat × Nat),w.heap[Bm]? ≠ some (.cells cs t fr):=by
 intro cs t fr c
 obtain ⟨v,D,ht⟩:=h.tx
 obtain ⟨es,clock,hm,_⟩:=ht.map
 rw [hm] at c
 cases c
def you : S:=[121,111,117,114,115,101,108,102]
def xtT (l : List Xt) : List S:=l.flatMap fun x=>someT x.els
def obT (o : Ob) : List S:=o.ti :: (someT o.tx ++ xtT o.xt.l)
def ruT (l : List Rl) : List S:=l.flatMap fun r=>said (stPs r.body.l)
def fnT (l : List BindO.Fn) : List S:=l.flatMap fun r=>said (stPs r.body.l)
def adds (t : So) : List S:=[t.ti,t.by_,you] ++ t.ob.l.flatMap obT ++ ruT t.ru.l ++ fnT t.fn.l ++ fnT t.dm.l
theorem someT_len (s : S) : (someT s).length≤1:=by unfold someT;split <;> simp
theorem flat_len {α : Type} {f : α→List S} {m : α→Nat} (h : ∀ x,(f x).length≤m x) : ∀ l : List α,(l.flatMap f).length≤(l.map m).sum
 | []=>by simp
 | x :: l=>by
  have h1:=h x
  have h2:=flat_len h l
  simp only [List.flatMap_cons,List.length_append,List.map_cons,List.sum_cons]
  omega
theorem xtT_len (l : List Xt) : (xtT l).length≤(l.map Xt.m).sum:=flat_len (fun x=>by have:=someT_len x.els;unfold Xt.m;omega) l
theorem obT_len (o : Ob) : (obT o).length≤Ob.m o:=by
 have h1:=someT_len o.tx
 have h2:=xtT_len o.xt.l
 unfold obT Ob.m
 simp only [List.length_cons,List.length_append]
 omega
theorem ruT_len (l : List Rl) : (ruT l).length≤(l.map Rl.m).sum:=flat_len (fun x=>by have:=said_le.2 (stPs x.body.l);unfold Rl.m;omega) l
theorem fnT_len (l : List BindO.Fn) : (fnT l).length≤(l.map BindO.Fn.m).sum:=flat_len (fun x=>by have:=said_le.2 (stPs x.body.l);unfold BindO.Fn.m;omega) l
theorem take_flat {α : Type} (f : α→List S) {l : List α} {j : Nat} (h : j < l.length) : (l.take (j + 1)).flatMap f=(l.take j).flatMap f ++ f l[j]:=by
 rw [List.take_succ_eq_append_getElem h,List.flatMap_append]
 simp
theorem take_sum {α : Type} (m : α→Nat) {l : List α} {j : Nat} (h : j < l.length) : ((l.take j).map m).sum + m l[j]≤(l.map m).sum:=by
 have h1:=congrArg (fun q=>(q.map m).sum) (List.take_append_drop (j + 1) l)
 simp only [List.map_append,List.sum_append] at h1
 rw [List.take_succ_eq_append_getElem h] at h1
 simp only [List.map_append,List.sum_append,List.map_cons,List.map_nil,List.sum_cons,List.sum_nil] at h1
 omega
set_option maxRecDepth 100000 in
set_option maxHeartbeats 16000000 in
theorem texts_i (t : So) (w : World) (hr : So.R top w t) (hm : So.m t≤1048576) :
  Calls Tryz.prog 21 #[.agg (So.e t).toArray] w fun e w'=>∃ A c,e=.returned (.slice A ((adds t).foldl wth []).length c)∧Sq.Rd sv w' A ((adds t).foldl wth []).length ((adds t).foldl wth [])∧Below w.heap.size w w':=by
 obtain ⟨ti,by_,st,re,mx,⟨fA,fc,fl⟩,⟨pA,pc,pr⟩,⟨gA,gc,gl⟩,⟨oA,oc,ob⟩,⟨vA,vc,vb⟩,⟨rA,rc,ru⟩,⟨nA,nc,fn⟩,⟨dA,dc,dm⟩⟩:=t
 have HR:=hI hr
 simp only [So.m] at hm
 have HM:=hI hm
 have HAD:=hI (show adds ⟨ti,by_,st,re,mx,⟨fA,fc,fl⟩,⟨pA,pc,pr⟩,⟨gA,gc,gl⟩,⟨oA,oc,ob⟩,⟨vA,vc,vb⟩,⟨rA,rc,ru⟩,⟨nA,nc,fn⟩,⟨dA,dc,dm⟩⟩=[ti,by_,you] ++ ob.flatMap obT ++ ruT ru ++ fnT fn ++ fnT dm from rfl)
 have lo:=sum_len (m:=Ob.m) (fun x=>by unfold Ob.m;omega) ob
 have lr:=sum_len (m:=Rl.m) (fun x=>by unfold Rl.m;omega) ru
 have ln:=sum_len (m:=BindO.Fn.m) (fun x=>by unfold BindO.Fn.m;omega) fn
 have ld:=sum_len (m:=BindO.Fn.m) (fun x=>by unfold BindO.Fn.m;omega) dm
 have zO : ob.length≤1048576:=by omega
 have zR : ru.length≤1048576:=by omega
 have zN : fn.length≤1048576:=by omega
 have zD : dm.length≤1048576:=by omega
 have hao:=flat_len obT_len ob
 have har:=ruT_len ru
 have han:=fnT_len fn
 have had:=fnT_len dm
 have HL1:=hI (show ti.length≤4194304∧by_.length≤4194304 by omega)
 have HLA:=hI (show (ob.flatMap obT).length + (ruT ru).length + (fnT fn).length + (fnT dm).length≤1048576 by omega)
 have HSO:=hI (show (ob.map Ob.m).sum≤1048576∧(ru.map Rl.m).sum≤1048576∧(fn.map BindO.Fn.m).sum≤1048576∧(dm.map BindO.Fn.m).sum≤1048576 by omega)
 clear hr hm lo lr ln ld hao har han had
 show Calls Tryz.prog 21 #[.agg #[.string (str ti),.string (str by_),.string (str st),.int .i64 re,.int .i64 mx,.slice fA fl.length fc,.slice pA pr.length pc,.slice gA gl.length gc,.slice oA ob.length oc,.slice vA vb.length vc,.slice rA ru.length rc,.slice nA fn.length nc,.slice dA dm.length dc]] w _
 have hmm:=@run_makeMap Tryz.prog
 go_enter Tryz.func21,Tryz.ntmps21
 obtain ⟨W3,hW3⟩ : ∃ W,((((w.alloc (.cells #[.string (str ti),.string (str by_),.string (str st),.int .i64 re,.int .i64 mx,.slice fA fl.length fc,.slice pA pr.length pc,.slice gA gl.length gc,.slice oA ob.length oc,.slice vA vb.length vc,.slice rA ru.length rc,.slice nA fn.length nc,.slice dA dm.length dc] 29)).alloc (.cells #[.slice none 0 0] 22)).alloc (.map #[] 0)).alloc (.cells #[.map (some (w.heap.size + 1 + 1))] 138)).alloc (.cells #[adder (w.heap.size + 1 + 1 + 1) (w.heap.size + 1)] 139)=W:=⟨_,rfl⟩
 have hs3 : Sx w w.heap.size #[.string (str ti),.string (str by_),.string (str st),.int .i64 re,.int .i64 mx,.slice fA fl.length fc,.slice pA pr.length pc,.slice gA gl.length gc,.slice oA ob.length oc,.slice vA vb.length vc,.slice rA ru.length rc,.slice nA fn.length nc,.slice dA dm.length dc] (w.heap.size + 1 + 1) (w.heap.size + 1) (w.heap.size + 1 + 1 + 1) (w.heap.size + 1 + 1 + 1 + 1) [] W3:=by
  obtain ⟨V1,hV1⟩ : ∃ V,w.alloc (.cells #[.string (str ti),.string (str by_),.string (str st),.int .i64 re,.int .i64 mx,.slice fA fl.length fc,.slice pA pr.length pc,.slice gA gl.length gc,.slice oA ob.length oc,.slice vA vb.length vc,.slice rA ru.length rc,.slice nA fn.length nc,.slice dA dm.length dc] 29)=V:=⟨_,rfl⟩
  rw [hV1] at hW3
  obtain ⟨V2,hV2⟩ : ∃ V,V1.alloc (.cells #[.slice none 0 0] 22)=V:=⟨_,rfl⟩
  rw [hV2] at hW3
  have hmp:=World.ownsMap_made V2 Tryz.prog 9 (plainElem (H:=Unit) Tryz.prog 3)
  obtain ⟨V3,hV3⟩ : ∃ V,V2.alloc (.map #[] 0)=V:=⟨_,rfl⟩
  rw [hV3] at hW3 hmp
  obtain ⟨V4,hV4⟩ : ∃ V,V3.alloc (.cells #[.map (some (w.heap.size + 1 + 1))] 138)=V:=⟨_,rfl⟩
  rw [hV4] at hW3
  obtain ⟨m1,s1,b1⟩:=made hV1
  obtain ⟨m2,s2,b2⟩:=made hV2
  obtain ⟨m3,s3,b3⟩:=made hV3
  obtain ⟨m4,s4,b4⟩:=made hV4
  obtain ⟨m5,s5,b5⟩:=made hW3
  have hm4:=hV4 ▸ hmp.alloc (.cells #[.map (some (w.heap.size + 1 + 1))] 138)
  have hm5:=hW3 ▸ hm4.alloc (.cells #[adder (w.heap.size + 1 + 1 + 1) (w.heap.size + 1)] 139)
  rw [s1] at m2 s2
  rw [s2] at m3 s3 hm5
  rw [s3] at m4 s4
  rw [s4] at m5
  have bl : Below w.heap.size w W3:=b1.trans ((b2.mono (by omega)).trans ((b3.mono (by omega)).trans ((b4.mono (by omega)).trans (b5.mono (by omega)))))
  exact ⟨⟨.slice none 0 0,.map [],(b5.block _ (by omega)).trans ((b4.block _ (by omega)).trans ((b3.block _ (by omega)).trans m2)),(b5.block _ (by omega)).trans m4,m5,hm5,cnt_nil,Sq.own_nil _ _,by omega,by omega⟩,(b5.block _ (by omega)).trans ((b4.block _ (by omega)).trans ((b3.block _ (by omega)).trans ((b2.block _ (by omega)).trans m1))),bl⟩
 have HS3:=hI hs3
 clear hs3
 go_upto_region 6 with fail
 generalize w.heap.size + 1=Bo at HS3 ⊢
 generalize Bo + 1=Bm at HS3 ⊢
 generalize Bm + 1=Bc at HS3 ⊢
 generalize Bc + 1=Ba at HS3 ⊢
 clear hW3 hmm
 obtain ⟨Bs,hBs⟩ : ∃ q,w.heap.size=q:=⟨_,rfl⟩
 rw [hBs] at HS3 ⊢
 clear hBs
 have zab:=HS3.out.ab
 obtain ⟨x0,x1,x2,x3,x4,x5,x6,x7,x8,x9,x10,x11,x12,xf⟩:=cellz13 HS3.out.box
 go_wp2_with fail
 refine (add_s ti HL1.out.1 (by simp) HS3.out).mono ?_
 rintro e W4 ⟨rfl,hs,ht⟩
 have HS4:=hI hs
 have HT4:=hI ht
 clear hs ht zab x0 x1 x2 x3 x4 x5 x6 x7 x8 x9 x10 x11 x12 xf
 have zab:=HS4.out.ab
 obtain ⟨x0,x1,x2,x3,x4,x5,x6,x7,x8,x9,x10,x11,x12,xf⟩:=cellz13 HS4.out.box
 go_wp2_with fail
 refine (add_s by_ HL1.out.2 (by simp) HS4.out).mono ?_
 rintro e W5 ⟨rfl,hs,ht⟩
 have HS5:=hI hs
 have HT5:=hI ht
 clear hs ht zab x0 x1 x2 x3 x4 x5 x6 x7 x8 x9 x10 x11 x12 xf
 have zab:=HS5.out.ab
 obtain ⟨x0,x1,x2,x3,x4,x5,x6,x7,x8,x9,x10,x11,x12,xf⟩:=cellz13 HS5.out.box
 go_wp2_with fail
 refine (add_s you (by decide) (by simp) HS5.out).mono ?_
 rintro e W6 ⟨rfl,hs,ht⟩
 have HS6:=hI hs
 have HT6:=hI ht
 clear hs ht zab x0 x1 x2 x3 x4 x5 x6 x7 x8 x9 x10 x11 x12 xf
 have zab:=HS6.out.ab
 obtain ⟨x0,x1,x2,x3,x4,x5,x6,x7,x8,x9,x10,x11,x12,xf⟩:=cellz13 HS6.out.box
 go_wp2_with fail
 go_loopw [35] (fun iv wr=>∃ j : Nat,j≤ob.length∧iv=.int .i64 (j : Int)∧Sx w Bs #[.string (str ti),.string (str by_),.string (str st),.int .i64 re,.int .i64 mx,.slice fA fl.length fc,.slice pA pr.length pc,.slice gA gl.length gc,.slice oA ob.length oc,.slice vA vb.length vc,.slice rA ru.length rc,.slice nA fn.length nc,.slice dA dm.length dc] Bm Bo Bc Ba ([ti,by_,you] ++ (ob.take j).flatMap obT) wr) (fun iv _=>ob.length - (intOf iv).toNat)
 case atStart=>exact ⟨0,Nat.zero_le _,rfl,by simpa using HS6.out⟩
 case round=>
  clear zab x0 x1 x2 x3 x4 x5 x6 x7 x8 x9 x10 x11 x12 xf
  obtain ⟨j,hj,rfl,hs⟩:=hrel
  have HS7:=hI hs
  clear hs HS6
  by_cases hlt : j < ob.length
  ·obtain ⟨b1,o1,rfl,hb1,hc⟩:=Lg.at_ Ob.len (Lg.keep Ob.stays (Keep.below HS7.out.low) HR.out.2.2.2.1) hlt
   obtain ⟨⟨onm,oti,oin,otx,orm,⟨a1,c1_,l1⟩,⟨a2,c2_,l2⟩,⟨a3,c3_,l3⟩,⟨a4,c4_,l4⟩,⟨xA,xc,xl⟩⟩,hy⟩ : ∃ y,ob[j]=y:=⟨_,rfl⟩
   have HRD:=hI (HR.out.2.2.2.1.2 _ (List.getElem_mem hlt))
   have HNX:=hI (show (ob.take (j + 1)).flatMap obT=(ob.take j).flatMap obT ++ (oti :: (someT otx ++ xtT xl)) by rw [take_flat _ hlt,hy];rfl)
   have hxl:=sum_len (m:=Xt.m) (fun x=>by unfold Xt.m;omega) xl
   have htk:=take_sum Ob.m hlt
   have hlj:=flat_len obT_len (ob.take j)
   rw [hy] at htk hc HRD
   have HZ:=hI (show oti.length≤1048576∧otx.length≤1048576∧(xl.map Xt.m).sum≤1048576∧((ob.take j).flatMap obT).length≤1048576 by
    have h2:=HSO.out.1
    have h3 : oti.length≤Ob.m ⟨onm,oti,oin,otx,orm,⟨a1,c1_,l1⟩,⟨a2,c2_,l2⟩,⟨a3,c3_,l3⟩,⟨a4,c4_,l4⟩,⟨xA,xc,xl⟩⟩∧otx.length≤Ob.m ⟨onm,oti,oin,otx,orm,⟨a1,c1_,l1⟩,⟨a2,c2_,l2⟩,⟨a3,c3_,l3⟩,⟨a4,c4_,l4⟩,⟨xA,xc,xl⟩⟩∧(xl.map Xt.m).sum≤Ob.m ⟨onm,oti,oin,otx,orm,⟨a1,c1_,l1⟩,⟨a2,c2_,l2⟩,⟨a3,c3_,l3⟩,⟨a4,c4_,l4⟩,⟨xA,xc,xl⟩⟩:=by unfold Ob.m;simp only [];omega
    refine ⟨?_,?_,?_,?_⟩ <;> omega)
   have zx : xl.length≤1048576:=by have:=HZ.out.2.2.1;omega
   clear hxl
   have c0 : wr.cell? ⟨b1,o1 + j * 10,none⟩=some (.string (str onm)):=hc 0 _ rfl
   have c1 : wr.cell? ⟨b1,o1 + j * 10 + 1,none⟩=some (.string (str oti)):=hc 1 _ rfl
   have c2 : wr.cell? ⟨b1,o1 + j * 10 + 2,none⟩=some (.string (str oin)):=hc 2 _ rfl
   have c3 : wr.cell? ⟨b1,o1 + j * 10 + 3,none⟩=some (.string (str otx)):=hc 3 _ rfl
   have c4 : wr.cell? ⟨b1,o1 + j * 10 + 4,none⟩=some (.bool orm):=hc 4 _ rfl
   have c5 : wr.cell? ⟨b1,o1 + j * 10 + 5,none⟩=some (.slice a1 l1.length c1_):=hc 5 _ rfl
   have c6 : wr.cell? ⟨b1,o1 + j * 10 + 6,none⟩=some (.slice a2 l2.length c2_):=hc 6 _ rfl
   have c7 : wr.cell? ⟨b1,o1 + j * 10 + 7,none⟩=some (.slice a3 l3.length c3_):=hc 7 _ rfl
   have c8 : wr.cell? ⟨b1,o1 + j * 10 + 8,none⟩=some (.slice a4 l4.length c4_):=hc 8 _ rfl
   have c9 : wr.cell? ⟨b1,o1 + j * 10 + 9,none⟩=some (.slice xA xl.length xc):=hc 9 _ rfl
   have k0 : (0 : Int)≤(j : Int):=by omega
   have k1 : (j : Int) < (ob.length : Int):=by omega
   obtain ⟨wa,hwa⟩ : ∃ W1,wr.alloc (.cells #[.string (str onm),.string (str oti),.string (str oin),.string (str otx),.bool orm,.slice a1 l1.length c1_,.slice a2 l2.length c2_,.slice a3 l3.length c3_,.slice a4 l4.length c4_,.slice xA xl.length xc] 63)=W1:=⟨_,rfl⟩
   obtain ⟨m1,s1,b1'⟩:=made hwa
   obtain ⟨pb,hpb⟩ : ∃ q,wr.heap.size=q:=⟨_,rfl⟩
   rw [hpb] at m1
   have HSA:=hI (HS7.out.grown b1')
   have HOB:=hI m1
   have zab:=HSA.out.ab
   obtain ⟨y0,y1,y2,y3,y4,y5,y6,y7,y8,y9,yf⟩:=cellz10 m1
   clear hc hy htk hlj b1' s1 m1
   go_wp2_with fail
   refine (add_s oti (by have:=HZ.out.1;omega) (by have:=HZ.out.2.2.2;simp only [List.length_append,List.length_cons,List.length_nil];omega) HSA.out).mono ?_
   rintro e Wb ⟨rfl,hs,ht⟩
   have HSB:=hI hs
   have HOB2:=hI (Turn.cells ht HOB.out HSA.out.nocells (by decide) (by decide))
   clear hs ht zab y0 y1 y2 y3 y4 y5 y6 y7 y8 y9 yf
   have zab:=HSB.out.ab
   obtain ⟨y0,y1,y2,y3,y4,y5,y6,y7,y8,y9,yf⟩:=cellz10 HOB2.out
   go_wp2_with fail
   refine (some_s otx (by have:=HZ.out.2.1;omega) (by have:=HZ.out.2.2.2;simp only [List.length_append,List.length_cons,List.length_nil];omega) HSB.out).mono ?_
   rintro e Wc ⟨rfl,hs,ht⟩
   have HSC:=hI hs
   have HOB3:=hI (Turn.cells ht HOB2.out HSB.out.nocells (by decide) (by decide))
   clear hs ht zab y0 y1 y2 y3 y4 y5 y6 y7 y8 y9 yf
   obtain ⟨y0,y1,y2,y3,y4,y5,y6,y7,y8,y9,yf⟩:=cellz10 HOB3.out
   go_wp2_with fail
   go_loopw [50] (fun iv wr=>∃ i : Nat,i≤xl.length∧iv=.int .i64 (i : Int)∧Sx w Bs #[.string (str ti),.string (str by_),.string (str st),.int .i64 re,.int .i64 mx,.slice fA fl.length fc,.slice pA pr.length pc,.slice gA gl.length gc,.slice (some ⟨b1,o1,none⟩) ob.length oc,.slice vA vb.length vc,.slice rA ru.length rc,.slice nA fn.length nc,.slice dA dm.length dc] Bm Bo Bc Ba ([ti,by_,you] ++ (ob.take j).flatMap obT ++ [oti] ++ someT otx ++ xtT (xl.take i)) wr) (fun iv _=>xl.length - (intOf iv).toNat)
   case atStart=>exact ⟨0,Nat.zero_le _,rfl,by simpa [xtT] using HSC.out⟩
   case round=>
    clear y0 y1 y2 y3 y4 y5 y6 y7 y8 y9 yf
    obtain ⟨i,hi,rfl,hs⟩:=hrel
    have HSD:=hI hs
    clear hs
    by_cases hlt2 : i < xl.length
    ·obtain ⟨b2,o2,rfl,hb2,hc⟩:=Lg.at_ Xt.len (Lg.keep Xt.stays (Keep.below HSD.out.low) HRD.out.2.2.2.2) hlt2
     obtain ⟨⟨xd,xto,xel,⟨hA,hc_,hl⟩⟩,hy⟩ : ∃ y,xl[i]=y:=⟨_,rfl⟩
     have HNY:=hI (show xtT (xl.take (i + 1))=xtT (xl.take i) ++ someT xel by unfold xtT;rw [take_flat _ hlt2,hy])
     have htk:=take_sum Xt.m hlt2
     have hlj:=xtT_len (xl.take i)
     have hsl:=someT_len otx
     rw [hy] at htk hc
     have HZ2:=hI (show xel.length≤1048576∧(xtT (xl.take i)).length≤1048576 by
      have h2:=HZ.out.2.2.1
      have h3 : xel.length≤Xt.m ⟨xd,xto,xel,⟨hA,hc_,hl⟩⟩:=by unfold Xt.m;simp only [];omega
      constructor <;> omega)
     have HSL:=hI hsl
     have d0 : wr.cell? ⟨b2,o2 + i * 4,none⟩=some (.int .i64 xd):=hc 0 _ rfl
     have d1 : wr.cell? ⟨b2,o2 + i * 4 + 1,none⟩=some (.string (str xto)):=hc 1 _ rfl
     have d2 : wr.cell? ⟨b2,o2 + i * 4 + 2,none⟩=some (.string (str xel)):=hc 2 _ rfl
     have d3 : wr.cell? ⟨b2,o2 + i * 4 + 3,none⟩=some (.slice hA hl.length hc_):=hc 3 _ rfl
     have k2 : (0 : Int)≤(i : Int):=by omega
     have k3 : (i : Int) < (xl.length : Int):=by omega
     obtain ⟨wd,hwd⟩ : ∃ W1,wr.alloc (.cells #[.int .i64 xd,.string (str xto),.string (str xel),.slice hA hl.length hc_] 106)=W1:=⟨_,rfl⟩
     obtain ⟨m1,s1,b1'⟩:=made hwd
     obtain ⟨pd,hpd⟩ : ∃ q,wr.heap.size=q:=⟨_,rfl⟩
     rw [hpd] at m1
     have HSE:=hI (HSD.out.grown b1')
     obtain ⟨y0,y1,y2,y3,yf⟩:=cellz4 m1
     clear hc hy htk hlj hsl b1' s1 m1
     go_wp2_with fail
     refine (some_s xel (by have:=HZ2.out.1;omega) (by have:=HZ.out.2.2.2;have:=HZ2.out.2;have:=HSL.out;simp only [List.length_append,List.length_cons,List.length_nil];omega) HSE.out).mono ?_
     rintro e We ⟨rfl,hs,_⟩
     have HSF:=hI hs
     clear hs
     go_wp2_with fail
     go_roundw
     case rel=>exact ⟨i + 1,by omega,by go_num,by rw [HNY.out,← List.append_assoc];exact HSF.out⟩
     case measure=>simp [intOf];omega
    ·obtain rfl : i=xl.length:=by omega
     have hs:=HSD.out
     rw [List.take_length] at hs
     have HSD2:=hI hs
     clear hs
     go_wp2_with fail
     go_roundw
     case rel=>exact ⟨j + 1,by omega,by go_num,by rw [HNX.out];simpa only [List.append_assoc,List.cons_append,List.nil_append] using HSD2.out⟩
     case measure=>simp [intOf];omega
  ·obtain rfl : j=ob.length:=by omega
   have hs:=HS7.out
   rw [List.take_length] at hs
   have HS8:=hI hs
   clear hs HS7
   have zab:=HS8.out.ab
   obtain ⟨x0,x1,x2,x3,x4,x5,x6,x7,x8,x9,x10,x11,x12,xf⟩:=cellz13 HS8.out.box
   go_wp2_with fail
   go_loopw [63] (fun iv wr=>∃ j : Nat,j≤ru.length∧iv=.int .i64 (j : Int)∧Sx w Bs #[.string (str ti),.string (str by_),.string (str st),.int .i64 re,.int .i64 mx,.slice fA fl.length fc,.slice pA pr.length pc,.slice gA gl.length gc,.slice oA ob.length oc,.slice vA vb.length vc,.slice rA ru.length rc,.slice nA fn.length nc,.slice dA dm.length dc] Bm Bo Bc Ba ([ti,by_,you] ++ ob.flatMap obT ++ ruT (ru.take j)) wr) (fun iv _=>ru.length - (intOf iv).toNat)
   case atStart=>exact ⟨0,Nat.zero_le _,rfl,by simpa [ruT] using HS8.out⟩
   case round=>
    clear zab x0 x1 x2 x3 x4 x5 x6 x7 x8 x9 x10 x11 x12 xf
    obtain ⟨j,hj,rfl,hs⟩:=hrel
    have HS9:=hI hs
    clear hs HS8
    by_cases hlt : j < ru.length
    ·obtain ⟨b1,o1,rfl,hb1,hc⟩:=Lg.at_ Rl.len (Lg.keep Rl.stays (Keep.below HS9.out.low) HR.out.2.2.2.2.2.1) hlt
     obtain ⟨⟨rvb,rph,rno,rse,⟨wA,wc,wl⟩,⟨bA,bc,bl⟩⟩,hy⟩ : ∃ y,ru[j]=y:=⟨_,rfl⟩
     have HRD:=hI (HR.out.2.2.2.2.2.1.2 _ (List.getElem_mem hlt))
     have HNX:=hI (show ruT (ru.take (j + 1))=ruT (ru.take j) ++ said (stPs bl) by unfold ruT;rw [take_flat _ hlt,hy])
     have htk:=take_sum Rl.m hlt
     have hlj:=ruT_len (ru.take j)
     rw [hy] at htk hc HRD
     have HZ:=hI (show nB (stPs bl)≤1048576∧([ti,by_,you] ++ ob.flatMap obT ++ ruT (ru.take j)).length + nB (stPs bl)≤4194304 by
      have h1:=HLA.out
      have h2:=HSO.out
      have h3 : nB (stPs bl)≤Rl.m ⟨rvb,rph,rno,rse,⟨wA,wc,wl⟩,⟨bA,bc,bl⟩⟩:=by unfold Rl.m;simp only [];omega
      simp only [List.length_append,List.length_cons,List.length_nil] at h1 ⊢
      constructor <;> omega)
     have c0 : wr.cell? ⟨b1,o1 + j * 6,none⟩=some (.string (str rvb)):=hc 0 _ rfl
     have c1 : wr.cell? ⟨b1,o1 + j * 6 + 1,none⟩=some (.int .i64 rph):=hc 1 _ rfl
     have c2 : wr.cell? ⟨b1,o1 + j * 6 + 2,none⟩=some (.string (str rno)):=hc 2 _ rfl
     have c3 : wr.cell? ⟨b1,o1 + j * 6 + 3,none⟩=some (.string (str rse)):=hc 3 _ rfl
     have c4 : wr.cell? ⟨b1,o1 + j * 6 + 4,none⟩=some (.slice wA wl.length wc):=hc 4 _ rfl
     have c5 : wr.cell? ⟨b1,o1 + j * 6 + 5,none⟩=some (.slice bA bl.length bc):=hc 5 _ rfl
     have k0 : (0 : Int)≤(j : Int):=by omega
     have k1 : (j : Int) < (ru.length : Int):=by omega
     obtain ⟨wa,hwa⟩ : ∃ W1,wr.alloc (.cells #[.string (str rvb),.int .i64 rph,.string (str rno),.string (str rse),.slice wA wl.length wc,.slice bA bl.length bc] 52)=W1:=⟨_,rfl⟩
     obtain ⟨m1,s1,b1'⟩:=made hwa
     obtain ⟨pb,hpb⟩ : ∃ q,wr.heap.size=q:=⟨_,rfl⟩
     rw [hpb] at m1
     have HSA:=hI (HS9.out.grown b1')
     have zab:=HSA.out.ab
     obtain ⟨y0,y1,y2,y3,y4,y5,yf⟩:=cells6 m1
     clear hc hy htk hlj b1' s1 m1
     go_wp2_with fail
     refine (block_s bl bA bc HRD.out.2 HZ.out.1 HZ.out.2 HSA.out).mono ?_
     rintro e W' ⟨rfl,hs,_⟩
     have HSB:=hI hs
     clear hs
     go_wp2_with fail
     go_roundw
     case rel=>exact ⟨j + 1,by omega,by go_num,by rw [HNX.out,← List.append_assoc];exact HSB.out⟩
     case measure=>simp [intOf];omega
    ·obtain rfl : j=ru.length:=by omega
     have hs:=HS9.out
     rw [List.take_length] at hs
     have HS10:=hI hs
     clear hs HS9
     have zab:=HS10.out.ab
     obtain ⟨x0,x1,x2,x3,x4,x5,x6,x7,x8,x9,x10,x11,x12,xf⟩:=cellz13 HS10.out.box
     go_wp2_with fail
     go_loopw [75] (fun iv wr=>∃ j : Nat,j≤fn.length∧iv=.int .i64 (j : Int)∧Sx w Bs #[.string (str ti),.string (str by_),.string (str st),.int .i64 re,.int .i64 mx,.slice fA fl.length fc,.slice pA pr.length pc,.slice gA gl.length gc,.slice oA ob.length oc,.slice vA vb.length vc,.slice rA ru.length rc,.slice nA fn.length nc,.slice dA dm.length dc] Bm Bo Bc Ba ([ti,by_,you] ++ ob.flatMap obT ++ ruT ru ++ fnT (fn.take j)) wr) (fun iv _=>fn.length - (intOf iv).toNat)
     case atStart=>exact ⟨0,Nat.zero_le _,rfl,by simpa [fnT] using HS10.out⟩
     case round=>
      clear zab x0 x1 x2 x3 x4 x5 x6 x7 x8 x9 x10 x11 x12 xf
      obtain ⟨j,hj,rfl,hs⟩:=hrel
      have HS11:=hI hs
      clear hs HS10
      by_cases hlt : j < fn.length
      ·obtain ⟨b1,o1,rfl,hb1,hc⟩:=Lg.at_ BindO.Fn.len (Lg.keep BindO.Fn.stays (Keep.below HS11.out.low) HR.out.2.2.2.2.2.2.1) hlt
       obtain ⟨⟨fnm,⟨pA_,pc_,pl⟩,⟨bA,bc,bl⟩⟩,hy⟩ : ∃ y,fn[j]=y:=⟨_,rfl⟩
       have HRD:=hI (HR.out.2.2.2.2.2.2.1.2 _ (List.getElem_mem hlt))
       have HNX:=hI (show fnT (fn.take (j + 1))=fnT (fn.take j) ++ said (stPs bl) by unfold fnT;rw [take_flat _ hlt,hy])
       have htk:=take_sum BindO.Fn.m hlt
       have hlj:=fnT_len (fn.take j)
       rw [hy] at htk hc HRD
       have HZ:=hI (show nB (stPs bl)≤1048576∧([ti,by_,you] ++ ob.flatMap obT ++ ruT ru ++ fnT (fn.take j)).length + nB (stPs bl)≤4194304 by
        have h1:=HLA.out
        have h2:=HSO.out
        have h3 : nB (stPs bl)≤BindO.Fn.m ⟨fnm,⟨pA_,pc_,pl⟩,⟨bA,bc,bl⟩⟩:=by unfold BindO.Fn.m;simp only [];omega
        simp only [List.length_append,List.length_cons,List.length_nil] at h1 ⊢
        constructor <;> omega)
       have c0 : wr.cell? ⟨b1,o1 + j * 3,none⟩=some (.string (str fnm)):=hc 0 _ rfl
       have c1 : wr.cell? ⟨b1,o1 + j * 3 + 1,none⟩=some (.slice pA_ pl.length pc_):=hc 1 _ rfl
       have c2 : wr.cell? ⟨b1,o1 + j * 3 + 2,none⟩=some (.slice bA bl.length bc):=hc 2 _ rfl
       have k0 : (0 : Int)≤(j : Int):=by omega
       have k1 : (j : Int) < (fn.length : Int):=by omega
       obtain ⟨wa,hwa⟩ : ∃ W1,wr.alloc (.cells #[.string (str fnm),.slice pA_ pl.length pc_,.slice bA bl.length bc] 94)=W1:=⟨_,rfl⟩
       obtain ⟨m1,s1,b1'⟩:=made hwa
       obtain ⟨pb,hpb⟩ : ∃ q,wr.heap.size=q:=⟨_,rfl⟩
       rw [hpb] at m1
       have HSA:=hI (HS11.out.grown b1')
       have zab:=HSA.out.ab
       obtain ⟨y0,y1,y2,yf⟩:=cellz3 m1
       clear hc hy htk hlj b1' s1 m1
       go_wp2_with fail
       refine (block_s bl bA bc HRD.out.2 HZ.out.1 HZ.out.2 HSA.out).mono ?_
       rintro e W' ⟨rfl,hs,_⟩
       have HSB:=hI hs
       clear hs
       go_wp2_with fail
       go_roundw
       case rel=>exact ⟨j + 1,by omega,by go_num,by rw [HNX.out,← List.append_assoc];exact HSB.out⟩
       case measure=>simp [intOf];omega
      ·obtain rfl : j=fn.length:=by omega
       have hs:=HS11.out
       rw [List.take_length] at hs
       have HS12:=hI hs
       clear hs HS11
       have zab:=HS12.out.ab
       obtain ⟨x0,x1,x2,x3,x4,x5,x6,x7,x8,x9,x10,x11,x12,xf⟩:=cellz13 HS12.out.box
       go_wp2_with fail
       go_loopw [87] (fun iv wr=>∃ j : Nat,j≤dm.length∧iv=.int .i64 (j : Int)∧Sx w Bs #[.string (str ti),.string (str by_),.string (str st),.int .i64 re,.int .i64 mx,.slice fA fl.length fc,.slice pA pr.length pc,.slice gA gl.length gc,.slice oA ob.length oc,.slice vA vb.length vc,.slice rA ru.length rc,.slice nA fn.length nc,.slice dA dm.length dc] Bm Bo Bc Ba ([ti,by_,you] ++ ob.flatMap obT ++ ruT ru ++ fnT fn ++ fnT (dm.take j)) wr) (fun iv _=>dm.length - (intOf iv).toNat)
       case atStart=>exact ⟨0,Nat.zero_le _,rfl,by simpa [fnT] using HS12.out⟩
       case round=>
        clear zab x0 x1 x2 x3 x4 x5 x6 x7 x8 x9 x10 x11 x12 xf
        obtain ⟨j,hj,rfl,hs⟩:=hrel
        have HS13:=hI hs
        clear hs HS12
        by_cases hlt : j < dm.length
        ·obtain ⟨b1,o1,rfl,hb1,hc⟩:=Lg.at_ BindO.Fn.len (Lg.keep BindO.Fn.stays (Keep.below HS13.out.low) HR.out.2.2.2.2.2.2.2) hlt
         obtain ⟨⟨fnm,⟨pA_,pc_,pl⟩,⟨bA,bc,bl⟩⟩,hy⟩ : ∃ y,dm[j]=y:=⟨_,rfl⟩
         have HRD:=hI (HR.out.2.2.2.2.2.2.2.2 _ (List.getElem_mem hlt))
         have HNX:=hI (show fnT (dm.take (j + 1))=fnT (dm.take j) ++ said (stPs bl) by unfold fnT;rw [take_flat _ hlt,hy])
         have htk:=take_sum BindO.Fn.m hlt
         have hlj:=fnT_len (dm.take j)
         rw [hy] at htk hc HRD
         have HZ:=hI (show nB (stPs bl)≤1048576∧([ti,by_,you] ++ ob.flatMap obT ++ ruT ru ++ fnT fn ++ fnT (dm.take j)).length + nB (stPs bl)≤4194304 by
          have h1:=HLA.out
          have h2:=HSO.out
          have h3 : nB (stPs bl)≤BindO.Fn.m ⟨fnm,⟨pA_,pc_,pl⟩,⟨bA,bc,bl⟩⟩:=by unfold BindO.Fn.m;simp only [];omega
          simp only [List.length_append,List.length_cons,List.length_nil] at h1 ⊢
          constructor <;> omega)
         have c0 : wr.cell? ⟨b1,o1 + j * 3,none⟩=some (.string (str fnm)):=hc 0 _ rfl
         have c1 : wr.cell? ⟨b1,o1 + j * 3 + 1,none⟩=some (.slice pA_ pl.length pc_):=hc 1 _ rfl
         have c2 : wr.cell? ⟨b1,o1 + j * 3 + 2,none⟩=some (.slice bA bl.length bc):=hc 2 _ rfl
         have k0 : (0 : Int)≤(j : Int):=by omega
         have k1 : (j : Int) < (dm.length : Int):=by omega
         obtain ⟨wa,hwa⟩ : ∃ W1,wr.alloc (.cells #[.string (str fnm),.slice pA_ pl.length pc_,.slice bA bl.length bc] 94)=W1:=⟨_,rfl⟩
         obtain ⟨m1,s1,b1'⟩:=made hwa
         obtain ⟨pb,hpb⟩ : ∃ q,wr.heap.size=q:=⟨_,rfl⟩
         rw [hpb] at m1
         have HSA:=hI (HS13.out.grown b1')
         have zab:=HSA.out.ab
         obtain ⟨y0,y1,y2,yf⟩:=cellz3 m1
         clear hc hy htk hlj b1' s1 m1
         go_wp2_with fail
         refine (block_s bl bA bc HRD.out.2 HZ.out.1 HZ.out.2 HSA.out).mono ?_
         rintro e W' ⟨rfl,hs,_⟩
         have HSB:=hI hs
         clear hs
         go_wp2_with fail
         go_roundw
         case rel=>exact ⟨j + 1,by omega,by go_num,by rw [HNX.out,← List.append_assoc];exact HSB.out⟩
         case measure=>simp [intOf];omega
        ·obtain rfl : j=dm.length:=by omega
         have hs:=HS13.out
         rw [List.take_length] at hs
         have HS14:=hI hs
         clear hs HS13
         have hs:=HS14.out
         have had:=HAD.out
         generalize [ti,by_,you] ++ ob.flatMap obT ++ ruT ru ++ fnT fn ++ fnT dm=fin at hs had
         have HFS:=hI hs
         have HFA:=hI had
         clear hs had HS14
         obtain ⟨v,D,ht⟩:=HFS.out.tx
         obtain ⟨vA_,vc_,rfl,_,_⟩:=ht.own.shape
         have HT:=hI ht
         obtain ⟨z0,zf⟩:=cell1 ht.box
         clear ht
         go_wp2_with fail
         go_ret
         rw [HFA.out]
         exact ⟨vA_,vc_,rfl,HT.out.own.rd,HFS.out.low⟩
end Go.Proofs.YteibcfpepdbflaaGreat.TxA
