/- The binder's block, if its row answers. Conditions: those of the row. -/
import Derived.Test.YteibcfpepdbflaaGreatBindB
open Go.Lib renaming hid → hI
namespace Go.Proofs.YteibcfpepdbflaaGreat.BindS
open Go Go.RowKit BindP BindD BindO BindW BindN BindG BindX BindB
open Byt (str)
theorem elS : Sq.El Tryz.prog 22 9 sv [] 16 where
 und:=Tryz.underlying22
 info:=by kernel_rfl
 cells:=fun _=>rfl
 one:=fun _=>rfl
theorem elT : Sk.El Tryz.prog 46 65 stE (.agg #[.int .i64 0,.int .i64 0,.string ⟨#[]⟩,.slice none 0 0,.slice none 0 0,.slice none 0 0]) 6 104 where
 und:=Tryz.underlying46
 info:=by kernel_rfl
 len:=stE_len
 one:=fun x u hu=>by cases x;simp [stE,sv] at hu;rcases hu with rfl | rfl | rfl | rfl | rfl | rfl <;> rfl
 zs:=rfl
 pos:=by omega
structure Stp (Bb : Nat) (lv : Value) (w : World) (lv' : Value) (w' : World) : Prop where
 os : w'.os=w.os
 tape : w'.tape=w.tape
 output : w'.output=w.output
 size : w.heap.size≤w'.heap.size
 block : ∀ b,b < w.heap.size→b ≠ Bb→lv.ownBlock ≠ some b→w'.heap[b]?=w.heap[b]?
 own : ∀ b,lv'.ownBlock=some b→lv.ownBlock=some b∨w.heap.size≤b
theorem Stp.refl (Bb : Nat) (lv : Value) (w : World) : Stp Bb lv w lv w:=⟨rfl,rfl,rfl,Nat.le_refl _,fun _ _ _ _=>rfl,fun _ h=>.inl h⟩
theorem Stp.trans {Bb : Nat} {lv lv1 lv2 : Value} {w w1 w2 : World} (h : Stp Bb lv w lv1 w1) (k : Stp Bb lv1 w1 lv2 w2) : Stp Bb lv w lv2 w2:=
 ⟨k.os.trans h.os,k.tape.trans h.tape,k.output.trans h.output,Nat.le_trans h.size k.size,fun b hb h1 h2=>(k.block b (Nat.lt_of_lt_of_le hb h.size) h1 (fun c=>by
  rcases h.own b c with e | e
  ·exact h2 e
  ·omega)).trans (h.block b hb h1 h2),fun b hb=>by
  rcases k.own b hb with e | e
  ·exact h.own b e
  ·exact .inr (Nat.le_trans h.size e)⟩
theorem Stp.below {Bb : Nat} {lv : Value} {w w' : World} (h : Below w.heap.size w w') : Stp Bb lv w lv w':=⟨h.os,h.tape,h.output,h.size,fun b hb _ _=>h.block b hb,fun _ h=>.inl h⟩
theorem Stp.low {Bb W : Nat} {lv lv' : Value} {w w' : World} (h : Stp Bb lv w lv' w') (hB : W≤Bb) (hl : ∀ b,lv.ownBlock=some b→W≤b) (hw : W≤w.heap.size) : Below W w w':=
 ⟨h.os,h.tape,h.output,h.size,fun b hb=>h.block b (by omega) (by omega) (fun c=>by have:=hl b c;omega)⟩
structure Bn (Bb W : Nat) (tv xv : Value) (w : World) (lv : Value) (lo : List S) : Prop where
 box : w.heap[Bb]?=some (.cells #[tv,xv,lv] 135 (0,0))
 own : Sq.Own sv 9 w W lv lo
 ne : lv.ownBlock ≠ some Bb
 le : W≤Bb
 lt : Bb < w.heap.size
theorem own_keep {w w' : World} {W : Nat} {lv : Value} {lo : List S} (h : Sq.Own sv 9 w W lv lo) (hk : ∀ g,lv.ownBlock=some g→w'.heap[g]?=w.heap[g]?) : Sq.Own sv 9 w' W lv lo:=by
 obtain ⟨h1,h2⟩:=h
 refine ⟨h1,h2.imp id ?_⟩
 rintro ⟨g,cap,cur,rfl,hB,hh,hr⟩
 exact ⟨g,cap,cur,rfl,hB,(hk g rfl).trans hh,hr⟩
theorem Bn.below {Bb W : Nat} {tv xv : Value} {w w' : World} {lv : Value} {lo : List S} (h : Bn Bb W tv xv w lv lo) (hb : Below w.heap.size w w') : Bn Bb W tv xv w' lv lo:=
 ⟨(hb.block _ h.lt).trans h.box,h.own.below hb,h.ne,h.le,Nat.lt_of_lt_of_le h.lt hb.size⟩
theorem Bn.set {Bb W : Nat} {tv xv : Value} {w : World} {lv : Value} {lo : List S} (h : Bn Bb W tv xv w lv lo) {g o : Nat} (hg : g ≠ Bb) (hl : lv.ownBlock ≠ some g) (v : Value) : Bn Bb W tv xv (w.setCell ⟨g,o,none⟩ v) lv lo:=by
 have hb : ∀ b,b ≠ g→(w.setCell ⟨g,o,none⟩ v).heap[b]?=w.heap[b]?:=fun b hb=>by simp [World.setCell,Array.getElem?_modify,Ne.symm hb]
 exact ⟨(hb _ (Ne.symm hg)).trans h.box,own_keep h.own (fun b e=>hb b (fun c=>hl (c ▸ e))),h.ne,h.le,by have:=h.lt;simp [World.setCell];exact this⟩
theorem Bn.lvlt {Bb W : Nat} {tv xv : Value} {w : World} {lv : Value} {lo : List S} (h : Bn Bb W tv xv w lv lo) {g : Nat} (hg : lv.ownBlock=some g) : W≤g∧g < w.heap.size:=World.ownsRow.lt h.own g hg
theorem Bn.app {Bb W : Nat} {tv xv : Value} {w w7 : World} {lv lv7 : Value} {lo l2 : List S} (h : Bn Bb W tv xv w lv lo) (ho : Sq.Own sv 9 w7 W lv7 l2) (hg : w.grownBy w7 lv.ownBlock) (hv : lv7.ownBlock=lv.ownBlock∨lv7.ownBlock=some w.heap.size) :
  Bn Bb W tv xv (w7.setCell ⟨Bb,2,none⟩ lv7) lv7 l2∧Stp Bb lv w lv7 (w7.setCell ⟨Bb,2,none⟩ lv7):=by
 have hs:=hg.size
 have h1:=h.lt
 have hb7 : w7.heap[Bb]?=some (.cells #[tv,xv,lv] 135 (0,0)):=(hg.block _ h.lt (Ne.symm h.ne)).trans h.box
 have hne : lv7.ownBlock ≠ some Bb:=by
  rcases hv with e | e
  ·rw [e];exact h.ne
  ·rw [e];intro c;injection c with c;omega
 refine ⟨⟨?_,own_keep ho (fun g e=>?_),hne,h.le,by simp [World.setCell];omega⟩,⟨hg.os,hg.tape,hg.output,by simp [World.setCell];exact hs,fun b hb h1 h2=>?_,fun b hb=>?_⟩⟩
 ·simp [World.setCell,Array.getElem?_modify,hb7]
 ·simp only [World.setCell,Array.getElem?_modify]
  rw [if_neg (fun c : Bb=g=>hne (c ▸ e))]
 ·simp only [World.setCell,Array.getElem?_modify]
  rw [if_neg (fun c : Bb=b=>h1 c.symm)]
  exact hg.block b hb (Ne.symm h2)
 ·rcases hv with e | e
  ·rw [e] at hb;exact .inl hb
  ·rw [e] at hb;injection hb with hb;exact .inr (by omega)
theorem Bn.blank {Bb W : Nat} {tv xv : Value} {w : World} {g n c : Nat} {lo : List S} (h : Bn Bb W tv xv w (.slice (some ⟨g,0,none⟩) n c) lo) (i : Nat) (x : S) :
  Bn Bb W tv xv (w.setCell ⟨g,i,none⟩ (sv x)) (.slice (some ⟨g,0,none⟩) n c) (lo.set i x)∧Stp Bb (.slice (some ⟨g,0,none⟩) n c) w (.slice (some ⟨g,0,none⟩) n c) (w.setCell ⟨g,i,none⟩ (sv x)):=by
 have hne : g ≠ Bb:=fun e=>h.ne (by rw [e];rfl)
 refine ⟨⟨?_,h.own.store i x,h.ne,h.le,by have:=h.lt;simp [World.setCell];exact this⟩,⟨rfl,rfl,rfl,by simp [World.setCell],fun b _ _ h2=>?_,fun b hb=>.inl hb⟩⟩
 ·simp only [World.setCell,Array.getElem?_modify]
  rw [if_neg (fun e : g=Bb=>hne e)]
  exact h.box
 ·simp only [World.setCell,Array.getElem?_modify]
  rw [if_neg (fun e : g=b=>h2 (by rw [e];rfl))]
theorem Bn.env {Bb W : Nat} {A1 A2 A3 : Option Addr} {n1 c1 n2 c2 n3 c3 : Nat} {t : List Nm} {tx lo : List S} {w0 w : World} (ht : Sk.Rd nmE w0 A1 n1 t) (hx : Sq.Rd sv w0 A2 n2 tx) (h1 : n1≤17592186043904) (h2 : n2≤17592186043904) (hW : W=w0.heap.size)
  (hb : Below W w0 w) (h : Bn Bb W (.slice A1 n1 c1) (.slice A2 n2 c2) w (.slice A3 n3 c3) lo) (hl : lo.length≤17592186043904) : Env w A1 n1 t A2 n2 tx A3 n3 lo:=by
 subst hW
 refine ⟨ht.below hb,hx.below hb,h.own.rd,h1,h2,?_⟩
 have:=h.own.rd.len
 omega
end Go.Proofs.YteibcfpepdbflaaGreat.BindS
namespace Go.Proofs.YteibcfpepdbflaaGreat.BindK
open Go Go.RowKit BindP BindD BindO BindW BindN BindG BindX BindB BindS
open Byt (str)
theorem Keep.stp {Bb m : Nat} {lv lv' : Value} {w w' : World} (h : Stp Bb lv w lv' w') (hm : Bb < m) : Keep (fun b=>m≤b∧lv.ownBlock ≠ some b) (fun b=>m≤b∧lv'.ownBlock ≠ some b) w w':=
 ⟨h.size,fun b hb hl=>⟨⟨hb.1,fun c=>by
  rcases h.own b c with e | e
  ·exact hb.2 e
  ·omega⟩,h.block b hl (by omega) hb.2⟩⟩
def RowV (Bb W : Nat) (tv xv : Value) (r : List Ps × List S) (lv : Value) (w : World) (e : Ending) (w' : World) : Prop:=
 ∃ (lv' : Value) (A' : Option Addr) (c' : Nat) (l' : List St),e=.returned (.slice A' l'.length c')∧stPs l'=r.1∧Bn Bb W tv xv w' lv' r.2∧Stp Bb lv w lv' w'∧Ls (fun b=>w.heap.size≤b∧lv'.ownBlock ≠ some b) w' A' c' l'
def RowC (t : List Nm) (tx : List S) (Bb W : Nat) (tv xv : Value) (w0 : World) (l : List St) : Prop:=∀ (A : Option Addr) (c : Nat) (w : World) (lv : Value) (lo : List S),Bn Bb W tv xv w lv lo→Below W w0 w→Ls top w0 A c l→nB (stPs l)≤1048576→lo.length + 2 * nB (stPs l)≤4194304 →
 Calls Tryz.prog 65 #[.pointer (some ⟨Bb,0,none⟩),.slice A l.length c] w (RowV Bb W tv xv (rowI t tx lo (stPs l)) lv w)
def BlkC (t : List Nm) (tx : List S) (Bb W : Nat) (tv xv : Value) (w0 : World) (l : List St) : Prop:=∀ (A : Option Addr) (c : Nat) (w : World) (lv : Value) (lo : List S),Bn Bb W tv xv w lv lo→Below W w0 w→Ls top w0 A c l→nB (stPs l)≤1048576→lo.length + 2 * nB (stPs l)≤4194304 →
 Calls Tryz.prog 110 #[.pointer (some ⟨Bb,0,none⟩),.slice A l.length c] w (RowV Bb W tv xv ((rowI t tx lo (stPs l)).1,BindP.blank lo.length (rowI t tx lo (stPs l)).2) lv w)
def bl (m i : Nat) (l : List S) : List S:=l.take m ++ List.replicate (i - m) [] ++ l.drop i
theorem bl_len {m i : Nat} {l : List S} (h1 : m≤i) (h2 : i≤l.length) : (bl m i l).length=l.length:=by
 unfold bl
 rw [List.length_append,List.length_append,List.length_take,List.length_replicate,List.length_drop]
 omega
theorem bl_first {m : Nat} {l : List S} : bl m m l=l:=by unfold bl;simp
theorem bl_last {m : Nat} {l : List S} : bl m l.length l=BindP.blank m l:=by unfold bl BindP.blank;simp
theorem bl_set {m i : Nat} {l : List S} (h1 : m≤i) (h2 : i < l.length) : (bl m i l).set i []=bl m (i + 1) l:=by
 unfold bl
 have e : (l.take m ++ List.replicate (i - m) ([] : S)).length=i:=by rw [List.length_append,List.length_take,List.length_replicate];omega
 rw [List.set_append_right _ _ (by omega),e,Nat.sub_self,List.drop_eq_getElem_cons h2,List.set_cons_zero,show i + 1 - m=(i - m) + 1 by omega,List.replicate_succ',List.append_assoc,List.append_assoc,List.append_assoc]
 rfl
theorem locs_le : (∀ p : Ps,locs1 p≤2 * nS p)∧∀ l : List Ps,locs l≤2 * nB l:=by
 have h : ∀ N : Nat,(∀ p : Ps,nS p≤N→locs1 p≤2 * nS p)∧∀ l : List Ps,nB l≤N→locs l≤2 * nB l:=by
  intro N
  induction N with
  | zero=>exact ⟨fun p hp=>by cases p;unfold nS at hp;omega,fun l hl=>by
    cases l with
    | nil=>simp [locs]
    | cons a l=>cases a;unfold nB nS at hl;omega⟩
  | succ N ih=>
   have h1 : ∀ p : Ps,nS p≤N + 1→locs1 p≤2 * nS p:=fun p hp=>by
    obtain ⟨k,n,s,ar,b,e⟩:=p
    unfold nS at hp ⊢
    unfold locs1
    have hb:=ih.2 b (by omega)
    have he:=ih.2 e (by omega)
    have hm : mine k≤2:=by unfold mine;split <;> (try split) <;> omega
    omega
   refine ⟨h1,fun l=>?_⟩
   induction l with
   | nil=>intro _;simp [locs]
   | cons a l ihl=>
    intro hl
    unfold nB at hl ⊢
    unfold locs
    have:=h1 a (by omega)
    have:=ihl (by omega)
    omega
 exact ⟨fun p=>(h _).1 p (Nat.le_refl _),fun l=>(h _).2 l (Nat.le_refl _)⟩
theorem row_len (t : List Nm) (tx : List S) (l : List Ps) (lo : List S) : (rowI t tx lo l).2.length≤lo.length + 2 * nB l:=by
 obtain ⟨q,h,hl⟩:=rowI_ext (t:=t) (tx:=tx) l lo
 have:=locs_le.2 l
 rw [h,List.length_append]
 omega
theorem row_ge (t : List Nm) (tx : List S) (l : List Ps) (lo : List S) : lo.length≤(rowI t tx lo l).2.length:=by
 obtain ⟨q,h,hl⟩:=rowI_ext (t:=t) (tx:=tx) l lo
 rw [h,List.length_append]
 omega
set_option maxRecDepth 100000 in
set_option maxHeartbeats 8000000 in
theorem block_w (t : List Nm) (tx : List S) (Bb W : Nat) (tv xv : Value) (w0 : World) (l : List St) (hrow : RowC t tx Bb W tv xv w0 l) : BlkC t tx Bb W tv xv w0 l:=by
 intro A c w lv lo hb hw hl hn hsz
 have HROW:=hI (hrow A c w lv lo hb hw hl hn hsz)
 obtain ⟨A3,c3,rfl,_,_⟩:=hb.own.shape
 have h1:=row_len t tx (stPs l) lo
 have h2:=row_ge t tx (stPs l) lo
 obtain ⟨r,hr⟩ : ∃ r,rowI t tx lo (stPs l)=r:=⟨_,rfl⟩
 rw [hr] at h1 h2 HROW
 have HR:=hI hr
 obtain ⟨m,hm⟩ : ∃ m,lo.length=m:=⟨_,rfl⟩
 rw [hm] at h1 h2 HROW hb hsz
 have HM:=hI hm
 have hm2 : r.2.length≤4194304:=by omega
 have HBL:=hI hb.lt
 obtain ⟨x0,x1,x2,xf⟩:=cells3 hb.box
 rw [hr,hm]
 clear hb hw hl hrow hsz hr hm h1
 go_enter Tryz.func110,Tryz.ntmps110
 go_wp2_with fail
 refine HROW.out.mono ?_
 rintro e w1 ⟨lv1,A',c',l',rfl,hp,hb1,hst,hls⟩
 obtain ⟨A4,c4,rfl,_,_⟩:=hb1.own.shape
 obtain ⟨q,hq⟩ : ∃ q,r.2.length=q:=⟨_,rfl⟩
 rw [hq] at h2 hm2 hb1 hst hls
 have HQ:=hI hq
 have HP:=hI hp
 have HST:=hI hst
 have HLS:=hI hls
 have HB1:=hI hb1
 clear hp hst hls hb1 hq x0 x1 x2 xf
 go_wp2_with fail
 go_loopw [7] (fun iv wr=>∃ i : Nat,m≤i∧i≤q∧iv=.int .i64 (i : Int)∧Bn Bb W tv xv wr (.slice A4 q c4) (bl m i r.2)∧Stp Bb (.slice A4 q c4) w1 (.slice A4 q c4) wr) (fun iv _=>q - (intOf iv).toNat)
 case atStart=>exact ⟨m,Nat.le_refl _,h2,rfl,by rw [bl_first];exact HB1.out,Stp.refl _ _ _⟩
 case round=>
  obtain ⟨i,hi1,hi2,rfl,hbn,hst⟩:=hrel
  have HBN:=hI hbn
  have HST2:=hI hst
  obtain ⟨x0,x1,x2,xf⟩:=cells3 hbn.box
  have hlen : (bl m i r.2).length=q:=by rw [bl_len hi1 (by rw [HQ.out];exact hi2)];exact HQ.out
  by_cases hlt : i < q
  ·obtain ⟨g,rfl,_,_,hc,hf⟩:=hbn.own.at_ (by omega)
   have c0:=hc i (by omega)
   unfold sv at c0
   have ff:=hf i
   have HN:=hI (hbn.blank i [])
   rw [bl_set hi1 (by rw [HQ.out];exact hlt)] at HN
   have k0 : (0 : Int)≤(i : Int):=by omega
   have k1 : (i : Int) < (q : Int):=by omega
   clear hbn hst hc hf
   go_wp2_with fail
   go_roundw
   case rel=>exact ⟨i + 1,by omega,by omega,by go_num,HN.out.1,HST2.out.trans HN.out.2⟩
   case measure=>simp [intOf];omega
  ·obtain rfl : q=i:=by omega
   clear hbn hst hlen
   go_wp2_with fail
   go_ret
   refine ⟨_,_,_,_,rfl,by rw [HP.out],?_,HST.out.trans HST2.out,HLS.out.keep stays_s (Keep.stp HST2.out HBL.out)⟩
   have h:=HBN.out
   rw [← HQ.out,bl_last] at h
   rw [← HQ.out]
   exact h
end Go.Proofs.YteibcfpepdbflaaGreat.BindK
