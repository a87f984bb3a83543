/- bind.walk, bind.within: what the iterator owes to a loop whose rounds all go on. Conditions: the statements read. -/
import Derived.Test.YteibcfpepdbflaaGreatRngE
import Derived.Test.YteibcfpepdbflaaGreatBindJ
import Derived.Test.YteibcfpepdbflaaGreatBindO
open Go.Lib renaming hid → hI
namespace Go.Proofs.YteibcfpepdbflaaGreat.TxW
open Go Go.RowKit BindP BindD BindO BindW BindG BindX BindB BindT BindJ BindU RngE
open Byt (str)
attribute [local go_sem] Oper.semAt_some
mutual
def flat1 : St→List St
 | .mk k n s A c ar B cb b E ce e=>.mk k n s A c ar B cb b E ce e :: (flat b ++ flat e)
def flat : List St→List St
 | []=>[]
 | a :: l=>flat1 a ++ flat l
end
theorem flat_app : ∀ l1 l2 : List St,flat (l1 ++ l2)=flat l1 ++ flat l2
 | [],l2=>by simp [flat]
 | a :: l1,l2=>by simp only [List.cons_append,flat,flat_app l1 l2,List.append_assoc]
theorem flat_take {l : List St} {j : Nat} (h : j < l.length) : flat (l.take (j + 1))=flat (l.take j) ++ flat1 l[j]:=by
 rw [List.take_succ_eq_append_getElem h,flat_app]
 simp only [flat,List.append_nil]
def saidX : St→List S
 | .mk _ _ _ _ _ ar _ _ _ _ _ _=>saidA (exPs ar)
mutual
theorem said1_flat : ∀ x : St,said1 x.p=(flat1 x).flatMap saidX
 | .mk k n s A c ar B cb b E ce e=>by
  simp only [St.p,said1,flat1,List.flatMap_cons,List.flatMap_append,saidX]
  rw [said_flat b,said_flat e]
theorem said_flat : ∀ l : List St,said (stPs l)=(flat l).flatMap saidX
 | []=>by simp [stPs,said,flat]
 | a :: l=>by
  simp only [stPs,said,flat,List.flatMap_append]
  rw [said1_flat a,said_flat l]
end
structure Trn (n0 : Nat) (W W' : World) : Prop where
 low : Below n0 W W'
 keep : ∀ (b : Nat) (cs : Array Value) (t : TypeId) (fr : Nat × Nat),W.heap[b]?=some (.cells cs t fr)→t ≠ 9→t ≠ 22→W'.heap[b]?=some (.cells cs t fr)
theorem Trn.refl (n0 : Nat) (W : World) : Trn n0 W W:=⟨Below.refl _ _,fun _ _ _ _ h _ _=>h⟩
theorem Trn.trans {n0 : Nat} {A B C : World} (h : Trn n0 A B) (k : Trn n0 B C) : Trn n0 A C:=⟨h.low.trans k.low,fun b cs t fr hb h1 h2=>k.keep b cs t fr (h.keep b cs t fr hb h1 h2) h1 h2⟩
theorem Trn.below {n0 : Nat} {W W' : World} (h : Below W.heap.size W W') (hn : n0≤W.heap.size) : Trn n0 W W':=⟨h.mono hn,fun b _ _ _ hb _ _=>(h.block b (Array.getElem?_eq_some_iff.1 hb).1).trans hb⟩
theorem Trn.putObj {n0 : Nat} {w : World} (hn : n0≤w.heap.size) (W : World) (l : Nat) (o o' : Obj) (hl : w.heap.size≤l) (ho : W.heap[l]?=some o) (hc : o.isCells=false) : Trn n0 W (W.putObj l o'):=
 ⟨(Below.refl n0 W).grown (grownBy_putObj' W l o') (by have:=(Array.getElem?_eq_some_iff.1 ho).1;omega) (fun k e=>by injection e with e;omega),fun b cs t fr hb _ _=>(World.putObj_heap_other (fun e=>by subst e;rw [ho] at hb;injection hb with hb;subst hb;cases hc)).trans hb⟩
theorem _root_.Go.Proofs.YteibcfpepdbflaaGreat.BindU.Turn.trn {n0 Bm : Nat} {W W' : World} (h : Turn n0 Bm W W') (hm : ∀ (cs : Array Value) (t : TypeId) (fr : Nat × Nat),W.heap[Bm]? ≠ some (.cells cs t fr)) : Trn n0 W W':=
 ⟨h.low,fun b cs t fr hb h1 h2=>h.keep b _ hb (fun e=>by subst e;exact hm _ _ _ hb) (fun _ _ c=>by injection c with _ c _;exact h1 c) (fun _ _ c=>by injection c with _ c _;exact h2 c)⟩
set_option maxRecDepth 100000 in
set_option maxHeartbeats 4000000 in
theorem walk_y (w0 : World) (xs : List St) (l B : Nat) (J : List St→World→Prop) (hJ : AbidesFrom B J)
  (hY : ∀ pre x suf W1,xs=pre ++ x :: suf→J pre W1→YieldAt Fence.wide 1 Tryz.prog l #[.agg (stE x).toArray] W1 fun e W'=>e=.returned (.bool true)∧J (pre ++ [x]) W'∧Trn w0.heap.size W1 W') :
  ∀ (N : Nat) (sl : List St),nB (stPs sl)≤N→∀ (A : Option Addr) (c : Nat) (pre suf : List St) (W : World),Ls top w0 A c sl→xs=pre ++ flat sl ++ suf→Below w0.heap.size w0 W→nB (stPs sl)≤1048576→J pre W →
   Calls Tryz.prog 112 #[.slice A sl.length c,.func (.yield l) #[] #[]] W fun e W'=>e=.returned (.bool true)∧J (pre ++ flat sl) W'∧Trn w0.heap.size W W':=by
 intro N
 induction N using Nat.strongRecOn with
 | _ N ihN=>
  intro sl hlN A c pre suf W hsl hxs hlow hnB hJ0
  have hl : sl.length≤1048576:=by
   have h1:=sum_len (m:=fun x : St=>nS x.p) (fun x=>by cases x;unfold St.p nS;omega) sl
   rw [← nB_sum] at h1
   omega
  have HIH:=hI (show ∀ l' : List St,nB (stPs l') < N→_ from fun l' h=>ihN _ h l' (Nat.le_refl _))
  obtain ⟨m,hm⟩ : ∃ m,sl.length=m:=⟨_,rfl⟩
  have HM:=hI hm
  have HSL:=hI hsl
  have HXS:=hI hxs
  have HSZ:=hI (And.intro hlN hnB)
  have HJ:=hI hJ
  have HY:=hI hY
  rw [hm] at hl ⊢
  clear hm ihN hsl hxs hlN hnB hJ hY
  refine (callsIn_wide (n:=2)).1 ?_
  refine callsIn_of_wp Tryz.func112 rfl trivial ?_ rfl
  simp only [Tryz.ntmps112,List.size_toArray,List.length_cons,List.length_nil,Nat.reduceAdd,Nat.reduceSub,Array.replicate_succ,Array.replicate_zero,List.push_toArray,List.append_toArray,List.nil_append,List.cons_append]
  gi_wp2
  gi_loopw [9] (fun iv wr=>∃ j : Nat,j≤m∧iv=.int .i64 (j : Int)∧J (pre ++ flat (sl.take j)) wr∧Below w0.heap.size w0 wr∧Trn w0.heap.size W wr) (fun iv _=>m - (intOf iv).toNat)
  case atStart=>exact ⟨0,Nat.zero_le _,rfl,by simpa [flat] using hJ0,hlow,Trn.refl _ _⟩
  case round=>
   clear hJ0
   obtain ⟨j,hj,rfl,hJ1,hlw,htr⟩:=hrel
   have HJ1:=hI hJ1
   have HLW:=hI hlw
   have HTR:=hI htr
   clear hJ1 hlw htr
   by_cases hlt : j < m
   ·have hjl : j < sl.length:=by rw [HM.out];exact hlt
    obtain ⟨b1,o1,rfl,hb1,hc⟩:=Lg.at_ stE_len (HSL.out.keep stays_s (Keep.below HLW.out)) hjl
    have htk:=take_nB hjl
    have hft:=flat_take hjl
    obtain ⟨⟨k,n,s,Ca,ca,ar,Cb,cb,bo,Ce,ce,el⟩,hy1⟩ : ∃ y,sl[j]=y:=⟨_,rfl⟩
    have HP:=hI ((HSL.out.2 _ (hy1 ▸ List.getElem_mem hjl)).open_)
    rw [hy1] at hc htk hft
    unfold St.p nS at htk
    unfold flat1 at hft
    have HFT:=hI hft
    have hsz:=HSZ.out
    have HN1:=hI (show (nB (stPs bo) < N∧nB (stPs bo)≤1048576)∧(nB (stPs el) < N∧nB (stPs el)≤1048576) by omega)
    have c0 : wr.cell? ⟨b1,o1 + j * 6,none⟩=some (.int .i64 k):=hc 0 _ rfl
    have c1 : wr.cell? ⟨b1,o1 + j * 6 + 1,none⟩=some (.int .i64 n):=hc 1 _ rfl
    have c2 : wr.cell? ⟨b1,o1 + j * 6 + 2,none⟩=some (.string (str s)):=hc 2 _ rfl
    have c3 : wr.cell? ⟨b1,o1 + j * 6 + 3,none⟩=some (.slice Ca ar.length ca):=hc 3 _ rfl
    have c4 : wr.cell? ⟨b1,o1 + j * 6 + 4,none⟩=some (.slice Cb bo.length cb):=hc 4 _ rfl
    have c5 : wr.cell? ⟨b1,o1 + j * 6 + 5,none⟩=some (.slice Ce el.length ce):=hc 5 _ rfl
    have k0 : (0 : Int)≤(j : Int):=by omega
    have k1 : (j : Int) < (m : Int):=by omega
    clear hc htk hft hsz hy1 hjl
    obtain ⟨w1,hw1⟩ : ∃ W1,wr.alloc (.cells #[.int .i64 k,.int .i64 n,.string (str s),.slice Ca ar.length ca,.slice Cb bo.length cb,.slice Ce el.length ce] 65)=W1:=⟨_,rfl⟩
    obtain ⟨m1,s1,b1'⟩:=made hw1
    obtain ⟨pb,hpb⟩ : ∃ q,wr.heap.size=q:=⟨_,rfl⟩
    rw [hpb] at m1
    have HM1:=hI m1
    have HT1:=hI (show Trn w0.heap.size wr w1 from Trn.below b1' HLW.out.size)
    have HL1:=hI (show Below w0.heap.size w0 w1 from HLW.out.trans HT1.out.low)
    have HJ2:=hI (abides HJ.out HJ1.out b1')
    obtain ⟨fn,tmps,assign,body,hy,hR⟩:=HY.out (pre ++ flat (sl.take j)) (.mk k n s Ca ca ar Cb cb bo Ce ce el) (flat bo ++ (flat el ++ (flat (sl.drop (j + 1)) ++ suf))) w1 (by
     have h1:=HXS.out
     have h2:=congrArg flat (List.take_append_drop (j + 1) sl)
     rw [flat_app,HFT.out] at h2
     rw [h1,← h2]
     simp only [List.append_assoc,List.cons_append]) HJ2.out
    have hy2 : (Instr.yield l #[.agg #[.int .i64 k,.int .i64 n,.string (str s),.slice Ca ar.length ca,.slice Cb bo.length cb,.slice Ce el.length ce]]).run Tryz.prog w1=.ok (.round l fn tmps assign body) w1:=hy
    obtain ⟨x0,x1,x2,x3,x4,x5,xf⟩:=cells6 m1
    clear hy b1' s1 m1
    gi_wp2
    refine hR.mono ?_
    rintro e W2 ⟨rfl,hJ3,hk3⟩
    have HJ3:=hI hJ3
    have HT3:=hI (HT1.out.trans hk3)
    have HX3:=hI (hk3.keep _ _ _ _ HM1.out (by decide) (by decide))
    clear x0 x1 x2 x3 x4 x5 xf hJ3 hk3 hy2 hR hw1
    obtain ⟨x0,x1,x2,x3,x4,x5,xf⟩:=cells6 HX3.out
    gi_wp2
    refine ⟨trivial,?_⟩
    refine (callsIn_wide.2 (HIH.out bo HN1.out.1.1 Cb cb (pre ++ flat (sl.take j) ++ [St.mk k n s Ca ca ar Cb cb bo Ce ce el]) (flat el ++ (flat (sl.drop (j + 1)) ++ suf)) W2 HP.out.2.1 (by
     have h1:=HXS.out
     have h2:=congrArg flat (List.take_append_drop (j + 1) sl)
     rw [flat_app,HFT.out] at h2
     rw [h1,← h2]
     simp only [List.append_assoc,List.cons_append,List.nil_append]) (HLW.out.trans HT3.out.low) HN1.out.1.2 HJ3.out)).mono ?_
    rintro e W4 ⟨rfl,hJ4,hk4⟩
    have HJ4:=hI hJ4
    have HT4:=hI (HT3.out.trans hk4)
    have HX4:=hI (hk4.keep _ _ _ _ HX3.out (by decide) (by decide))
    clear x0 x1 x2 x3 x4 x5 xf hJ4 hk4
    obtain ⟨x0,x1,x2,x3,x4,x5,xf⟩:=cells6 HX4.out
    gi_wp2
    refine ⟨trivial,?_⟩
    refine (callsIn_wide.2 (HIH.out el HN1.out.2.1 Ce ce (pre ++ flat (sl.take j) ++ [St.mk k n s Ca ca ar Cb cb bo Ce ce el] ++ flat bo) (flat (sl.drop (j + 1)) ++ suf) W4 HP.out.2.2 (by
     have h1:=HXS.out
     have h2:=congrArg flat (List.take_append_drop (j + 1) sl)
     rw [flat_app,HFT.out] at h2
     rw [h1,← h2]
     simp only [List.append_assoc,List.cons_append,List.nil_append]) (HLW.out.trans HT4.out.low) HN1.out.2.2 HJ4.out)).mono ?_
    rintro e W5 ⟨rfl,hJ5,hk5⟩
    have HJ5:=hI hJ5
    have HT5:=hI (HT4.out.trans hk5)
    clear x0 x1 x2 x3 x4 x5 xf hJ5 hk5
    gi_wp2
    go_roundw
    case rel=>exact ⟨j + 1,by omega,by go_num,by rw [HFT.out];simpa only [List.append_assoc,List.cons_append,List.nil_append] using HJ5.out,HLW.out.trans HT5.out.low,HTR.out.trans HT5.out⟩
    case measure=>simp [intOf];omega
   ·obtain rfl : m=j:=by omega
    have HTK:=hI (show sl.take m=sl from List.take_of_length_le (by rw [HM.out];exact Nat.le_refl _))
    gi_wp2
    go_ret
    exact ⟨rfl,by have h:=HJ1.out;rw [HTK.out] at h;exact h,HTR.out⟩
theorem within_gives (w0 : World) (sl : List St) (A : Option Addr) (c : Nat) (hsl : Ls top w0 A c sl) (hn : nB (stPs sl)≤1048576) (W : World) (hlow : Below w0.heap.size w0 W) (Bx : Nat) (hx : W.heap[Bx]?=some (.cells #[.slice A sl.length c] 46 (0,0))) :
  Gives Tryz.prog 111 #[.pointer (some ⟨Bx,0,none⟩)] (fun x : St=>#[.agg (stE x).toArray]) (Trn w0.heap.size) (flat sl) W:=by
 intro l J W1 hb hJ hY hJ0
 have HX:=hI (cell1 ((hb.block _ (Array.getElem?_eq_some_iff.1 hx).1).trans hx))
 have HC:=hI (walk_y w0 (flat sl) l W1.heap.size J hJ hY _ sl (Nat.le_refl _) A c [] [] W1 hsl (by simp) (hlow.trans (hb.mono hlow.size)) hn hJ0)
 clear hx hb hJ hY hJ0 hlow hsl hn
 obtain ⟨c0,cf⟩:=HX.out
 show CallsIn Fence.wide 2 Tryz.prog 111 #[.func (.yield l) #[] #[],.pointer (some ⟨Bx,0,none⟩)] W1 _
 refine callsIn_of_wp Tryz.func111 rfl trivial ?_ rfl
 simp only [Tryz.ntmps111,List.size_toArray,List.length_cons,List.length_nil,Nat.reduceAdd,Nat.reduceSub,Array.replicate_succ,Array.replicate_zero,List.push_toArray,List.append_toArray,List.nil_append,List.cons_append]
 gi_wp2_with (refine ⟨trivial,?_⟩;gi_at_call 112;refine (callsIn_wide.2 HC.out).mono ?_;rintro e w1 ⟨rfl,hj,_⟩;have HJ:=hI hj;clear hj)
 go_end0
 exact ⟨⟨_,rfl⟩,HJ.out⟩
theorem within_i (v : Value) (w : World) (hv : ∃ A n c,v=.slice A n c) : Calls Tryz.prog 70 #[v] w fun e w'=>e=.returned (.func (.func 111) #[] #[.pointer (some ⟨w.heap.size,0,none⟩)])∧w'=w.alloc (.cells #[v] 46):=by
 obtain ⟨A,n,c,rfl⟩:=hv
 go_enter Tryz.func70,Tryz.ntmps70
 go_wp2_with fail
 go_ret
 exact ⟨rfl,rfl⟩
theorem Tx_own {n0 Bm Bo Bc Ba B : Nat} {l : List S} (hB : Bm < B) : OwnFrom B (fun (_ : Unit) W=>∃ v D,Tx n0 Bm Bo Bc Ba l v D W):=by
 rintro _ W W' row ⟨v,D,h⟩ hg hr
 have k : ∀ {b : Nat} {o : Obj},W.heap[b]?=some o→(o.isCells=true∨b < B)→W'.heap[b]?=some o:=fun {b o} hb ho=>by
  refine (hg.block b (Array.getElem?_eq_some_iff.1 hb).1 (fun e=>?_)).trans hb
  obtain ⟨h1,o',h2,h3⟩:=hr b e.symm
  rw [hb] at h2
  injection h2 with h2
  subst h2
  rcases ho with ho | ho
  ·rw [ho] at h3;cases h3
  ·omega
 obtain ⟨es,clock,hm,r⟩:=h.map
 refine ⟨v,D,k h.box (.inl rfl),k h.mb (.inl rfl),k h.ab (.inl rfl),⟨es,clock,k hm (.inr hB),r⟩,h.cnt,?_,h.le⟩
 obtain ⟨h1,h2⟩:=h.own
 refine ⟨h1,h2.imp id ?_⟩
 rintro ⟨g,cap,cur,e,hB2,hh,hr2⟩
 exact ⟨g,cap,cur,e,hB2,k hh (.inl rfl),hr2⟩
theorem Turn_own {n0 Bm B : Nat} {w : World} (hw : w.heap.size≤B) (hn : n0≤w.heap.size) : OwnFrom B (fun (_ : Unit) W=>Turn n0 Bm w W):=by
 rintro _ W W' row h hg hr
 have hs:=h.low.size
 refine ⟨h.low.trans ⟨hg.os,hg.tape,hg.output,hg.size,fun b hb=>hg.block b (Nat.lt_of_lt_of_le hb (Nat.le_trans hn hs)) (fun e=>?_)⟩,fun b o hb h1 h2 h3=>?_⟩
 ·have:=(hr b e.symm).1
  omega
 ·have hk:=h.keep b o hb h1 h2 h3
  refine (hg.block b (Array.getElem?_eq_some_iff.1 hk).1 (fun e=>?_)).trans hk
  have:=(hr b e.symm).1
  have:=(Array.getElem?_eq_some_iff.1 hb).1
  omega
theorem flat_rd {K : Nat→Prop} {w : World} : ∀ (N : Nat) (l : List St),nB (stPs l)≤N→(∀ x ∈ l,RdS K w x)→∀ y ∈ flat l,RdS K w y∧nS y.p≤nB (stPs l):=by
 intro N
 induction N using Nat.strongRecOn with
 | _ N ih=>
  intro l
  induction l with
  | nil=>intro _ _ y hy;simp [flat] at hy
  | cons a l ihl=>
   intro hN h y hy
   obtain ⟨k,n,s,A,c,ar,B,cb,b,E,ce,e⟩:=a
   have hr:=h _ (List.mem_cons_self ..)
   simp only [stPs,nB,St.p,nS] at hN ⊢
   simp only [flat,flat1,List.cons_append,List.mem_cons,List.mem_append] at hy
   rcases hy with rfl | (hy | hy) | hy
   ·exact ⟨hr,by simp only [St.p,nS];omega⟩
   ·have:=ih _ (by omega) b (Nat.le_refl _) hr.open_.2.1.2 y hy
    exact ⟨this.1,by omega⟩
   ·have:=ih _ (by omega) e (Nat.le_refl _) hr.open_.2.2.2 y hy
    exact ⟨this.1,by omega⟩
   ·have:=ihl (by omega) (fun x hx=>h x (List.mem_cons_of_mem _ hx)) y hy
    exact ⟨this.1,by omega⟩
theorem saidA_app (a b : List Pe) : saidA (a ++ b)=saidA a ++ saidA b:=by unfold saidA;exact List.filterMap_append
theorem exPs_app (a b : List Ex) : exPs (a ++ b)=exPs a ++ exPs b:=by simp only [exPs_map,List.map_append]
set_option maxRecDepth 100000 in
set_option maxHeartbeats 4000000 in
theorem block_i {n0 Bm Bo Bc Ba : Nat} (w0 : World) (hn0 : n0=w0.heap.size) (l : List S) (sl : List St) (A : Option Addr) (c : Nat) (v : Value) (D : DataW Unit) (w : World) (hsl : Ls top w0 A c sl) (hn : nB (stPs sl)≤1048576) (hl : l.length + nB (stPs sl)≤4194304) (hlow : Below n0 w0 w) (h : Tx n0 Bm Bo Bc Ba l v D w) :
  Calls Tryz.prog 69 #[.slice A sl.length c,.pointer (some ⟨Ba,0,none⟩)] w (TxV n0 Bm Bo Bc Ba (l ++ said (stPs sl)) w):=by
 subst hn0
 have H:=hI h
 obtain ⟨c0,_⟩:=cell1 h.ab
 have HSL:=hI hsl
 have HSZ:=hI (And.intro hn hl)
 have HLW:=hI hlow
 clear h hsl hn hl hlow
 refine (callsIn_wide (n:=3)).1 ?_
 refine callsIn_of_wp_marks Tryz.func69 rfl trivial ?_ rfl
 simp only [Tryz.ntmps69,List.size_toArray,List.length_cons,List.length_nil,Nat.reduceAdd,Nat.reduceSub,Array.replicate_succ,Array.replicate_zero,List.push_toArray,List.append_toArray,List.nil_append,List.cons_append]
 gi_wp2_with (refine ⟨trivial,?_⟩;gi_at_call 70;refine (callsIn_wide.2 (within_i _ w ⟨_,_,_,rfl⟩)).mono ?_;rintro e w1 ⟨rfl,rfl⟩)
 have HB:=hI (show Below w.heap.size w (w.alloc (.cells #[.slice A sl.length c] 46)) from (Below.refl _ _).alloc (Nat.le_refl _) _)
 have HBX:=hI (World.alloc_heap_new w (.cells #[.slice A sl.length c] 46))
 obtain ⟨W0,hW0⟩ : ∃ W0,w.alloc (.cells #[.slice A sl.length c] 46)=W0:=⟨_,rfl⟩
 rw [hW0] at HB HBX ⊢
 have hn0 : w0.heap.size≤w.heap.size:=HLW.out.size
 have hn1 : w0.heap.size≤W0.heap.size:=Nat.le_trans hn0 HB.out.size
 have hmb : Bm < W0.heap.size:=Nat.lt_of_lt_of_le H.out.map.lt HB.out.size
 refine range (gf:=111) (lb:=#[.pointer (some ⟨w.heap.size,0,none⟩)]) (P:=Tryz.prog) rfl (enters_of Tryz.func111 (by kernel_rfl) rfl)
  (within_gives w0 sl A c HSL.out HSZ.out.1 W0 (HLW.out.trans (HB.out.mono hn0)) w.heap.size HBX.out) (fun h k=>h.trans k) (Trn.putObj hn1) (fun _=>rfl)
  (fun pre W=>(∃ v D,Tx w0.heap.size Bm Bo Bc Ba (l ++ pre.flatMap saidX) v D W)∧Turn w0.heap.size Bm W0 W)
  (fun pre A B row hs hg hr=>⟨Tx_own hmb () A B row hs.1 hg hr,Turn_own (Nat.le_refl _) hn1 () A B row hs.2 hg hr⟩)
  ⟨⟨v,D,by simpa using H.out.grown HB.out⟩,Turn.refl _ _ _⟩
  (fun x a' W=>∃ g,W.heap[g]?=some (.cells (stE x).toArray 65 (0,0))∧a'={ tmps:=#[.slice A sl.length c,.pointer (some ⟨Ba,0,none⟩),undef,.pointer (some ⟨g,0,none⟩),undef,undef,.slice A sl.length c,.func (.func 111) #[] #[.pointer (some ⟨w.heap.size,0,none⟩)],.agg (stE x).toArray,undef,undef,undef,undef,undef,undef,undef,undef,undef,undef,undef,undef,undef,undef,undef],defers:=[] })
  ?own ?assign ?body ?done
 case own=>
  rintro x a' _ A' B' row ⟨g,h1,h2⟩ hg hr
  refine ⟨g,(hg.block g (Array.getElem?_eq_some_iff.1 h1).1 (fun e=>?_)).trans h1,h2⟩
  obtain ⟨_,o,h3,h4⟩:=hr g e.symm
  rw [h1] at h3
  injection h3 with h3
  subst h3
  cases h4
 case assign=>
  intro l' pre x W K hi hK
  obtain ⟨k,n,s,Ca,ca,ar,Cb,cb,bo,Ce,ce,el⟩:=x
  simp only [stE,sv] at hK ⊢
  gi_wp2
  have hb:=(Below.refl W.heap.size W).alloc (Nat.le_refl _) (.cells #[.int .i64 k,.int .i64 n,.string (str s),.slice Ca ar.length ca,.slice Cb bo.length cb,.slice Ce el.length ce] 65)
  obtain ⟨⟨v',D',h'⟩,ht⟩:=hi
  exact hK _ _ ((KeepsOthers.alloc W _).from _) (Trn.below hb (Nat.le_trans hn1 ht.low.size)) ⟨⟨v',D',h'.grown hb⟩,ht.trans (Turn.below hb (Nat.le_trans hn1 ht.low.size))⟩ ⟨W.heap.size,World.alloc_heap_new W _,rfl⟩
 case body=>
  rintro l' pre x suf a' W hxs hl' ⟨⟨v1,D1,h1⟩,ht⟩ ⟨g,hg,rfl⟩
  have hxm : x ∈ flat sl:=by rw [hxs];simp
  obtain ⟨hxr,hxn⟩:=flat_rd _ sl (Nat.le_refl _) HSL.out.2 x hxm
  obtain ⟨k,n,s,Ca,ca,ar,Cb,cb,bo,Ce,ce,el⟩:=x
  have HAR:=hI hxr.open_.1
  have hsd : said (stPs sl)=pre.flatMap saidX ++ (saidA (exPs ar) ++ suf.flatMap saidX):=by
   rw [said_flat,hxs,List.flatMap_append,List.flatMap_cons]
   rfl
  have HSD:=hI hsd
  have hsl2:=said_le.2 (stPs sl)
  rw [hsd,List.length_append,List.length_append] at hsl2
  simp only [St.p,nS] at hxn
  have hz:=HSZ.out
  have har : ar.length≤1048576:=by
   have h1:=sum_len (m:=fun x : Ex=>nE x.p) (fun x=>nE_pos x.p) ar
   rw [← nEs_sum] at h1
   omega
  have HZ:=hI (show nEs (exPs ar)≤1048576∧l.length + ((pre.flatMap saidX).length + (saidA (exPs ar)).length)≤4194304 by omega)
  have HH:=hI h1
  have HT:=hI ht
  have HGX:=hI hg
  obtain ⟨x0,x1,x2,x3,x4,x5,xf⟩:=cells6 hg
  clear hxm hxr hxn hsd hsl2 hz h1 ht hg hxs
  simp only [stE,sv]
  gi_wp2
  gi_loopw [12] (fun iv wr=>∃ i : Nat,i≤ar.length∧iv=.int .i64 (i : Int)∧(∃ v D,Tx w0.heap.size Bm Bo Bc Ba (l ++ pre.flatMap saidX ++ saidA (exPs (ar.take i))) v D wr)∧Turn w0.heap.size Bm W wr) (fun iv _=>ar.length - (intOf iv).toNat)
  case atStart=>exact ⟨0,Nat.zero_le _,rfl,⟨v1,D1,by simpa [exPs,saidA] using HH.out⟩,Turn.refl _ _ _⟩
  case round=>
   clear x0 x1 x2 x3 x4 x5 xf
   obtain ⟨i,hi,rfl,⟨v2,D2,h2⟩,ht2⟩:=hrel
   have HH2:=hI h2
   have HT2:=hI ht2
   clear h2 ht2
   by_cases hlt : i < ar.length
   ·have HWU:=hI (show Below w0.heap.size w0 wr from (HLW.out.trans (HB.out.mono hn0)).trans (HT.out.low.trans HT2.out.low))
    obtain ⟨b2,o2,rfl,hbb,hc⟩:=Lg.at_ exE_len (show Lx top wr Ca ca ar from Lg.keep stays_x (Keep.below HWU.out) HAR.out) hlt
    obtain ⟨⟨ek,ep,en,es,eA,ec,er⟩,hy⟩ : ∃ y,ar[i]=y:=⟨_,rfl⟩
    have HNX:=hI (show saidA (exPs (ar.take (i + 1)))=saidA (exPs (ar.take i)) ++ saidA [(Ex.mk ek ep en es eA ec er).p] by
     rw [List.take_succ_eq_append_getElem hlt,exPs_app,saidA_app,hy];rfl)
    have hle : (saidA (exPs (ar.take i))).length≤(saidA (exPs ar)).length:=by
     have:=congrArg (fun q=>(saidA (exPs q)).length) (List.take_append_drop i ar)
     simp only [exPs_app,saidA_app,List.length_append] at this
     omega
    have hes : es.length≤1048576:=by
     have h1:=sum_mem (m:=fun x : Ex=>nE x.p) ar _ (hy ▸ List.getElem_mem hlt)
     rw [← nEs_sum] at h1
     have:=HZ.out.1
     simp only [Ex.p,nE] at h1
     omega
    have HLE:=hI (show es.length≤4194304∧(l ++ pre.flatMap saidX ++ saidA (exPs (ar.take i))).length≤4194304 from ⟨by omega,by have:=HZ.out.2;simp only [List.length_append];omega⟩)
    rw [hy] at hc
    have c0 : wr.cell? ⟨b2,o2 + i * 5,none⟩=some (.int .i64 ek):=hc 0 _ rfl
    have c1 : wr.cell? ⟨b2,o2 + i * 5 + 1,none⟩=some (.int .i64 ep):=hc 1 _ rfl
    have c2 : wr.cell? ⟨b2,o2 + i * 5 + 2,none⟩=some (.int .i64 en):=hc 2 _ rfl
    have c3 : wr.cell? ⟨b2,o2 + i * 5 + 3,none⟩=some (.string (str es)):=hc 3 _ rfl
    have c4 : wr.cell? ⟨b2,o2 + i * 5 + 4,none⟩=some (.slice eA er.length ec):=hc 4 _ rfl
    have i0 : (0 : Int)≤(i : Int):=by omega
    have i1 : (i : Int) < (ar.length : Int):=by omega
    obtain ⟨wa,hwa⟩ : ∃ W1,wr.alloc (.cells #[.int .i64 ek,.int .i64 ep,.int .i64 en,.string (str es),.slice eA er.length ec] 68)=W1:=⟨_,rfl⟩
    obtain ⟨m1,s1,b1'⟩:=made hwa
    have HT3:=hI (HT2.out.trans (Turn.below b1' (Nat.le_trans (Nat.le_trans hn1 HT.out.low.size) HT2.out.low.size)))
    have HH3:=hI (HH2.out.grown b1')
    obtain ⟨pb,hpb⟩ : ∃ q,wr.heap.size=q:=⟨_,rfl⟩
    rw [hpb] at m1
    obtain ⟨y0,y1,y2,y3,y4,yf⟩:=cells5 m1
    obtain ⟨z0,zf⟩:=cell1 HH3.out.ab
    clear hc hy hle hes b1' s1 m1
    by_cases hek : ek=2
    ·subst hek
     have HNY:=hI (HNX.out.trans (show saidA (exPs (ar.take i)) ++ saidA [(Ex.mk 2 ep en es eA ec er).p]=saidA (exPs (ar.take i)) ++ [es] from rfl))
     gi_wp2_with (refine ⟨trivial,?_⟩;gi_at_call 67;refine (CallsIn.inRound l' (callsIn_wide.2 (add_i _ es v2 D2 wa HLE.out.1 HLE.out.2 HH3.out))).mono ?_;rintro e w5 hb;obtain ⟨rfl,hb1,hb2⟩:=hb;have HB1:=hI hb1;have HB2:=hI hb2;clear hb1 hb2)
     go_roundw
     case rel=>exact ⟨i + 1,by omega,by go_num,by rw [HNY.out,← List.append_assoc];exact HB1.out,HT3.out.trans HB2.out⟩
     case measure=>simp [intOf];omega
    ·have q : (ek == 2)=false:=beq_eq_false_iff_ne.2 hek
     have HNY:=hI (HNX.out.trans (show saidA (exPs (ar.take i)) ++ saidA [(Ex.mk ek ep en es eA ec er).p]=saidA (exPs (ar.take i)) by
      simp [saidA,Ex.p,hek]))
     clear hek
     gi_wp2
     go_roundw
     case rel=>exact ⟨i + 1,by omega,by go_num,by rw [HNY.out];exact ⟨v2,D2,HH3.out⟩,HT3.out⟩
     case measure=>simp [intOf];omega
   ·obtain rfl : i=ar.length:=by omega
    have HTK:=hI (show ar.take ar.length=ar from List.take_length ..)
    gi_wp2
    have hnc : ∀ (cs : Array Value) (t : TypeId) (fr : Nat × Nat),W.heap[Bm]? ≠ some (.cells cs t fr):=fun cs t fr c=>by
     obtain ⟨es,clock,hm,_⟩:=HH.out.map
     rw [hm] at c
     cases c
    refine ⟨⟨HT2.out.low.size,fun k o hB hk ho=>HT2.out.keep k o hk (by omega) (fun _ _ e=>by subst e;cases ho) (fun _ _ e=>by subst e;cases ho)⟩,HT2.out.trn hnc,⟨v2,D2,?_⟩,HT.out.trans HT2.out⟩
    have h:=HH2.out
    rw [HTK.out,List.append_assoc] at h
    exact h
 case done=>
  rintro D' W hD ⟨⟨v1,D1,h1⟩,ht⟩ hK
  have HH:=hI h1
  have HT:=hI ht
  have HD:=hI hD
  have HSD:=hI (said_flat sl)
  clear h1 ht hD
  gi_wp2
  refine ⟨by simp,.inl ⟨_,_,rfl,run_takeDeferred hK,?_⟩⟩
  refine ⟨_,results_none rfl _ _ _,rfl,?_,?_⟩
  ·have h:=(Tx_own (n0:=w0.heap.size) (Bo:=Bo) (Bc:=Bc) (Ba:=Ba) (l:=l ++ (flat sl).flatMap saidX) hmb).putObj (s:=()) (.deferred none) ⟨v1,D1,HH.out⟩ HD.out hK rfl
   rw [HSD.out]
   exact h
  ·have h:=(Turn_own (n0:=w0.heap.size) (Bm:=Bm) (Nat.le_refl _) hn1).putObj (s:=()) (.deferred none) HT.out HD.out hK rfl
   exact (Turn.below HB.out hn0).trans h
end Go.Proofs.YteibcfpepdbflaaGreat.TxW
