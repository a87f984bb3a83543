/- clewref17.said: the texts that statements say, each once. Conditions: sizes within the reach. -/
import Derived.Test.YteibcfpepdbflaaGreatBindR
import Derived.Test.YteibcfpepdbflaaGreatBindN
import Derived.Maps.Own
import Derived.Maps.OwnSet
import Derived.Maps.Views
import Derived.Test.YteibcfpepdbflaaGreatBindK
import Derived.Test.YteibcfpepdbflaaGreatBkA
open Go.Lib renaming hid → hI
namespace Go.Proofs.YteibcfpepdbflaaGreat.BindU
open Go Go.RowKit Go.Maps Go.WideMaps BindP BindD BindO BindW BindG
open Byt (str)
def Cnt (D : DataW Unit) (l : List S) : Prop:=IsMap D∧∀ s : S,D.atKey (.string s) (.lit (.int .i64 0))=.lit (.int .i64 ((l.count s : Nat) : Int))
theorem cnt_nil : Cnt (.map []) []:=⟨⟨_,rfl⟩,fun _=>rfl⟩
theorem Cnt.add {D : DataW Unit} {l : List S} (h : Cnt D l) (s : S) (c : Int) (hc : c=(l.count s : Nat) + 1) : Cnt (D.put (.string s) (.lit (.int .i64 c))) (l ++ [s]):=by
 refine ⟨h.1.put _ _,fun t=>?_⟩
 by_cases e : t=s
 ·subst e
  rw [atKey_put_same h.1 (by trivial),hc,List.count_append]
  simp
 ·rw [atKey_put_other (fun c=>e (by injection c)),h.2 t,List.count_append]
  have : List.count t [s]=0:=List.count_eq_zero.2 (by simpa using e)
  rw [this]
  rfl
theorem wths_mem : ∀ (l out : List S) (s : S),s ∈ l.foldl wth out↔s ∈ out∨s ∈ l
 | [],out,s=>by simp
 | x :: l,out,s=>by
  rw [List.foldl_cons,wths_mem l,List.mem_cons]
  unfold wth
  split
  ·rename_i h
   constructor
   ·rintro (h1 | h1)
    ·exact .inl h1
    ·exact .inr (.inr h1)
   ·rintro (h1 | rfl | h1)
    ·exact .inl h1
    ·exact .inl h
    ·exact .inr h1
  ·simp only [List.mem_append,List.mem_singleton]
   constructor
   ·rintro ((h1 | h1) | h1)
    ·exact .inl h1
    ·exact .inr (.inl h1)
    ·exact .inr (.inr h1)
   ·rintro (h1 | h1 | h1)
    ·exact .inl (.inl h1)
    ·exact .inl (.inr h1)
    ·exact .inr h1
theorem wth_count {l : List S} {s : S} : (l ++ [s]).foldl wth []=if l.count s=0 then l.foldl wth [] ++ [s] else l.foldl wth []:=by
 rw [List.foldl_append]
 show wth _ s=_
 rw [show wth (l.foldl wth []) s=if s ∈ l.foldl wth [] then l.foldl wth [] else l.foldl wth [] ++ [s] from rfl]
 by_cases h : l.count s=0
 ·rw [if_pos h,if_neg]
  rw [wths_mem]
  rintro (c | c)
  ·cases c
  ·exact List.count_eq_zero.1 h c
 ·rw [if_neg h,if_pos]
  rw [wths_mem]
  exact .inr (List.count_pos_iff.1 (Nat.pos_of_ne_zero h))
theorem elU : Sq.El Tryz.prog 22 9 sv [] 16 where
 und:=Tryz.underlying22
 info:=by kernel_rfl
 cells:=fun _=>rfl
 one:=fun _=>rfl
structure Turn (n0 Bm : Nat) (W W' : World) : Prop where
 low : Below n0 W W'
 keep : ∀ b o,W.heap[b]?=some o→b ≠ Bm→(∀ cs fr,o ≠ .cells cs 9 fr)→(∀ cs fr,o ≠ .cells cs 22 fr)→W'.heap[b]?=some o
theorem Turn.refl (n0 Bm : Nat) (W : World) : Turn n0 Bm W W:=⟨Below.refl _ _,fun _ _ h _ _ _=>h⟩
theorem Turn.trans {n0 Bm : Nat} {A B C : World} (h : Turn n0 Bm A B) (k : Turn n0 Bm B C) : Turn n0 Bm A C:=⟨h.low.trans k.low,fun b o hb h1 h2 h3=>k.keep b o (h.keep b o hb h1 h2 h3) h1 h2 h3⟩
theorem Turn.below {n0 Bm : Nat} {W W' : World} (h : Below W.heap.size W W') (hn : n0≤W.heap.size) : Turn n0 Bm W W':=⟨h.mono hn,fun b _ hb _ _ _=>(h.block b (Array.getElem?_eq_some_iff.1 hb).1).trans hb⟩
theorem cell1 {w : World} {g : Nat} {t : TypeId} {z : Value} (h : w.heap[g]?=some (.cells #[z] t (0,0))) : w.cell? ⟨g,0,none⟩=some z∧w.frozen? ⟨g,0,none⟩=false:=by
 constructor <;> simp [World.cell?,World.frozen?,h]
abbrev adder (Bc Bo : Nat) : Value:=.func (.func 67) #[] #[.pointer (some ⟨Bc,0,none⟩),.pointer (some ⟨Bo,0,none⟩)]
structure Tx (n0 Bm Bo Bc Ba : Nat) (l : List S) (v : Value) (D : DataW Unit) (w : World) : Prop where
 box : w.heap[Bo]?=some (.cells #[v] 22 (0,0))
 mb : w.heap[Bc]?=some (.cells #[.map (some Bm)] 138 (0,0))
 ab : w.heap[Ba]?=some (.cells #[adder Bc Bo] 139 (0,0))
 map : w.ownsMap Tryz.prog 9 (plainElem Tryz.prog 3) Bm l.length D
 cnt : Cnt D l
 own : Sq.Own sv 9 w n0 v (l.foldl wth [])
 le : n0≤Bm∧n0≤Bo
theorem own_type {w : World} {n0 : Nat} {v : Value} {l : List S} (h : Sq.Own sv 9 w n0 v l) {g : Nat} (hg : v.ownBlock=some g) : ∃ cs,w.heap[g]?=some (.cells cs 9 (0,0)):=by
 rcases h.2 with ⟨rfl,_⟩ | ⟨g',cap,cur,rfl,hB,hh,_⟩
 ·cases hg
 ·injection hg with hg
  subst hg
  exact ⟨_,hh⟩
theorem own_ne {w : World} {n0 : Nat} {v : Value} {l : List S} (h : Sq.Own sv 9 w n0 v l) {b : Nat} {o : Obj} (hb : w.heap[b]?=some o) (ho : ∀ cs,o ≠ .cells cs 9 (0,0)) : v.ownBlock ≠ some b:=by
 intro c
 obtain ⟨cs,hc⟩:=own_type h c
 rw [hb] at hc
 injection hc with hc
 exact ho _ hc
theorem Tx.grown {n0 Bm Bo Bc Ba : Nat} {l : List S} {v : Value} {D : DataW Unit} {w w' : World} (h : Tx n0 Bm Bo Bc Ba l v D w) (hb : Below w.heap.size w w') : Tx n0 Bm Bo Bc Ba l v D w':=by
 have k : ∀ {b : Nat} {o : Obj},w.heap[b]?=some o→w'.heap[b]?=some o:=fun hk=>(hb.block _ (Array.getElem?_eq_some_iff.1 hk).1).trans hk
 obtain ⟨es,clock,hm,r⟩:=h.map
 exact ⟨k h.box,k h.mb,k h.ab,⟨es,clock,k hm,r⟩,h.cnt,h.own.below hb,h.le⟩
theorem zeroI (w : World) : (zeroValue 3).run Tryz.prog w=.ok (.int .i64 0) w:=by kernel_rfl
def TxV (n0 Bm Bo Bc Ba : Nat) (l : List S) (w : World) (e : Ending) (w' : World) : Prop:=e=.returned (.tuple #[])∧(∃ v D,Tx n0 Bm Bo Bc Ba l v D w')∧Turn n0 Bm w w'
set_option maxRecDepth 100000 in
set_option maxHeartbeats 1000000 in
theorem add_i {n0 Bm Bo Bc Ba : Nat} (l : List S) (s : S) (v : Value) (D : DataW Unit) (w : World) (hs : s.length≤4194304) (hl : l.length≤4194304) (h : Tx n0 Bm Bo Bc Ba l v D w) :
  Calls Tryz.prog 67 #[.string (str s),.pointer (some ⟨Bc,0,none⟩),.pointer (some ⟨Bo,0,none⟩)] w (TxV n0 Bm Bo Bc Ba (l ++ [s]) w):=by
 have hkey : keyOf Tryz.prog 9 (.string (str s))=some (.string s):=by
  have hz : (str s).size≤maxLen:=by show (s.toArray).size≤maxLen;unfold maxLen;simp;omega
  exact keyOf_string_mk (P:=Tryz.prog) Tryz.underlying9 (s:=str s) hz
 obtain ⟨c,hlk,hat,wc⟩:=h.map.lookup_int (Maps.string_keyed Tryz.underlying9) Tryz.underlying138 Tryz.underlying3 (zeroI _) hkey
 rw [h.cnt.2 s] at hat
 obtain ⟨k,hk⟩ : ∃ k,l.count s=k:=⟨_,rfl⟩
 rw [hk] at hat
 have hc : (k : Int)=c:=by injection hat with hat;injection hat
 subst hc
 have hkl : k≤l.length:=by rw [← hk];exact List.count_le_length
 have HK:=hI hk
 have H:=hI h
 have HKEY:=hI hkey
 obtain ⟨c0,_⟩:=cell1 h.mb
 have k0 : (0 : Int)≤(k : Int):=by omega
 have k1 : (k : Int)≤4194304:=by omega
 have hlm : l.length < maxLen:=by unfold maxLen;omega
 have HLM:=hI hlm
 clear hat wc hk h hkey hkl hlm
 go_enter Tryz.func67,Tryz.ntmps67
 go_wp2_with (at_mapUpdate;refine wpList_mapUpdate_own _ rfl _ _ _ 138 rfl 9 3 (Maps.string_keyed Tryz.underlying9) Tryz.underlying138 _ Bm l.length _ rfl H.out.map HLM.out _ _ _ rfl rfl HKEY.out _ [] (plainElem_int Tryz.underlying3 (WalkArith.wf_i64 (by omega))) ?_)
 intro w1 hmap1 hgrow1
 have HG1:=hI hgrow1
 have HM1:=hI hmap1
 have HC2:=hI (H.out.cnt.add s ((k : Int) + 1) (by rw [HK.out]))
 obtain ⟨c2,hlk2,hat2,_⟩:=hmap1.lookup_int (Maps.string_keyed Tryz.underlying9) Tryz.underlying138 Tryz.underlying3 (zeroI _) HKEY.out
 rw [Maps.atKey_put_same H.out.cnt.1 (by trivial)] at hat2
 have hc2 : ((k : Int) + 1)=c2:=by injection hat2 with hat2;injection hat2
 have HC:=hI hc2
 have kb : ∀ {b : Nat} {o : Obj},w.heap[b]?=some o→b ≠ Bm→w1.heap[b]?=some o:=fun {b o} hb hne=>(HG1.out.block b (Array.getElem?_eq_some_iff.1 hb).1 (fun e=>hne (Option.some.inj e))).trans hb
 obtain ⟨es,clock,hmb,_⟩:=H.out.map
 have nc : ∀ {b : Nat} {cs : Array Value} {t : TypeId} {fr : Nat × Nat},w.heap[b]?=some (.cells cs t fr)→b ≠ Bm:=fun {b cs t fr} hb e=>by subst e;rw [hmb] at hb;cases hb
 have hbo:=kb H.out.box (nc H.out.box)
 have hcm:=kb H.out.mb (nc H.out.mb)
 have hab:=kb H.out.ab (nc H.out.ab)
 have hvm : v.ownBlock ≠ some Bm:=own_ne H.out.own hmb (fun _ c=>by cases c)
 have how:=H.out.own.kept HG1.out (.inr hvm)
 have HT1:=hI (show Turn n0 Bm w w1 from ⟨(Below.refl _ _).grown HG1.out (by have:=H.out.le.1;have:=(Array.getElem?_eq_some_iff.1 hmb).1;omega) (fun j e=>by injection e with e;subst e;exact H.out.le.1),fun b o hb hne _ _=>kb hb hne⟩)
 obtain ⟨d0,_⟩:=cell1 hcm
 obtain ⟨e0,ef⟩:=cell1 hbo
 have HBO:=hI hbo
 have HCM:=hI hcm
 have HAB:=hI hab
 have HO1:=hI how
 clear hc2 hat2 hmap1 hgrow1 hmb hbo hcm hab hvm how kb nc
 rcases Nat.eq_zero_or_pos k with hk0 | hk0
 ·obtain rfl : c2=1:=by have:=HC.out;omega
  have HW:=hI (wth_count.trans (if_pos (HK.out.trans hk0)))
  clear hk0
  have HLW:=hI (wths_len l [])
  have hn1 : n0≤w1.heap.size:=by have:=H.out.le.2;have:=(Array.getElem?_eq_some_iff.1 HBO.out).1;omega
  have HN1:=hI hn1
  clear hn1
  go_wp2_with (at_builtin;refine Sq.wpList_append elU rfl _ _ rfl rfl (HO1.out.alloc (.cells #[.string (str s)] 9)) (some ⟨w1.heap.size,0,none⟩) 1 1 [s] rfl (Sq.rd_lit (enc:=sv) w1 9 [s] _ rfl 1 rfl) (by have:=HLW.out;unfold maxLen;simp at this;omega) (by have:=HLW.out;simp at this;omega) (by have:=HN1.out;simp;omega) ?_;intro v3 w3 ho3 hb3 hg3 hv3;obtain ⟨A3,c3,rfl,_,_⟩:=ho3.shape;obtain ⟨z0,e0'⟩:=cell1 ((hg3.block Bo (by have:=(Array.getElem?_eq_some_iff.1 HBO.out).1;simp;omega) (Ne.symm (own_ne HO1.out HBO.out (fun _ c=>by cases c)))).trans ((Below.heap_alloc w1 _ Bo (Array.getElem?_eq_some_iff.1 HBO.out).1).trans HBO.out));have HO3:=hI ho3;have HB3:=hI hb3;have HG3:=hI hg3;have HV3:=hI hv3;clear ho3 hb3 hg3 hv3)
  go_end0
  have hA:=(Below.refl w1.heap.size w1).alloc (Nat.le_refl _) (.cells #[.string (str s)] 9)
  have hk3 : ∀ {b : Nat} {o : Obj},w1.heap[b]?=some o→v.ownBlock ≠ some b→w3.heap[b]?=some o:=fun {b o} hb hne=>by
   have hlt:=(Array.getElem?_eq_some_iff.1 hb).1
   exact ((HG3.out.block b (by simp;omega) (Ne.symm hne)).trans (hA.block b hlt)).trans hb
  have hnb : ∀ {b : Nat} {cs : Array Value} {t : TypeId},w1.heap[b]?=some (.cells cs t (0,0))→t ≠ 9→v.ownBlock ≠ some b:=fun {b cs t} hb ht=>own_ne HO1.out hb (fun cs' c=>by injection c with _ c _;exact ht c)
  have xbo:=hk3 HBO.out (hnb HBO.out (by decide))
  have xmb:=hk3 HCM.out (hnb HCM.out (by decide))
  have xab:=hk3 HAB.out (hnb HAB.out (by decide))
  have hset : ∀ {b : Nat},b ≠ Bo→∀ u,(w3.setCell ⟨Bo,0,none⟩ u).heap[b]?=w3.heap[b]?:=fun {b} hb u=>Below.heap_setCell w3 _ u b hb
  have hcb : Bc ≠ Bo:=fun e=>by rw [e] at xmb;rw [xbo] at xmb;injection xmb with xmb;injection xmb with _ xmb _;exact absurd xmb (by decide)
  have hab : Ba ≠ Bo:=fun e=>by rw [e] at xab;rw [xbo] at xab;injection xab with xab;injection xab with _ xab _;exact absurd xab (by decide)
  obtain ⟨es1,clock1,hm1,hm2⟩:=HM1.out
  have xm:=hk3 hm1 (own_ne HO1.out hm1 (fun _ c=>by cases c))
  have hmo : Bm ≠ Bo:=fun e=>by rw [e] at xm;rw [xbo] at xm;cases xm
  refine ⟨rfl,⟨.slice A3 ((l.foldl wth []).length + 1) c3,_,?_,(hset hcb _).trans xmb,(hset hab _).trans xab,⟨es1,clock1,(hset hmo _).trans xm,?_⟩,HC2.out,?_,H.out.le⟩,HT1.out.trans ⟨?_,?_⟩⟩
  ·simp [World.setCell,Array.getElem?_modify,xbo]
  ·rw [List.length_append];exact hm2
  ·rw [HW.out]
   have ho3:=HO3.out
   rw [show (l.foldl wth [] ++ [s]).length=(l.foldl wth []).length + 1 by simp] at ho3
   obtain ⟨h1,h2⟩:=ho3
   refine ⟨h1,h2.imp id ?_⟩
   rintro ⟨g,cap,cur,e,hB,hh,hr⟩
   exact ⟨g,cap,cur,e,hB,(hset (fun c=>by rw [c] at hh;rw [xbo] at hh;injection hh with hh;injection hh with _ hh _;exact absurd hh (by decide)) _).trans hh,hr⟩
  ·exact ((hA.mono HN1.out).trans HB3.out).setCell (p:=⟨Bo,0,none⟩) H.out.le.2 _
  ·intro b o hb _ h9 h22
   have hne : b ≠ Bo:=fun e=>by rw [e,HBO.out] at hb;injection hb with hb;exact h22 _ _ hb.symm
   exact (hset hne _).trans (hk3 hb (own_ne HO1.out hb (fun cs=>h9 cs _)))
 ·have q : (c2 == 1)=false:=by have:=HC.out;simp;omega
  have HW:=hI (wth_count.trans (if_neg (show ¬ l.count s=0 by rw [HK.out];omega)))
  go_wp2_with fail
  go_end0
  refine ⟨rfl,⟨v,_,HBO.out,HCM.out,HAB.out,?_,HC2.out,?_,H.out.le⟩,HT1.out⟩
  ·rw [List.length_append];exact HM1.out
  ·rw [HW.out];exact HO1.out
theorem TxV.turned {n0 Bm Bo Bc Ba : Nat} {l : List S} {w w1 : World} {e : Ending} {w' : World} (h : TxV n0 Bm Bo Bc Ba l w1 e w') (k : Turn n0 Bm w w1) : TxV n0 Bm Bo Bc Ba l w e w':=⟨h.1,h.2.1,k.trans h.2.2⟩
def someT (s : S) : List S:=if s=[] then [] else [s]
theorem emp_q {s : S} {b : Bool} (h : decide (s=[])=b) : (!(str s).toList.isEmpty)=!b:=by
 rw [toList_str]
 cases s <;> simp_all
set_option maxRecDepth 100000 in
theorem some_i {n0 Bm Bo Bc Ba : Nat} (l : List S) (s : S) (v : Value) (D : DataW Unit) (w : World) (hs : s.length≤4194304) (hl : l.length≤4194304) (h : Tx n0 Bm Bo Bc Ba l v D w) :
  Calls Tryz.prog 68 #[.string (str s),.pointer (some ⟨Ba,0,none⟩)] w (TxV n0 Bm Bo Bc Ba (l ++ someT s) w):=by
 have H:=hI h
 obtain ⟨c0,_⟩:=cell1 h.ab
 by_cases he : s=[]
 ·subst he
  have q:=emp_q (s:=[]) (b:=true) rfl
  have q2:=toList_str []
  clear h
  go_enter Tryz.func68,Tryz.ntmps68
  go_wp2_with fail
  go_end0
  exact ⟨rfl,⟨v,D,by rw [show someT []=[] from rfl,List.append_nil];exact H.out⟩,Turn.refl _ _ _⟩
 ·have q:=emp_q (s:=s) (b:=false) (by simpa using he)
  have HE:=hI (show someT s=[s] from if_neg he)
  clear h he
  go_enter Tryz.func68,Tryz.ntmps68
  go_wp2_with (go_at_call 67;refine (add_i l s v D w hs hl H.out).mono ?_;rintro e w1 hb;obtain ⟨rfl,hb1,hb2⟩:=hb;have HB1:=hI hb1;have HB2:=hI hb2;clear hb1 hb2)
  go_end0
  exact ⟨rfl,by rw [HE.out];exact HB1.out,HB2.out⟩
end Go.Proofs.YteibcfpepdbflaaGreat.BindU
namespace Go.Proofs.YteibcfpepdbflaaGreat.BindJ
open Go Go.RowKit BindP BindD BindO BindW BindS BindX BindT
open Byt (str)
theorem saidA_len (l : List Pe) : (saidA l).length≤l.length:=by unfold saidA;exact List.length_filterMap_le ..
theorem said_le : (∀ p : Ps,(said1 p).length≤nS p)∧∀ l : List Ps,(said l).length≤nB l:=by
 have hA : ∀ l : List Pe,(saidA l).length≤nEs l:=fun l=>Nat.le_trans (saidA_len l) (by
  induction l with
  | nil=>simp
  | cons a l ih=>have:=nE_pos a;simp only [List.length_cons,nEs];omega)
 have h : ∀ N : Nat,(∀ p : Ps,nS p≤N→(said1 p).length≤nS p)∧∀ l : List Ps,nB l≤N→(said l).length≤nB l:=by
  intro N
  induction N with
  | zero=>exact ⟨fun p hp=>by cases p;unfold nS at hp;omega,fun l hl=>by
    cases l with
    | nil=>simp [said]
    | cons a l=>cases a;unfold nB nS at hl;omega⟩
  | succ N ih=>
   have h1 : ∀ p : Ps,nS p≤N + 1→(said1 p).length≤nS p:=fun p hp=>by
    obtain ⟨k,n,s,ar,b,e⟩:=p
    simp only [nS] at hp ⊢
    simp only [said1,List.length_append]
    have:=hA ar
    have hb:=ih.2 b (by omega)
    have he:=ih.2 e (by omega)
    omega
   refine ⟨h1,fun l=>?_⟩
   induction l with
   | nil=>intro _;simp [said]
   | cons a l ihl=>
    intro hl
    simp only [nB] at hl ⊢
    simp only [said,List.length_append]
    have:=h1 a (by omega)
    have:=ihl (by omega)
    omega
 exact ⟨fun p=>(h _).1 p (Nat.le_refl _),fun l=>(h _).2 l (Nat.le_refl _)⟩
end Go.Proofs.YteibcfpepdbflaaGreat.BindJ
