/- Slices of bytes of a call's own, and conversions between bytes and strings, as run equations. No walk here. -/
import Derived.Test.YteibcfpepdbflaaGreatRows
import Derived.WalkKit
import Derived.ProofKit
import Derived.OpenShut
import Derived.Handy
import Derived.Lib.Hide
import Derived.Deep.Draws
import Derived.Maps.AppendAt
import Derived.Deep.AppendLies
import Derived.Laws.OwnMore
import Derived.ChangeSlices
import Derived.Deep.Slices
import Derived.Laws.IdiomStrings
namespace Go.Proofs.YteibcfpepdbflaaGreat.Sq
open Go Go.RowKit
theorem bcell {B : Nat} {w w1 : World} (hb : Below B w w1) : ∀ b o,b < B→w1.cell? ⟨b,o,none⟩=w.cell? ⟨b,o,none⟩:=fun b o h=>hb.cell (p:=⟨b,o,none⟩) h
theorem belowN {B : Nat} {a w : World} (h : Below B a w) (n : Nat) : Below B a (w.drewN n):=⟨h.os,h.tape,h.output,h.size,h.block⟩
structure El {α : Type} (P : Program) (T E : TypeId) (enc : α→Value) (z : α) (by' : Nat) : Prop where
 und : P.underlying T=some (.slice E)
 info : (P.info? E).map (fun i=>(i.zero,i.size,i.bytes))=some (some (enc z),1,by')
 one : ∀ x,(enc x).oneCell'=true
 cells : ∀ x,(enc x).cells=#[enc x]
section
variable {α : Type} {enc : α→Value}
def Rd (enc : α→Value) (w : World) (A : Option Addr) (n : Nat) (l : List α) : Prop:=
 n=l.length∧(0 < n→∃ b o,A=some ⟨b,o,none⟩∧b < w.heap.size∧∀ i x,l[i]?=some x→w.cell? ⟨b,o + i,none⟩=some (enc x))
theorem Rd.len {w : World} {A : Option Addr} {n : Nat} {l : List α} (h : Rd enc w A n l) : n=l.length:=h.1
theorem Rd.nil (w : World) (A : Option Addr) : Rd enc w A 0 []:=⟨rfl,fun h=>absurd h (by omega)⟩
theorem Rd.drew {w : World} {A : Option Addr} {n : Nat} {l : List α} (h : Rd enc w A n l) : Rd enc w.drew A n l:=h
theorem Rd.drewN {w : World} {A : Option Addr} {n : Nat} {l : List α} (h : Rd enc w A n l) (k : Nat) : Rd enc (w.drewN k) A n l:=h
theorem Rd.below {w w' : World} {A : Option Addr} {n : Nat} {l : List α} (h : Rd enc w A n l) (hb : Below w.heap.size w w') : Rd enc w' A n l:=
 ⟨h.1,fun hn=>by
  obtain ⟨b,o,e,hlt,hc⟩:=h.2 hn
  exact ⟨b,o,e,Nat.lt_of_lt_of_le hlt hb.size,fun i x hx=>(bcell hb b _ hlt).trans (hc i x hx)⟩⟩
theorem Rd.alloc {w : World} {A : Option Addr} {n : Nat} {l : List α} (h : Rd enc w A n l) (o : Obj) : Rd enc (w.alloc o) A n l:=h.below ((Below.refl _ _).alloc (Nat.le_refl _) _)
theorem Rd.at_ {w : World} {A : Option Addr} {n : Nat} {l : List α} (h : Rd enc w A n l) {k : Nat} (hk : k < n) : ∃ b o,A=some ⟨b,o,none⟩∧b < w.heap.size∧∃ hl : k < l.length,w.cell? ⟨b,o + k,none⟩=some (enc l[k]):=by
 obtain ⟨b,o,e,hlt,hc⟩:=h.2 (by omega)
 have hl : k < l.length:=by have:=h.1;omega
 exact ⟨b,o,e,hlt,hl,hc k _ (List.getElem?_eq_getElem hl)⟩
theorem Rd.high {w : World} {A : Option Addr} {n : Nat} {l : List α} (h : Rd enc w A n l) (k : Nat) (hk : k≤n) : Rd enc w A k (l.take k):=by
 refine ⟨by rw [List.length_take,← h.1];omega,fun hn=>?_⟩
 obtain ⟨b,o,e,hlt,hc⟩:=h.2 (by omega)
 refine ⟨b,o,e,hlt,fun i x hx=>hc i x ?_⟩
 rw [List.getElem?_take] at hx
 split at hx
 ·exact hx
 ·cases hx
def cutAt (A : Option Addr) (cap k : Nat) : Option Addr:=if cap=k then A else A.map (·.add (k * 1))
theorem Rd.low {w : World} {A : Option Addr} {n : Nat} {l : List α} (h : Rd enc w A n l) (k cap : Nat) (hk : k≤n) (hc : n≤cap) : Rd enc w (cutAt A cap k) (n - k) (l.drop k):=by
 refine ⟨by rw [List.length_drop,← h.1],fun hn=>?_⟩
 obtain ⟨b,o,rfl,hlt,hcell⟩:=h.2 (by omega)
 refine ⟨b,o + k,?_,hlt,fun i x hx=>?_⟩
 ·unfold cutAt
  rw [if_neg (by omega)]
  simp only [Option.map_some,Addr.add,Nat.mul_one]
  split
  ·rename_i h0;subst h0;rfl
  ·rfl
 ·rw [List.getElem?_drop] at hx
  rw [show o + k + i=o + (k + i) by omega]
  exact hcell _ _ hx
def Own (enc : α→Value) (E : TypeId) (w : World) (B : Nat) (v : Value) (l : List α) : Prop:=w.ownsRow B E 1 v l.length (l.map enc)
variable {E : TypeId}
theorem own_nil (w : World) (B : Nat) : Own enc E w B (.slice none 0 0) []:=World.ownsRow_nil w B _ _
theorem Own.drewN {w : World} {B : Nat} {v : Value} {l : List α} (h : Own enc E w B v l) (n : Nat) : Own enc E (w.drewN n) B v l:=h
theorem Own.drew {w : World} {B : Nat} {v : Value} {l : List α} (h : Own enc E w B v l) : Own enc E w.drew B v l:=h
theorem Own.alloc {w : World} {B : Nat} {v : Value} {l : List α} (h : Own enc E w B v l) (o : Obj) : Own enc E (w.alloc o) B v l:=World.ownsRow.alloc h o
theorem Own.lower {w : World} {B C : Nat} {v : Value} {l : List α} (h : Own enc E w B v l) (hc : C≤B) : Own enc E w C v l:=by
 obtain ⟨hl,h⟩:=h
 refine ⟨hl,?_⟩
 rcases h with h | ⟨g,cap,cur,hv,hB,h⟩
 ·exact .inl h
 ·exact .inr ⟨g,cap,cur,hv,Nat.le_trans hc hB,h⟩
theorem Own.below {w w' : World} {B : Nat} {v : Value} {l : List α} (h : Own enc E w B v l) (hb : Below w.heap.size w w') : Own enc E w' B v l:=by
 obtain ⟨hl,h⟩:=h
 refine ⟨hl,?_⟩
 rcases h with h | ⟨g,cap,cur,hv,hB,hh,hc,hm,hs,ht⟩
 ·exact .inl h
 ·have hg : g < w.heap.size:=by
   rcases Nat.lt_or_ge g w.heap.size with h | h
   ·exact h
   ·simp [Array.getElem?_eq_none h] at hh
  exact .inr ⟨g,cap,cur,hv,hB,by rw [hb.block g hg];exact hh,hc,hm,hs,ht⟩
theorem Own.kept {w w' : World} {B : Nat} {v : Value} {l : List α} {row : Option Nat} (h : Own enc E w B v l) (hg : w.grownBy w' row) (hne : v.ownBlock=none∨v.ownBlock ≠ row) : Own enc E w' B v l:=World.ownsRow.kept h hg hne
theorem Own.shape {w : World} {B : Nat} {v : Value} {l : List α} (h : Own enc E w B v l) : ∃ A c,v=.slice A l.length c∧l.length≤c∧c≤maxLen:=by
 obtain ⟨hl,h⟩:=h
 rcases h with ⟨hv,hn⟩ | ⟨g,cap,cur,hv,hB,hh,hc,hm,hs,ht⟩
 ·exact ⟨none,0,by rw [hv,hn],by omega,by unfold maxLen;omega⟩
 ·exact ⟨_,cap,hv,hc,hm⟩
theorem Own.at_ {w : World} {B n cap : Nat} {A : Option Addr} {l : List α} (h : Own enc E w B (.slice A n cap) l) (hne : 0 < n) :
  ∃ g,A=some ⟨g,0,none⟩∧B≤g∧g < w.heap.size∧(∀ k (hk : k < l.length),w.cell? ⟨g,k,none⟩=some (enc l[k]))∧∀ k,w.frozen? ⟨g,k,none⟩=false:=by
 obtain ⟨hl,h'⟩:=h
 rcases h' with ⟨hv,hn⟩ | ⟨g',cap',cur,hv,hB,hh,hc,hm,hs,ht⟩
 ·injection hv with _ e _;omega
 ·injection hv with ha hlen hcap
  subst ha
  refine ⟨g',rfl,hB,?_,fun k hk=>?_,fun k=>by simp [World.frozen?,hh]⟩
  ·rcases Nat.lt_or_ge g' w.heap.size with h | h
   ·exact h
   ·simp [Array.getElem?_eq_none h] at hh
  ·have e : (l.map enc)[k]?=some (enc l[k]):=by rw [List.getElem?_map,List.getElem?_eq_getElem hk];rfl
   rw [← ht,List.getElem?_take] at e
   simp only [Nat.mul_one] at e
   rw [if_pos hk] at e
   simp only [World.cell?,hh]
   simpa using e
theorem Own.rd {w : World} {B n cap : Nat} {A : Option Addr} {l : List α} (h : Own enc E w B (.slice A n cap) l) : Rd enc w A n l:=by
 obtain ⟨A',c',hv,_,_⟩:=h.shape
 have hn : n=l.length:=by injection hv
 refine ⟨hn,fun h0=>?_⟩
 obtain ⟨g,rfl,_,hlt,hc,_⟩:=h.at_ h0
 refine ⟨g,0,rfl,hlt,fun i x hx=>?_⟩
 obtain ⟨hi,rfl⟩:=List.getElem?_eq_some_iff.1 hx
 rw [Nat.zero_add]
 exact hc i hi
theorem Own.store {w : World} {B g cap n : Nat} {l : List α} (h : Own enc E w B (.slice (some ⟨g,0,none⟩) n cap) l) (i : Nat) (x : α) :
  Own enc E (w.setCell ⟨g,i,none⟩ (enc x)) B (.slice (some ⟨g,0,none⟩) n cap) (l.set i x):=by
 obtain ⟨hl,h⟩:=h
 rcases h with ⟨hv,hn⟩ | ⟨g',cap',cur,hv,hB,hh,hc,hm,hs,ht⟩
 ·cases hv
 ·injection hv with ha hlen hcap
  injection ha with ha
  injection ha with ha
  subst ha
  refine ⟨by simp,.inr ⟨g,cap',cur.setIfInBounds i (enc x),by rw [hlen,hcap];simp,hB,?_,by simpa using hc,hm,by simpa using hs,?_⟩⟩
  ·simp [World.setCell,Array.getElem?_modify,hh]
  ·rw [Array.toList_setIfInBounds,List.take_set,List.length_set,ht,List.map_set]
theorem own_lit {P : Program} {T : TypeId} {z : α} {by' : Nat} (_ : El P T E enc z by') (w : World) (l : List α) (cs : Array Value) (hcs : cs.toList=l.map enc) (hm : l.length≤maxLen) {B : Nat} (hB : B≤w.heap.size) (n : Nat) (hn : n=l.length) :
  Own enc E (w.alloc (.cells cs E)) B (.slice (some ⟨w.heap.size,0,none⟩) n n) l:=by
 subst hn
 refine ⟨by simp,.inr ⟨w.heap.size,l.length,cs,rfl,hB,(MapKept.heap_alloc w _).1,Nat.le_refl _,hm,?_,?_⟩⟩
 ·have:=congrArg List.length hcs
  simp at this ⊢
  exact this
 ·rw [hcs,List.take_of_length_le (by simp)]
theorem rd_lit (w : World) (t : TypeId) (l : List α) (cs : Array Value) (hcs : cs.toList=l.map enc) (n : Nat) (hn : n=l.length) : Rd enc (w.alloc (.cells cs t)) (some ⟨w.heap.size,0,none⟩) n l:=by
 subst hn
 refine ⟨rfl,fun _=>⟨w.heap.size,0,rfl,by simp,fun i x hx=>?_⟩⟩
 have e : (w.alloc (.cells cs t)).heap[w.heap.size]?=some (.cells cs t):=(MapKept.heap_alloc w _).1
 unfold World.cell?
 simp only [e,Nat.zero_add]
 have:=congrArg (fun t=>t[i]?) hcs
 simp only [List.getElem?_map,hx,Option.map_some,Array.getElem?_toList] at this
 exact this
end
section
variable {α : Type} {enc : α→Value} {P : Program} {T E : TypeId} {z : α} {by' : Nat} (el : El P T E enc z by')
include el
theorem El.parts : ∃ i,P.info? E=some i∧i.zero=some (enc z)∧i.size=1∧i.bytes=by':=by
 have:=el.info
 cases h : P.info? E with
 | none=>rw [h] at this;cases this
 | some i=>
  rw [h] at this
  simp only [Option.map_some,Option.some.injEq,Prod.mk.injEq] at this
  exact ⟨i,rfl,this.1,this.2.1,this.2.2⟩
theorem run_append (ty : TypeId) {w : World} {B : Nat} {v : Value} {l : List α} (hown : Own enc E w B v l) (A : Option Addr) (m c : Nat) (l2 : List α) (hr : Rd enc w A m l2)
  (h63 : l.length + m≤maxLen) (hb : (l.length + m) * by'≤140737488355328) (hB : B≤w.heap.size) :
  ∃ v' w',(Builtin.append_ #[T,T] ty #[v,.slice A m c]).run P w=.ok v' w'∧Own enc E w' B v' (l ++ l2)∧Below B w w'∧w.grownBy w' v.ownBlock∧(v'.ownBlock=v.ownBlock∨v'.ownBlock=some w.heap.size):=by
 obtain ⟨i,hi,hz,hs,hby⟩:=el.parts
 have hbelow : ∀ w',w.grownBy w' v.ownBlock→Below B w w':=fun w' hg=>(Below.refl B w).grown hg hB fun k hk=>(World.ownsRow.lt hown k hk).1
 have fin : ∀ v' w',w'.ownsRow B E 1 v' (l.length + m) (l.map enc ++ l2.map enc)→Own enc E w' B v' (l ++ l2):=fun v' w' h=>by
  show w'.ownsRow _ _ _ _ _ _
  rw [List.length_append,List.map_append,← hr.1];exact h
 rcases A with _ | ad
 ·have hm0 : m=0:=by
   rcases Nat.eq_zero_or_pos m with h0 | h0
   ·exact h0
   ·obtain ⟨b,o,e,_⟩:=hr.2 h0;cases e
  subst hm0
  have hl2 : l2=[]:=List.length_eq_zero_iff.1 hr.1.symm
  subst hl2
  refine ⟨v,w,?_,by rw [List.append_nil];exact hown,Below.refl _ _,World.grownBy.refl w _,.inl rfl⟩
  rcases hown.2 with ⟨rfl,h0⟩ | ⟨g,cap,cur,rfl,_,_,hnc,_⟩
  ·simp [Builtin.append_,run_underlying el.und,sizeOf,typeInfo,hi,Builtin.lenOf,Builtin.firstCells]
  ·simp [Builtin.append_,run_underlying el.und,sizeOf,typeInfo,hi,Builtin.lenOf,Builtin.firstCells,hnc,storeCells]
 ·obtain ⟨v',w',h1,h2,h3,_,h5⟩:=run_append_own_at (P:=P) w B T ty E i (enc z) 1 by' el.und hi hz hs hby (by rw [el.cells];rfl) (by omega) v l.length (l.map enc) hown ad m c (l2.map enc) (by rw [List.length_map,← hr.1];omega)
   (fun j u hj=>by
    rw [List.getElem?_map] at hj
    cases hx : l2[j]? with
    | none=>rw [hx] at hj;cases hj
    | some x=>
     rw [hx] at hj
     injection hj with hj
     subst hj
     have hjl:=(List.getElem?_eq_some_iff.1 hx).1
     obtain ⟨b,o,e,hlt,hc⟩:=hr.2 (by rw [hr.1];omega)
     injection e with e
     subst e
     have e : (⟨b,o,none⟩ : Addr).add j=⟨b,o + j,none⟩:=by
      unfold Addr.add
      split
      ·rename_i h0;rw [h0];rfl
      ·rfl
     rw [e];exact hc j x hx)
   (fun u hu=>by
    obtain ⟨x,_,rfl⟩:=List.mem_map.1 hu
    exact el.one x) h63 hb hB
  exact ⟨v',w',h1,fin _ _ h2,hbelow _ h3,h3,h5⟩
theorem wp_append {o : Oper} {a : Act} {K : Act→World→Prop} {Q : Exit→Act→World→Prop} {w : World} (s x : Operand)
  (ho : o.op=.call { callee:=.builtin .append,args:=#[s,x],argTypes:=#[T,T] }) {B : Nat} {v : Value} {l : List α} (hs : a.eval s=v) (hown : Own enc E w B v l)
  (A : Option Addr) (m c : Nat) (l2 : List α) (hx : a.eval x=.slice A m c) (hr : Rd enc w A m l2)
  (h63 : l.length + m≤maxLen) (hb : (l.length + m) * by'≤140737488355328) (hB : B≤w.heap.size)
  (h : ∀ v' w',Own enc E w' B v' (l ++ l2)→Below B w w'→w.grownBy w' v.ownBlock→(v'.ownBlock=v.ownBlock∨v'.ownBlock=some w.heap.size)→K (a.put o.dst v') w') : o.wp P a w K Q:=by
 obtain ⟨v',w',hrun,h2,h3,h4,h5⟩:=run_append el o.type hown A m c l2 hr h63 hb hB
 unfold Oper.wp execOp
 simp only [ho,resolve,invoke,builtin,Sem.run_bind,Sem.run_pure,Result.andThen_ok,List.map_toArray,List.map_cons,List.map_nil,hs,hx,hrun]
 exact h v' w' h2 h3 h4 h5
theorem wpList_append {ops : Array Oper} {rest : List Oper} {o : Oper} {a : Act} {Q : Exit→Act→World→Prop} {w : World} (hgd : o.guard=none) (s x : Operand)
  (ho : o.op=.call { callee:=.builtin .append,args:=#[s,x],argTypes:=#[T,T] }) {B : Nat} {v : Value} {l : List α} (hs : a.eval s=v) (hown : Own enc E w B v l)
  (A : Option Addr) (m c : Nat) (l2 : List α) (hx : a.eval x=.slice A m c) (hr : Rd enc w A m l2)
  (h63 : l.length + m≤maxLen) (hb : (l.length + m) * by'≤140737488355328) (hB : B≤w.heap.size)
  (h : ∀ v' w',Own enc E w' B v' (l ++ l2)→Below B w w'→w.grownBy w' v.ownBlock→(v'.ownBlock=v.ownBlock∨v'.ownBlock=some w.heap.size)→wpList P ops Q rest (a.put o.dst v') w') : wpList P ops Q (o :: rest) a w:=
 wpList_plain hgd fun _ hK=>wp_append el s x ho hs hown A m c l2 hx hr h63 hb hB fun v' w' h2 h3 h4 h5=>hK _ _ (h v' w' h2 h3 h4 h5)
end
theorem choose_list {α : Type} {p : Nat→α→Prop} : ∀ n : Nat,(∀ i,i < n→∃ x,p i x)→∃ l : List α,l.length=n∧∀ i x,l[i]?=some x→p i x
 | 0,_=>⟨[],rfl,by simp⟩
 | n + 1,h=>by
  obtain ⟨l,hl,hp⟩:=choose_list n (fun i hi=>h i (by omega))
  obtain ⟨x,hx⟩:=h n (by omega)
  refine ⟨l ++ [x],by simp [hl],fun i y hy=>?_⟩
  rcases Nat.lt_or_ge i n with hi | hi
  ·rw [List.getElem?_append_left (by omega)] at hy;exact hp i y hy
  ·rw [List.getElem?_append_right (by omega)] at hy
   have : i=n:=by
    rcases Nat.lt_or_ge n i with h' | h'
    ·rw [List.getElem?_eq_none (by simp;omega)] at hy;cases hy
    ·omega
   subst this
   simp [hl] at hy
   subst hy
   exact hx
section
open Go.ChangeShapes Go.WideShapes Go.Deep
variable {H : Type} {en : TypeId × Value→H} {P : Program} {w : World} {base : Nat} {spare : Nat→Bool} {held : Bool}
end
end Go.Proofs.YteibcfpepdbflaaGreat.Sq
namespace Go.Proofs.YteibcfpepdbflaaGreat.Sk
open Go Go.RowKit Sq
section
variable {α : Type} {enc : α→List Value} {k : Nat}
theorem flat_len (hk : ∀ x,(enc x).length=k) : ∀ l : List α,(l.flatMap enc).length=l.length * k
 | []=>by simp
 | x :: l=>by rw [List.flatMap_cons,List.length_append,hk,flat_len hk l,List.length_cons,Nat.succ_mul,Nat.add_comm]
theorem flat_at (hk : ∀ x,(enc x).length=k) : ∀ (l : List α) (i j : Nat) (x : α),l[i]?=some x→j < k→(l.flatMap enc)[i * k + j]?=(enc x)[j]?
 | [],i,j,x,h,_=>by simp at h
 | y :: l,0,j,x,h,hj=>by
  simp only [List.getElem?_cons_zero,Option.some.injEq] at h
  subst h
  rw [List.flatMap_cons,Nat.zero_mul,Nat.zero_add,List.getElem?_append_left (by rw [hk];exact hj)]
 | y :: l,i + 1,j,x,h,hj=>by
  rw [List.getElem?_cons_succ] at h
  rw [List.flatMap_cons,List.getElem?_append_right (by rw [hk,Nat.succ_mul];omega),hk,show (i + 1) * k + j - k=i * k + j by rw [Nat.succ_mul];omega]
  exact flat_at hk l i j x h hj
def Rd (enc : α→List Value) (w : World) (A : Option Addr) (n : Nat) (l : List α) : Prop:=
 n=l.length∧(0 < n→∃ b o,A=some ⟨b,o,none⟩∧b < w.heap.size∧∀ j u,(l.flatMap enc)[j]?=some u→w.cell? ⟨b,o + j,none⟩=some u)
theorem Rd.nil (w : World) (A : Option Addr) : Rd enc w A 0 []:=⟨rfl,fun h=>absurd h (by omega)⟩
theorem Rd.drewN {w : World} {A : Option Addr} {n : Nat} {l : List α} (h : Rd enc w A n l) (q : Nat) : Rd enc (w.drewN q) A n l:=h
theorem Rd.drew {w : World} {A : Option Addr} {n : Nat} {l : List α} (h : Rd enc w A n l) : Rd enc w.drew A n l:=h
theorem Rd.below {w w' : World} {A : Option Addr} {n : Nat} {l : List α} (h : Rd enc w A n l) (hb : Below w.heap.size w w') : Rd enc w' A n l:=
 ⟨h.1,fun hn=>by
  obtain ⟨b,o,e,hlt,hc⟩:=h.2 hn
  exact ⟨b,o,e,Nat.lt_of_lt_of_le hlt hb.size,fun i x hx=>(bcell hb b _ hlt).trans (hc i x hx)⟩⟩
theorem Rd.alloc {w : World} {A : Option Addr} {n : Nat} {l : List α} (h : Rd enc w A n l) (o : Obj) : Rd enc (w.alloc o) A n l:=h.below ((Below.refl _ _).alloc (Nat.le_refl _) _)
theorem Rd.at_ {w : World} {A : Option Addr} {n : Nat} {l : List α} (hk : ∀ x,(enc x).length=k) (h : Rd enc w A n l) {i : Nat} (hi : i < n) :
  ∃ b o,A=some ⟨b,o,none⟩∧b < w.heap.size∧∃ hl : i < l.length,∀ j u,(enc l[i])[j]?=some u→w.cell? ⟨b,o + i * k + j,none⟩=some u:=by
 obtain ⟨b,o,e,hlt,hc⟩:=h.2 (by omega)
 have hl : i < l.length:=by have:=h.1;omega
 refine ⟨b,o,e,hlt,hl,fun j u hu=>?_⟩
 rw [Nat.add_assoc]
 refine hc _ u ?_
 rw [flat_at hk l i j _ (List.getElem?_eq_getElem hl) (by rw [← hk l[i]];exact (List.getElem?_eq_some_iff.1 hu).1)]
 exact hu
theorem Rd.high {w : World} {A : Option Addr} {n : Nat} {l : List α} (h : Rd enc w A n l) (m : Nat) (hm : m≤n) : Rd enc w A m (l.take m):=by
 refine ⟨by rw [List.length_take,← h.1];omega,fun hn=>?_⟩
 obtain ⟨b,o,e,hlt,hc⟩:=h.2 (by omega)
 refine ⟨b,o,e,hlt,fun j u hu=>hc j u ?_⟩
 have e1 : (l.flatMap enc)=(l.take m).flatMap enc ++ (l.drop m).flatMap enc:=by rw [← List.flatMap_append,List.take_append_drop]
 rw [e1,List.getElem?_append_left (List.getElem?_eq_some_iff.1 hu).1]
 exact hu
def cutAt (A : Option Addr) (cap m k : Nat) : Option Addr:=if cap=m then A else A.map (·.add (m * k))
theorem Rd.low {w : World} {A : Option Addr} {n : Nat} {l : List α} (hk : ∀ x,(enc x).length=k) (h : Rd enc w A n l) (m cap : Nat) (hm : m≤n) (hc : n≤cap) : Rd enc w (cutAt A cap m k) (n - m) (l.drop m):=by
 refine ⟨by rw [List.length_drop,← h.1],fun hn=>?_⟩
 obtain ⟨b,o,rfl,hlt,hcell⟩:=h.2 (by omega)
 refine ⟨b,o + m * k,?_,hlt,fun j u hu=>?_⟩
 ·unfold cutAt
  rw [if_neg (by omega)]
  simp only [Option.map_some,Addr.add]
  split
  ·rename_i h0;rw [h0];rfl
  ·rfl
 ·rw [Nat.add_assoc]
  refine hcell _ u ?_
  have e1 : (l.flatMap enc)=(l.take m).flatMap enc ++ (l.drop m).flatMap enc:=by rw [← List.flatMap_append,List.take_append_drop]
  have e2 : ((l.take m).flatMap enc).length=m * k:=by rw [flat_len hk,List.length_take,← h.1,Nat.min_eq_left hm]
  rw [e1,List.getElem?_append_right (by rw [e2];omega),e2,show m * k + j - m * k=j by omega]
  exact hu
end
section
open Go.ChangeShapes Go.WideShapes Go.Deep
variable {H : Type} {en : TypeId × Value→H} {P : Program} {w : World} {base : Nat} {spare : Nat→Bool} {held : Bool}
end
end Go.Proofs.YteibcfpepdbflaaGreat.Sk
namespace Go.Proofs.YteibcfpepdbflaaGreat.Sk
open Go Go.RowKit
structure El {α : Type} (P : Program) (T E : TypeId) (enc : α→List Value) (zv : Value) (k by' : Nat) : Prop where
 und : P.underlying T=some (.slice E)
 info : (P.info? E).map (fun i=>(i.zero,i.size,i.bytes))=some (some zv,k,by')
 len : ∀ x,(enc x).length=k
 one : ∀ x,∀ u ∈ enc x,u.oneCell'=true
 zs : zv.cells.size=k
 pos : 0 < k
section
variable {α : Type} {enc : α→List Value} {k : Nat} {E : TypeId}
def Own (enc : α→List Value) (k : Nat) (E : TypeId) (w : World) (B : Nat) (v : Value) (l : List α) : Prop:=w.ownsRow B E k v l.length (l.flatMap enc)
theorem own_nil (w : World) (B : Nat) : Own enc k E w B (.slice none 0 0) []:=World.ownsRow_nil w B _ _
theorem Own.drewN {w : World} {B : Nat} {v : Value} {l : List α} (h : Own enc k E w B v l) (n : Nat) : Own enc k E (w.drewN n) B v l:=h
theorem Own.drew {w : World} {B : Nat} {v : Value} {l : List α} (h : Own enc k E w B v l) : Own enc k E w.drew B v l:=h
theorem Own.alloc {w : World} {B : Nat} {v : Value} {l : List α} (h : Own enc k E w B v l) (o : Obj) : Own enc k E (w.alloc o) B v l:=World.ownsRow.alloc h o
theorem Own.lower {w : World} {B C : Nat} {v : Value} {l : List α} (h : Own enc k E w B v l) (hc : C≤B) : Own enc k E w C v l:=by
 obtain ⟨hl,h⟩:=h
 refine ⟨hl,?_⟩
 rcases h with h | ⟨g,cap,cur,hv,hB,h⟩
 ·exact .inl h
 ·exact .inr ⟨g,cap,cur,hv,Nat.le_trans hc hB,h⟩
theorem Own.below {w w' : World} {B : Nat} {v : Value} {l : List α} (h : Own enc k E w B v l) (hb : Below w.heap.size w w') : Own enc k E w' B v l:=by
 obtain ⟨hl,h⟩:=h
 refine ⟨hl,?_⟩
 rcases h with h | ⟨g,cap,cur,hv,hB,hh,hc,hm,hs,ht⟩
 ·exact .inl h
 ·have hg : g < w.heap.size:=by
   rcases Nat.lt_or_ge g w.heap.size with h | h
   ·exact h
   ·simp [Array.getElem?_eq_none h] at hh
  exact .inr ⟨g,cap,cur,hv,hB,by rw [hb.block g hg];exact hh,hc,hm,hs,ht⟩
theorem Own.kept {w w' : World} {B : Nat} {v : Value} {l : List α} {row : Option Nat} (h : Own enc k E w B v l) (hg : w.grownBy w' row) (hne : v.ownBlock=none∨v.ownBlock ≠ row) : Own enc k E w' B v l:=World.ownsRow.kept h hg hne
theorem Own.shape {w : World} {B : Nat} {v : Value} {l : List α} (h : Own enc k E w B v l) : ∃ A c,v=.slice A l.length c∧l.length≤c∧c≤maxLen:=by
 obtain ⟨hl,h⟩:=h
 rcases h with ⟨hv,hn⟩ | ⟨g,cap,cur,hv,hB,hh,hc,hm,hs,ht⟩
 ·exact ⟨none,0,by rw [hv,hn],by omega,by unfold maxLen;omega⟩
 ·exact ⟨_,cap,hv,hc,hm⟩
theorem Own.form {w : World} {B n cap : Nat} {A : Option Addr} {l : List α} (h : Own enc k E w B (.slice A n cap) l) (hne : 0 < n) : ∃ g,A=some ⟨g,0,none⟩∧B≤g∧g < w.heap.size:=by
 obtain ⟨hl,h'⟩:=h
 rcases h' with ⟨hv,hn⟩ | ⟨g',cap',cur,hv,hB,hh,_⟩
 ·injection hv with _ e _;omega
 ·injection hv with ha hlen hcap
  refine ⟨g',ha,hB,?_⟩
  rcases Nat.lt_or_ge g' w.heap.size with h | h
  ·exact h
  ·simp [Array.getElem?_eq_none h] at hh
theorem Own.rd {w : World} {B n cap : Nat} {A : Option Addr} {l : List α} (h : Own enc k E w B (.slice A n cap) l) : Rd enc w A n l:=by
 obtain ⟨A',c',hv,_,_⟩:=h.shape
 have hn : n=l.length:=by injection hv
 refine ⟨hn,fun h0=>?_⟩
 obtain ⟨g,rfl,_,hlt⟩:=h.form h0
 refine ⟨g,0,rfl,hlt,fun j u hu=>?_⟩
 have hc:=World.ownsRow.cells (show w.ownsRow B E k (.slice (some ⟨g,0,none⟩) n cap) l.length (l.flatMap enc) from h) rfl j u hu
 have e : (⟨g,0,none⟩ : Addr).add j=⟨g,0 + j,none⟩:=by
  unfold Addr.add
  split
  ·rename_i h0;rw [h0]
  ·rfl
 rw [e] at hc
 exact hc
theorem rd_lit (w : World) (t : TypeId) (l : List α) (cs : Array Value) (hcs : cs.toList=l.flatMap enc) (n : Nat) (hn : n=l.length) : Rd enc (w.alloc (.cells cs t)) (some ⟨w.heap.size,0,none⟩) n l:=by
 subst hn
 refine ⟨rfl,fun _=>⟨w.heap.size,0,rfl,by simp,fun i x hx=>?_⟩⟩
 have e : (w.alloc (.cells cs t)).heap[w.heap.size]?=some (.cells cs t):=(MapKept.heap_alloc w _).1
 unfold World.cell?
 simp only [e,Nat.zero_add]
 rw [← hcs] at hx
 simpa using hx
theorem own_lit (w : World) (l : List α) (cs : Array Value) (hk : ∀ x,(enc x).length=k) (hcs : cs.toList=l.flatMap enc) (hm : l.length≤maxLen) {B : Nat} (hB : B≤w.heap.size) (n : Nat) (hn : n=l.length) :
  Own enc k E (w.alloc (.cells cs E)) B (.slice (some ⟨w.heap.size,0,none⟩) n n) l:=by
 subst hn
 refine ⟨flat_len hk l,.inr ⟨w.heap.size,l.length,cs,rfl,hB,(MapKept.heap_alloc w _).1,Nat.le_refl _,hm,?_,?_⟩⟩
 ·have:=congrArg List.length hcs
  rw [flat_len hk] at this
  simpa using this
 ·rw [hcs,List.take_of_length_le (by rw [flat_len hk];exact Nat.le_refl _)]
end
section
variable {α : Type} {enc : α→List Value} {P : Program} {T E : TypeId} {zv : Value} {k by' : Nat} (el : El P T E enc zv k by')
include el
theorem El.parts : ∃ i,P.info? E=some i∧i.zero=some zv∧i.size=k∧i.bytes=by':=by
 have:=el.info
 cases h : P.info? E with
 | none=>rw [h] at this;cases this
 | some i=>
  rw [h] at this
  simp only [Option.map_some,Option.some.injEq,Prod.mk.injEq] at this
  exact ⟨i,rfl,this.1,this.2.1,this.2.2⟩
theorem run_append (ty : TypeId) {w : World} {B : Nat} {v : Value} {l : List α} (hown : Own enc k E w B v l) (A : Option Addr) (m c : Nat) (l2 : List α) (hr : Rd enc w A m l2)
  (h63 : l.length + m≤maxLen) (hb : (l.length + m) * by'≤140737488355328) (hB : B≤w.heap.size) :
  ∃ v' w',(Builtin.append_ #[T,T] ty #[v,.slice A m c]).run P w=.ok v' w'∧Own enc k E w' B v' (l ++ l2)∧Below B w w'∧w.grownBy w' v.ownBlock∧(v'=.slice none 0 0↔v=.slice none 0 0∧m=0)∧(v'.ownBlock=v.ownBlock∨v'.ownBlock=some w.heap.size):=by
 obtain ⟨i,hi,hz,hs,hby⟩:=el.parts
 have hbelow : ∀ w',w.grownBy w' v.ownBlock→Below B w w':=fun w' hg=>(Below.refl B w).grown hg hB fun k hk=>(World.ownsRow.lt hown k hk).1
 have fin : ∀ v' w',w'.ownsRow B E k v' (l.length + m) (l.flatMap enc ++ l2.flatMap enc)→Own enc k E w' B v' (l ++ l2):=fun v' w' h=>by
  show w'.ownsRow _ _ _ _ _ _
  rw [List.length_append,List.flatMap_append,← hr.1];exact h
 rcases A with _ | ad
 ·have hm0 : m=0:=by
   rcases Nat.eq_zero_or_pos m with h0 | h0
   ·exact h0
   ·obtain ⟨b,o,e,_⟩:=hr.2 h0;cases e
  subst hm0
  have hl2 : l2=[]:=List.length_eq_zero_iff.1 hr.1.symm
  subst hl2
  refine ⟨v,w,?_,by rw [List.append_nil];exact hown,Below.refl _ _,World.grownBy.refl w _,by simp,.inl rfl⟩
  rcases hown.2 with ⟨rfl,h0⟩ | ⟨g,cap,cur,rfl,_,_,hnc,_⟩
  ·simp [Builtin.append_,run_underlying el.und,sizeOf,typeInfo,hi,Builtin.lenOf,Builtin.firstCells]
  ·simp [Builtin.append_,run_underlying el.und,sizeOf,typeInfo,hi,Builtin.lenOf,Builtin.firstCells,hnc,storeCells]
 ·obtain ⟨v',w',h1,h2,h3,h4,h5⟩:=run_append_own_at (P:=P) w B T ty E i zv k by' el.und hi hz hs hby el.zs el.pos v l.length (l.flatMap enc) hown ad m c (l2.flatMap enc) (by rw [flat_len el.len,← hr.1])
   (fun j u hj=>by
    have hjl:=(List.getElem?_eq_some_iff.1 hj).1
    rw [flat_len el.len] at hjl
    obtain ⟨b,o,e,hlt,hc⟩:=hr.2 (by rw [hr.1];exact Nat.pos_of_ne_zero fun h0=>by rw [h0] at hjl;omega)
    injection e with e
    subst e
    have e : (⟨b,o,none⟩ : Addr).add j=⟨b,o + j,none⟩:=by
     unfold Addr.add
     split
     ·rename_i h0;rw [h0];rfl
     ·rfl
    rw [e];exact hc j u hj)
   (fun u hu=>by
    obtain ⟨x,_,hx⟩:=List.mem_flatMap.1 hu
    exact el.one x u hx) h63 hb hB
  exact ⟨v',w',h1,fin _ _ h2,hbelow _ h3,h3,h4,h5⟩
theorem wp_append {o : Oper} {a : Act} {K : Act→World→Prop} {Q : Exit→Act→World→Prop} {w : World} (s x : Operand)
  (ho : o.op=.call { callee:=.builtin .append,args:=#[s,x],argTypes:=#[T,T] }) {B : Nat} {v : Value} {l : List α} (hs : a.eval s=v) (hown : Own enc k E w B v l)
  (A : Option Addr) (m c : Nat) (l2 : List α) (hx : a.eval x=.slice A m c) (hr : Rd enc w A m l2)
  (h63 : l.length + m≤maxLen) (hb : (l.length + m) * by'≤140737488355328) (hB : B≤w.heap.size)
  (h : ∀ v' w',Own enc k E w' B v' (l ++ l2)→Below B w w'→w.grownBy w' v.ownBlock→(v'=.slice none 0 0↔v=.slice none 0 0∧m=0)→(v'.ownBlock=v.ownBlock∨v'.ownBlock=some w.heap.size)→K (a.put o.dst v') w') : o.wp P a w K Q:=by
 obtain ⟨v',w',hrun,h2,h3,h4,h5,h6⟩:=run_append el o.type hown A m c l2 hr h63 hb hB
 unfold Oper.wp execOp
 simp only [ho,resolve,invoke,builtin,Sem.run_bind,Sem.run_pure,Result.andThen_ok,List.map_toArray,List.map_cons,List.map_nil,hs,hx,hrun]
 exact h v' w' h2 h3 h4 h5 h6
theorem wpList_append {ops : Array Oper} {rest : List Oper} {o : Oper} {a : Act} {Q : Exit→Act→World→Prop} {w : World} (hgd : o.guard=none) (s x : Operand)
  (ho : o.op=.call { callee:=.builtin .append,args:=#[s,x],argTypes:=#[T,T] }) {B : Nat} {v : Value} {l : List α} (hs : a.eval s=v) (hown : Own enc k E w B v l)
  (A : Option Addr) (m c : Nat) (l2 : List α) (hx : a.eval x=.slice A m c) (hr : Rd enc w A m l2)
  (h63 : l.length + m≤maxLen) (hb : (l.length + m) * by'≤140737488355328) (hB : B≤w.heap.size)
  (h : ∀ v' w',Own enc k E w' B v' (l ++ l2)→Below B w w'→w.grownBy w' v.ownBlock→(v'=.slice none 0 0↔v=.slice none 0 0∧m=0)→(v'.ownBlock=v.ownBlock∨v'.ownBlock=some w.heap.size)→wpList P ops Q rest (a.put o.dst v') w') : wpList P ops Q (o :: rest) a w:=
 wpList_plain hgd fun _ hK=>wp_append el s x ho hs hown A m c l2 hx hr h63 hb hB fun v' w' h2 h3 h4 h5 h6=>hK _ _ (h v' w' h2 h3 h4 h5 h6)
end
end Go.Proofs.YteibcfpepdbflaaGreat.Sk
namespace Go.Proofs.YteibcfpepdbflaaGreat.Byt
open Go Go.RowKit
theorem bcell {B : Nat} {w w1 : World} (hb : Below B w w1) : (∀ b o,b < B→w1.cell? ⟨b,o,none⟩=w.cell? ⟨b,o,none⟩):=
 fun b o h=>hb.cell (p:=⟨b,o,none⟩) h
theorem belowN {B : Nat} {a w : World} (h : Below B a w) (n : Nat) : Below B a (w.drewN n):=⟨h.os,h.tape,h.output,h.size,h.block⟩
def str (l : List UInt8) : ByteArray:=⟨l.toArray⟩
theorem str_data (s : ByteArray) : str s.data.toList=s:=by cases s;rfl
def Buf (w : World) (B g n cap : Nat) (l : List UInt8) : Prop:=
 n=l.length∧n≤cap∧B≤g∧g < w.heap.size∧(∀ i (h : i < l.length),w.cell? ⟨g,i,none⟩=some (.int .u8 (l[i].toNat : Int)))∧∀ i,i < l.length→w.frozen? ⟨g,i,none⟩=false
theorem Buf.below {w w' : World} {B g n cap : Nat} {l : List UInt8} (h : Buf w B g n cap l) (hb : Below w.heap.size w w') : Buf w' B g n cap l:=by
 obtain ⟨h1,h2,h3,h4,h5,h6⟩:=h
 exact ⟨h1,h2,h3,Nat.lt_of_lt_of_le h4 hb.size,fun i hi=>by rw [bcell hb _ _ h4];exact h5 i hi,fun i hi=>by rw [hb.frozen (p:=⟨g,i,none⟩) h4];exact h6 i hi⟩
theorem Buf.store {w : World} {B g n cap : Nat} {l : List UInt8} (h : Buf w B g n cap l) (i : Nat) (hi : i < l.length) (x : UInt8) :
  Buf (w.setCell ⟨g,i,none⟩ (.int .u8 (x.toNat : Int))) B g n cap (l.set i x):=by
 obtain ⟨h1,h2,h3,h4,h5,h6⟩:=h
 refine ⟨by simpa using h1,h2,h3,by rw [World.size_setCell];exact h4,fun j hj=>?_,fun j hj=>?_⟩
 ·rw [List.length_set] at hj
  by_cases hij : i=j
  ·subst hij
   rw [List.getElem_set_self]
   exact World.cell?_setCell_same _ _ _ (h5 i hi)
  ·rw [List.getElem_set_ne hij]
   rw [World.cell?_setCell_other]
   ·exact h5 j hj
   ·intro e;injection e with _ e;exact hij e
 ·rw [List.length_set] at hj
  rw [World.frozen?_setCell]
  exact h6 j hj
end Go.Proofs.YteibcfpepdbflaaGreat.Byt
