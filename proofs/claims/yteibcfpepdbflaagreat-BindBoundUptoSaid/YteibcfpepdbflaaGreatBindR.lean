/- A region that draws its order, by hand: as in Reg, but the condition on the world need not hold behind the operations of a list (the stores at the end), which all wait for what has been taken first. Over every program. No walk here. -/
import Derived.Test.YteibcfpepdbflaaGreatRows
import Derived.Handy
import Derived.Deep.RegionHeld3
import Derived.Test.YteibcfpepdbflaaGreatBindD
import Derived.Laws.Rows
namespace Go.Proofs.YteibcfpepdbflaaGreat.Rg
open Go Go.RowKit
section
variable {P : Program} {ops : Array Oper} {Q : Exit→Act→World→Prop} {md : Region.Mode} {S S1 : World→Prop}
theorem grow (h : ∀ w,S1 w→S w) : ∀ (fuel : Nat) (listed : Array Bool) (a : Act) (w : World),wpAnyH P md ops Q S1 fuel listed a w→wpAnyH P md ops Q S fuel listed a w
 | 0,_,_,_,k=>k
 | fuel + 1,_,_,_,k=>⟨k.1,fun i hi=>wpOp_mono (fun _ _ h'=>⟨h _ h'.1,grow h fuel _ _ _ h'.2⟩) (k.2 i hi)⟩
theorem pass {i t fuel : Nat} {oi : Oper} {listed : Array Bool} {ts : Array Value} {ds : List Deferred} {w : World} (hi : ops[i]?=some oi) (hd : oi.dst=some t)
  (hs : Region.noSelect ops=true) (hf : Region.free md ops listed i=true) (hr : (Region.ready md ops listed).contains i=true)
  (hQ : ∀ c a w,Q (.panic c) (a.put oi.dst undef) w→Q (.panic c) a w) (hw : Region.wanted oi (yielded ops ts)=false) (hS : S w)
  (h : wpAnyH P md ops Q S fuel (listed.setIfInBounds i true) ⟨ts.setIfInBounds t undef,ds⟩ w) : wpAnyH P md ops Q S (fuel + 1) listed ⟨ts,ds⟩ w:=
 wpAnyH_take hi hs hf hr hQ (.inr ⟨hw,rfl⟩) hS (by rw [hd];exact h)
theorem take {i t fuel : Nat} {oi : Oper} {v : Value} {listed : Array Bool} {ts : Array Value} {ds : List Deferred} {w : World} (hi : ops[i]?=some oi) (hd : oi.dst=some t)
  (hs : Region.noSelect ops=true) (hf : Region.free md ops listed i=true) (hr : (Region.ready md ops listed).contains i=true)
  (hQ : ∀ c a w,Q (.panic c) (a.put oi.dst v) w→Q (.panic c) a w) (hw : Region.wanted oi (yielded ops ts)=true)
  (hy : ∀ w,S w→(execOp (Act.eval ⟨ts,ds⟩) oi).run P w=.ok (.value v) w) (hS : S w)
  (h : wpAnyH P md ops Q S fuel (listed.setIfInBounds i true) ⟨ts.setIfInBounds t v,ds⟩ w) : wpAnyH P md ops Q S (fuel + 1) listed ⟨ts,ds⟩ w:=
 wpAnyH_take hi hs hf hr hQ (.inl ⟨hw,hy⟩) hS (by rw [hd];exact h)
theorem one {i fuel : Nat} {listed : Array Bool} {a : Act} {w : World} (hr : Region.ready md ops listed=[i])
  (h : wpOp P ops Q i (fun a' w'=>S w'∧wpAnyH P md ops Q S fuel (listed.setIfInBounds i true) a' w') a w) : wpAnyH P md ops Q S (fuel + 1) listed a w:=
 ⟨fun h0=>(by rw [hr] at h0;cases h0),fun j hj=>by rw [hr,List.mem_singleton] at hj;subst hj;exact h⟩
theorem two {i j fuel : Nat} {listed : Array Bool} {a : Act} {w : World} (hr : Region.ready md ops listed=[i,j])
  (h1 : wpOp P ops Q i (fun a' w'=>S w'∧wpAnyH P md ops Q S fuel (listed.setIfInBounds i true) a' w') a w)
  (h2 : wpOp P ops Q j (fun a' w'=>S w'∧wpAnyH P md ops Q S fuel (listed.setIfInBounds j true) a' w') a w) : wpAnyH P md ops Q S (fuel + 1) listed a w:=
 ⟨fun h0=>(by rw [hr] at h0;cases h0),fun k hk=>by
  rw [hr,List.mem_cons,List.mem_singleton] at hk
  rcases hk with rfl | rfl
  ·exact h1
  ·exact h2⟩
theorem call {i t fuel : Nat} {oi : Oper} {listed : Array Bool} {ts : Array Value} {ds : List Deferred} {w : World} {f : FuncId} {args : Array Value} (hi : ops[i]?=some oi) (hd : oi.dst=some t)
  (hw : Region.wanted oi (yielded ops ts)=true) (hx : (execOp (Act.eval ⟨ts,ds⟩) oi).run P w=.ok (.enter f args) w)
  (h : Calls P f args w fun e w'=>∃ v,e=.returned v∧∃ S1 : World→Prop,(∀ w,S1 w→S w)∧S1 w'∧wpAnyH P md ops Q S1 fuel (listed.setIfInBounds i true) ⟨ts.setIfInBounds t v,ds⟩ w') :
  wpOp P ops Q i (fun a' w'=>S w'∧wpAnyH P md ops Q S fuel (listed.setIfInBounds i true) a' w') ⟨ts,ds⟩ w:=by
 unfold wpOp
 simp only [hi,hw,if_true,Oper.wp,hx,Oper.upon]
 refine .inl (h.mono ?_)
 rintro e w' ⟨v,rfl,S1,hS1,hS,hk⟩
 refine ⟨hS1 _ hS,?_⟩
 rw [hd]
 exact grow hS1 _ _ _ _ hk
theorem eff {i t fuel : Nat} {oi : Oper} {listed : Array Bool} {ts : Array Value} {ds : List Deferred} {w w1 : World} {v : Value} (hi : ops[i]?=some oi) (hd : oi.dst=some t)
  (hw : Region.wanted oi (yielded ops ts)=true) (hx : (execOp (Act.eval ⟨ts,ds⟩) oi).run P w=.ok (.value v) w1)
  (S1 : World→Prop) (hS1 : ∀ w,S1 w→S w) (hS : S1 w1) (h : wpAnyH P md ops Q S1 fuel (listed.setIfInBounds i true) ⟨ts.setIfInBounds t v,ds⟩ w1) :
  wpOp P ops Q i (fun a' w'=>S w'∧wpAnyH P md ops Q S fuel (listed.setIfInBounds i true) a' w') ⟨ts,ds⟩ w:=by
 unfold wpOp
 simp only [hi,hw,if_true,Oper.wp,hx,Oper.upon]
 refine .inl ⟨hS1 _ hS,?_⟩
 rw [hd]
 exact grow hS1 _ _ _ _ h
end
end Go.Proofs.YteibcfpepdbflaaGreat.Rg
namespace Go.Proofs.YteibcfpepdbflaaGreat.BindG
open Go Go.RowKit BindD
section
variable {P : Program} {ops : Array Oper} {Q : Exit→Act→World→Prop} {md : Region.Mode} {S : World→Prop}
theorem app {α : Type} {enc : α→List Value} {T E : TypeId} {zv : Value} {k by' : Nat} (el : Sk.El P T E enc zv k by') {i t fuel : Nat} {oi : Oper} {listed : Array Bool} {ts : Array Value} {ds : List Deferred} {w : World} (s x : Operand) (hi : ops[i]?=some oi) (hd : oi.dst=some t)
  (hw : Region.wanted oi (yielded ops ts)=true) (ho : oi.op=.call { callee:=.builtin .append,args:=#[s,x],argTypes:=#[T,T] })
  {B : Nat} {v : Value} {l : List α} (hs : Act.eval ⟨ts,ds⟩ s=v) (hown : Sk.Own enc k E w B v l) (A : Option Addr) (m c : Nat) (l2 : List α) (hx : Act.eval ⟨ts,ds⟩ x=.slice A m c) (hr : Sk.Rd enc w A m l2)
  (h63 : l.length + m≤maxLen) (hb : (l.length + m) * by'≤140737488355328) (hB : B≤w.heap.size)
  (h : ∀ v' w',Sk.Own enc k E w' B v' (l ++ l2)→Below B w w'→w.grownBy w' v.ownBlock→(v'.ownBlock=v.ownBlock∨v'.ownBlock=some w.heap.size)→∃ S1 : World→Prop,(∀ w,S1 w→S w)∧S1 w'∧wpAnyH P md ops Q S1 fuel (listed.setIfInBounds i true) ⟨ts.setIfInBounds t v',ds⟩ w') :
  wpOp P ops Q i (fun a' w'=>S w'∧wpAnyH P md ops Q S fuel (listed.setIfInBounds i true) a' w') ⟨ts,ds⟩ w:=by
 unfold wpOp
 simp only [hi,hw,if_true]
 refine .inl (Sk.wp_append el s x ho hs hown A m c l2 hx hr h63 hb hB fun v' w' h1 h2 h3 _ h4=>?_)
 rw [hd]
 obtain ⟨S1,hS1,hS,hk⟩:=h v' w' h1 h2 h3 h4
 exact ⟨hS1 _ hS,Rg.grow hS1 _ _ _ _ hk⟩
end
def putRow (w : World) (g o : Nat) : List Value→World
 | []=>w
 | v :: l=>putRow (w.setCell ⟨g,o,none⟩ v) g (o + 1) l
def setL (cs : Array Value) (o : Nat) : List Value→Array Value
 | []=>cs
 | v :: l=>setL (cs.setIfInBounds o v) (o + 1) l
theorem setL_size : ∀ (l : List Value) (cs : Array Value) (o : Nat),(setL cs o l).size=cs.size
 | [],_,_=>rfl
 | v :: l,cs,o=>by unfold setL;rw [setL_size l];simp
theorem setL_get : ∀ (l : List Value) (cs : Array Value) (o i : Nat),(setL cs o l)[i]?=if o≤i∧i < o + l.length∧i < cs.size then l[i - o]? else cs[i]?
 | [],cs,o,i=>by
  unfold setL
  rw [if_neg]
  simp only [List.length_nil]
  omega
 | v :: l,cs,o,i=>by
  unfold setL
  rw [setL_get l]
  simp only [Array.size_setIfInBounds,List.length_cons]
  by_cases h1 : o + 1≤i∧i < o + 1 + l.length∧i < cs.size
  ·rw [if_pos h1,if_pos (by omega)]
   obtain ⟨j,rfl⟩ : ∃ j,i=o + 1 + j:=⟨i - (o + 1),by omega⟩
   rw [show o + 1 + j - (o + 1)=j by omega,show o + 1 + j - o=j + 1 by omega,List.getElem?_cons_succ]
  ·rw [if_neg h1,Array.getElem?_setIfInBounds]
   by_cases h2 : o=i
   ·subst h2
    rw [if_pos rfl]
    by_cases h3 : o < cs.size
    ·rw [if_pos h3,if_pos (by omega),Nat.sub_self,List.getElem?_cons_zero]
    ·rw [if_neg h3,if_neg (by omega),Array.getElem?_eq_none (by omega)]
   ·rw [if_neg h2,if_neg (by omega)]
theorem putRow_heap {t : TypeId} : ∀ (l : List Value) (w : World) (g o : Nat) (cs : Array Value),w.heap[g]?=some (.cells cs t (0,0))→(putRow w g o l).heap[g]?=some (.cells (setL cs o l) t (0,0))
 | [],_,_,_,_,h=>h
 | v :: l,w,g,o,cs,h=>by
  unfold putRow setL
  exact putRow_heap l _ g (o + 1) _ (by simp [World.setCell,Array.getElem?_modify,h])
theorem putRow_other : ∀ (l : List Value) (w : World) (g o b : Nat),b ≠ g→(putRow w g o l).heap[b]?=w.heap[b]?
 | [],_,_,_,_,_=>rfl
 | v :: l,w,g,o,b,h=>by
  unfold putRow
  rw [putRow_other l _ g (o + 1) b h]
  simp [World.setCell,Array.getElem?_modify,Ne.symm h]
theorem putRow_size : ∀ (l : List Value) (w : World) (g o : Nat),(putRow w g o l).heap.size=w.heap.size
 | [],_,_,_=>rfl
 | v :: l,w,g,o=>by
  unfold putRow
  rw [putRow_size l]
  simp [World.setCell]
theorem putRow_below {B : Nat} {w0 : World} : ∀ (l : List Value) {w : World} (g o : Nat),Below B w0 w→B≤g→Below B w0 (putRow w g o l)
 | [],_,_,_,h,_=>h
 | v :: l,w,g,o,h,hg=>by
  unfold putRow
  exact putRow_below l g (o + 1) (h.setCell (p:=⟨g,o,none⟩) hg _) hg
theorem own_last {α : Type} {enc : α→List Value} {k : Nat} {E : TypeId} (hk : ∀ x,(enc x).length=k) {w : World} {B g n cap : Nat} {l : List α} {z : α} (x : α) (h : Sk.Own enc k E w B (.slice (some ⟨g,0,none⟩) n cap) (l ++ [z])) :
  Sk.Own enc k E (putRow w g (l.length * k) (enc x)) B (.slice (some ⟨g,0,none⟩) n cap) (l ++ [x]):=by
 obtain ⟨_,h⟩:=h
 rcases h with ⟨hv,_⟩ | ⟨g',cap',cur,hv,hB,hh,hc,hm,hs,ht⟩
 ·cases hv
 ·injection hv with e1 e2 e3
  injection e1 with e1
  injection e1 with e1
  subst e1 e2 e3
  have hc' : (l ++ [x]).length≤cap:=by simpa using hc
  have e2 : (l ++ [x]).length * k=l.length * k + k:=by rw [List.length_append,List.length_singleton,Nat.succ_mul]
  have e3 : (l ++ [z]).length * k=l.length * k + k:=by rw [List.length_append,List.length_singleton,Nat.succ_mul]
  have hsz : l.length * k + k≤cur.size:=by rw [hs,← e2];exact Nat.mul_le_mul_right k hc'
  refine ⟨Sk.flat_len hk _,.inr ⟨g,cap,setL cur (l.length * k) (enc x),by simp,hB,putRow_heap _ _ _ _ _ hh,hc',hm,by rw [setL_size];exact hs,?_⟩⟩
  rw [e3] at ht
  rw [e2]
  apply List.ext_getElem?
  intro i
  have h1:=congrArg (fun q : List Value=>q[i]?) ht
  simp only [List.getElem?_take,List.flatMap_append,List.flatMap_singleton,Array.getElem?_toList] at h1 ⊢
  rw [setL_get,hk]
  rcases Nat.lt_or_ge i (l.length * k) with hi | hi
  ·rw [if_pos (by omega)] at h1 ⊢
   rw [if_neg (by omega),h1,List.getElem?_append_left (by rw [Sk.flat_len hk];exact hi),List.getElem?_append_left (by rw [Sk.flat_len hk];exact hi)]
  ·rcases Nat.lt_or_ge i (l.length * k + k) with hj | hj
   ·rw [if_pos hj,if_pos ⟨hi,hj,by omega⟩,List.getElem?_append_right (by rw [Sk.flat_len hk];exact hi),Sk.flat_len hk]
   ·rw [if_neg (by omega),List.getElem?_eq_none (by rw [List.length_append,Sk.flat_len hk,hk];exact hj)]
theorem keep_app {K : Nat→Prop} {w w' : World} {v v' : Value} (hg : w.grownBy w' v.ownBlock) (hv : v'.ownBlock=v.ownBlock∨v'.ownBlock=some w.heap.size) : Keep (fun b=>K b∧v.ownBlock ≠ some b) (fun b=>K b∧v'.ownBlock ≠ some b) w w':=by
 refine ⟨hg.size,fun b hb hl=>⟨⟨hb.1,?_⟩,hg.block b hl (Ne.symm hb.2)⟩⟩
 rcases hv with e | e
 ·rw [e];exact hb.2
 ·rw [e];intro c;injection c with c;omega
theorem keep_row {K : Nat→Prop} {w : World} {g : Nat} (o : Nat) (vs : List Value) (h : ¬ K g) : Keep K K w (putRow w g o vs):=
 ⟨by rw [putRow_size];exact Nat.le_refl _,fun b hb _=>⟨hb,putRow_other _ _ _ _ _ (fun e=>h (e ▸ hb))⟩⟩
theorem keep_set {K : Nat→Prop} {w : World} {g : Nat} (o : Nat) (v : Value) (h : ¬ K g) : Keep K K w (w.setCell ⟨g,o,none⟩ v):=keep_row o [v] h
section
variable {α : Type} {enc : α→List Value} {R : (Nat→Prop)→World→α→Prop} {k : Nat} {E : TypeId}
theorem Ow.last (hR : Stays R) (hk : ∀ x,(enc x).length=k) {K : Nat→Prop} {w : World} {B g n cap : Nat} {l : List α} {z : α} (x : α) (h : Ow enc R k E K w B (.slice (some ⟨g,0,none⟩) n cap) (l ++ [z]))
  (hx : R (fun b=>K b∧(Value.slice (some ⟨g,0,none⟩) n cap).ownBlock ≠ some b) w x) : Ow enc R k E K (putRow w g (l.length * k) (enc x)) B (.slice (some ⟨g,0,none⟩) n cap) (l ++ [x]):=by
 have hk2 : Keep (fun b=>K b∧(Value.slice (some ⟨g,0,none⟩) n cap).ownBlock ≠ some b) (fun b=>K b∧(Value.slice (some ⟨g,0,none⟩) n cap).ownBlock ≠ some b) w (putRow w g (l.length * k) (enc x)):=keep_row _ _ (fun c=>c.2 rfl)
 refine ⟨own_last hk x h.own,h.row,fun y hy=>?_⟩
 rcases List.mem_append.1 hy with hy | hy
 ·exact hR _ _ _ _ _ hk2 (h.sub y (List.mem_append_left _ hy))
 ·obtain rfl : y=x:=by simpa using hy
  exact hR _ _ _ _ _ hk2 hx
end
theorem made {w w1 : World} {o : Obj} (h : w.alloc o=w1) : w1.heap[w.heap.size]?=some o∧w1.heap.size=w.heap.size + 1∧Below w.heap.size w w1:=by
 subst h
 exact ⟨heap_alloc_new w o,by simp,(Below.refl _ _).alloc (Nat.le_refl _) _⟩
end Go.Proofs.YteibcfpepdbflaaGreat.BindG
namespace Go.Proofs.YteibcfpepdbflaaGreat.RgD
open Go Go.RowKit
section
variable {P : Program} {ops : Array Oper} {Q : Exit→Act→World→Prop} {md : Region.Mode} {S S1 : World→Prop} {fr : List Nat}
def wpAnyD (P : Program) (md : Region.Mode) (ops : Array Oper) (Q : Exit→Act→World→Prop) (fr : List Nat) (S : World→Prop) : Nat→Array Bool→Act→World→Prop
 | 0,listed,a,w=>Region.ready md ops listed=[]∧Q .normal a w
 | fuel + 1,listed,a,w=>
  (Region.ready md ops listed=[]→Q .normal a w) ∧
  ∀ i ∈ Region.ready md ops listed,wpOp P ops Q i (fun a' w'=>(i ∉ fr→S w')∧wpAnyD P md ops Q fr S fuel (listed.setIfInBounds i true) a' w') a w
theorem wpAny_of : ∀ (fuel : Nat) (listed : Array Bool) (a : Act) (w : World),wpAnyD P md ops Q fr S fuel listed a w→wpAny P md ops Q fuel listed a w
 | 0,_,_,_,h=>h
 | fuel + 1,_,_,_,h=>⟨h.1,fun i hi=>wpOp_mono (fun a' w' h'=>wpAny_of fuel _ a' w' h'.2) (h.2 i hi)⟩
theorem grow (h : ∀ w,S1 w→S w) : ∀ (fuel : Nat) (listed : Array Bool) (a : Act) (w : World),wpAnyD P md ops Q fr S1 fuel listed a w→wpAnyD P md ops Q fr S fuel listed a w
 | 0,_,_,_,k=>k
 | fuel + 1,_,_,_,k=>⟨k.1,fun i hi=>wpOp_mono (fun _ _ h'=>⟨fun hf=>h _ (h'.1 hf),grow h fuel _ _ _ h'.2⟩) (k.2 i hi)⟩
def waits (md : Region.Mode) (ops : Array Oper) (fr : List Nat) (i : Nat) : Bool:=fr.all fun j=>match ops[j]? with
 | some o=>o.after.any fun e=>Region.binds md e && e.on == i
 | none=>true
theorem waits_spec {i j : Nat} {oj : Oper} (h : waits md ops fr i=true) (hj : j ∈ fr) (ho : ops[j]?=some oj) : ∃ e ∈ oj.after,Region.binds md e=true∧e.on=i:=by
 have h1:=List.all_eq_true.1 h j hj
 simp only [ho] at h1
 obtain ⟨k,hk,he⟩:=Array.any_eq_true.1 h1
 refine ⟨_,Array.getElem_mem hk,?_⟩
 simpa using he
theorem first {i : Nat} {oi : Oper} {v : Value} (hi : ops[i]?=some oi) (hsel : ∀ (j : Nat) (o : Oper) cs b,ops[j]?=some o→o.op ≠ .select cs b)
  (hQ : ∀ c a w,Q (.panic c) (a.put oi.dst v) w→Q (.panic c) a w) (hwt : waits md ops fr i=true) :
  ∀ (fuel : Nat) (listed : Array Bool) (a : Act) (w : World),
   (∀ j oj,ops[j]?=some oj→j ≠ i→listed.getD j true=false→(∀ e ∈ oj.after,Region.binds md e=true→e.on ≠ i)→oi.apart ops oj=true) →
   i ∈ Region.ready md ops listed→YieldsIf P ops S oi v a→S w→i ∉ fr →
   wpAnyD P md ops Q fr S fuel (listed.setIfInBounds i true) (a.put oi.dst v) w→wpAnyD P md ops Q fr S (fuel + 1) listed a w:=by
 intro fuel
 induction fuel with
 | zero=>
  intro listed a w _ hr hy hS hif H
  refine ⟨fun h=>(by rw [h] at hr;cases hr),fun j hj=>?_⟩
  by_cases hji : j=i
  ·subst hji;exact hy.wpOp hi hS ⟨fun _=>hS,H⟩
  ·have:=ready_mono hj hji
   rw [H.1] at this
   cases this
 | succ fuel ih=>
  intro listed a w hfree hr hy hS hif H
  refine ⟨fun h=>(by rw [h] at hr;cases hr),fun j hj=>?_⟩
  by_cases hji : j=i
  ·subst hji;exact hy.wpOp hi hS ⟨fun _=>hS,H⟩
  ·have h1:=H.2 j (ready_mono hj hji)
   obtain ⟨hjun,oj,hoj,hall⟩:=mem_ready.1 hj
   have hnot : ∀ e ∈ oj.after,Region.binds md e=true→e.on ≠ i:=fun e he hb heq=>by
    have h1:=hall e he hb
    have h0:=(mem_ready.1 hr).1
    rw [heq] at h1
    rcases Nat.lt_or_ge i listed.size with h' | h'
    ·simp [h'] at h0 h1;rw [h0] at h1;cases h1
    ·simp [Array.getElem?_eq_none h'] at h1
   have hjf : j ∉ fr:=fun hjf=>by
    obtain ⟨e,he,hb,hon⟩:=waits_spec hwt hjf hoj
    exact hnot e he hb hon
   have h2:=wpOp_putIf hoj (hfree j oj hoj hji hjun hnot) (fun cs b=>hsel i oi cs b hi) (fun cs b=>hsel j oj cs b hoj) hQ hy h1
   have hfree' : ∀ k ok,ops[k]?=some ok→k ≠ i→(listed.setIfInBounds j true).getD k true=false →
     (∀ e ∈ ok.after,Region.binds md e=true→e.on ≠ i)→oi.apart ops ok=true:=fun k ok hk hki hun hno=>by
    refine hfree k ok hk hki ?_ hno
    by_cases hjk : j=k
    ·subst hjk;exact hjun
    ·rw [getD_set_ne true hjk] at hun;exact hun
   refine wpOp_mono (fun a' w' h3=>⟨h3.2.1,ih (listed.setIfInBounds j true) a' w' hfree' (ready_mono hr (Ne.symm hji)) h3.1 (h3.2.1 hjf) hif ?_⟩) h2
   rw [Array.setIfInBounds_comm _ _ hji]
   exact h3.2.2
theorem take {i t fuel : Nat} {oi : Oper} {v : Value} {listed : Array Bool} {ts : Array Value} {ds : List Deferred} {w : World} (hi : ops[i]?=some oi) (hd : oi.dst=some t)
  (hs : Region.noSelect ops=true) (hf : Region.free md ops listed i=true) (hr : (Region.ready md ops listed).contains i=true) (hwt : (waits md ops fr i && !fr.contains i)=true)
  (hQ : ∀ c a w,Q (.panic c) (a.put oi.dst v) w→Q (.panic c) a w) (hw : Region.wanted oi (yielded ops ts)=true)
  (hy : ∀ w,S w→(execOp (Act.eval ⟨ts,ds⟩) oi).run P w=.ok (.value v) w) (hS : S w)
  (h : wpAnyD P md ops Q fr S fuel (listed.setIfInBounds i true) ⟨ts.setIfInBounds t v,ds⟩ w) : wpAnyD P md ops Q fr S (fuel + 1) listed ⟨ts,ds⟩ w:=by
 rw [Bool.and_eq_true] at hwt
 exact first hi (Region.noSelect_spec hs) hQ hwt.1 fuel listed _ w (Region.free_spec hi hf) (by simpa using hr) (.inl ⟨hw,hy⟩) hS (by simpa using hwt.2) (by rw [hd];exact h)
theorem first0 {i : Nat} {oi : Oper} {v : Value} (hi : ops[i]?=some oi) (hsel : ∀ (j : Nat) (o : Oper) cs b,ops[j]?=some o→o.op ≠ .select cs b)
  (hQ : ∀ c a w,Q (.panic c) (a.put oi.dst v) w→Q (.panic c) a w) :
  ∀ (fuel : Nat) (listed : Array Bool) (a : Act) (w : World),
   (∀ j oj,ops[j]?=some oj→j ≠ i→listed.getD j true=false→(∀ e ∈ oj.after,Region.binds md e=true→e.on ≠ i)→oi.apart ops oj=true) →
   i ∈ Region.ready md ops listed→YieldsIf P ops (fun _=>True) oi v a→i ∈ fr →
   wpAnyD P md ops Q fr S fuel (listed.setIfInBounds i true) (a.put oi.dst v) w→wpAnyD P md ops Q fr S (fuel + 1) listed a w:=by
 intro fuel
 induction fuel with
 | zero=>
  intro listed a w _ hr hy hif H
  refine ⟨fun h=>(by rw [h] at hr;cases hr),fun j hj=>?_⟩
  by_cases hji : j=i
  ·subst hji;exact hy.wpOp hi trivial ⟨fun h=>absurd hif h,H⟩
  ·have:=ready_mono hj hji
   rw [H.1] at this
   cases this
 | succ fuel ih=>
  intro listed a w hfree hr hy hif H
  refine ⟨fun h=>(by rw [h] at hr;cases hr),fun j hj=>?_⟩
  by_cases hji : j=i
  ·subst hji;exact hy.wpOp hi trivial ⟨fun h=>absurd hif h,H⟩
  ·have h1:=H.2 j (ready_mono hj hji)
   obtain ⟨hjun,oj,hoj,hall⟩:=mem_ready.1 hj
   have hnot : ∀ e ∈ oj.after,Region.binds md e=true→e.on ≠ i:=fun e he hb heq=>by
    have h1:=hall e he hb
    have h0:=(mem_ready.1 hr).1
    rw [heq] at h1
    rcases Nat.lt_or_ge i listed.size with h' | h'
    ·simp [h'] at h0 h1;rw [h0] at h1;cases h1
    ·simp [Array.getElem?_eq_none h'] at h1
   have h2:=wpOp_putIf hoj (hfree j oj hoj hji hjun hnot) (fun cs b=>hsel i oi cs b hi) (fun cs b=>hsel j oj cs b hoj) hQ hy h1
   have hfree' : ∀ k ok,ops[k]?=some ok→k ≠ i→(listed.setIfInBounds j true).getD k true=false →
     (∀ e ∈ ok.after,Region.binds md e=true→e.on ≠ i)→oi.apart ops ok=true:=fun k ok hk hki hun hno=>by
    refine hfree k ok hk hki ?_ hno
    by_cases hjk : j=k
    ·subst hjk;exact hjun
    ·rw [getD_set_ne true hjk] at hun;exact hun
   refine wpOp_mono (fun a' w' h3=>⟨h3.2.1,ih (listed.setIfInBounds j true) a' w' hfree' (ready_mono hr (Ne.symm hji)) h3.1 hif ?_⟩) h2
   rw [Array.setIfInBounds_comm _ _ hji]
   exact h3.2.2
theorem take0 {i t fuel : Nat} {oi : Oper} {v : Value} {listed : Array Bool} {ts : Array Value} {ds : List Deferred} {w : World} (hi : ops[i]?=some oi) (hd : oi.dst=some t)
  (hs : Region.noSelect ops=true) (hf : Region.free md ops listed i=true) (hr : (Region.ready md ops listed).contains i=true) (hwt : fr.contains i=true)
  (hQ : ∀ c a w,Q (.panic c) (a.put oi.dst v) w→Q (.panic c) a w) (hw : Region.wanted oi (yielded ops ts)=true)
  (hy : ∀ w,(execOp (Act.eval ⟨ts,ds⟩) oi).run P w=.ok (.value v) w)
  (h : wpAnyD P md ops Q fr S fuel (listed.setIfInBounds i true) ⟨ts.setIfInBounds t v,ds⟩ w) : wpAnyD P md ops Q fr S (fuel + 1) listed ⟨ts,ds⟩ w:=
 first0 hi (Region.noSelect_spec hs) hQ fuel listed _ w (Region.free_spec hi hf) (by simpa using hr) (.inl ⟨hw,fun w _=>hy w⟩) (by simpa using hwt) (by rw [hd];exact h)
theorem pass {i t fuel : Nat} {oi : Oper} {listed : Array Bool} {ts : Array Value} {ds : List Deferred} {w : World} (hi : ops[i]?=some oi) (hd : oi.dst=some t)
  (hs : Region.noSelect ops=true) (hf : Region.free md ops listed i=true) (hr : (Region.ready md ops listed).contains i=true) (hwt : (waits md ops fr i && !fr.contains i)=true)
  (hQ : ∀ c a w,Q (.panic c) (a.put oi.dst undef) w→Q (.panic c) a w) (hw : Region.wanted oi (yielded ops ts)=false) (hS : S w)
  (h : wpAnyD P md ops Q fr S fuel (listed.setIfInBounds i true) ⟨ts.setIfInBounds t undef,ds⟩ w) : wpAnyD P md ops Q fr S (fuel + 1) listed ⟨ts,ds⟩ w:=by
 rw [Bool.and_eq_true] at hwt
 exact first hi (Region.noSelect_spec hs) hQ hwt.1 fuel listed _ w (Region.free_spec hi hf) (by simpa using hr) (.inr ⟨hw,rfl⟩) hS (by simpa using hwt.2) (by rw [hd];exact h)
theorem one {i fuel : Nat} {listed : Array Bool} {a : Act} {w : World} (hr : Region.ready md ops listed=[i])
  (h : wpOp P ops Q i (fun a' w'=>(i ∉ fr→S w')∧wpAnyD P md ops Q fr S fuel (listed.setIfInBounds i true) a' w') a w) : wpAnyD P md ops Q fr S (fuel + 1) listed a w:=
 ⟨fun h0=>(by rw [hr] at h0;cases h0),fun j hj=>by rw [hr,List.mem_singleton] at hj;subst hj;exact h⟩
theorem two {i j fuel : Nat} {listed : Array Bool} {a : Act} {w : World} (hr : Region.ready md ops listed=[i,j])
  (h1 : wpOp P ops Q i (fun a' w'=>(i ∉ fr→S w')∧wpAnyD P md ops Q fr S fuel (listed.setIfInBounds i true) a' w') a w)
  (h2 : wpOp P ops Q j (fun a' w'=>(j ∉ fr→S w')∧wpAnyD P md ops Q fr S fuel (listed.setIfInBounds j true) a' w') a w) : wpAnyD P md ops Q fr S (fuel + 1) listed a w:=
 ⟨fun h0=>(by rw [hr] at h0;cases h0),fun k hk=>by
  rw [hr,List.mem_cons,List.mem_singleton] at hk
  rcases hk with rfl | rfl
  ·exact h1
  ·exact h2⟩
theorem call {i t fuel : Nat} {oi : Oper} {listed : Array Bool} {ts : Array Value} {ds : List Deferred} {w : World} {f : FuncId} {args : Array Value} (hi : ops[i]?=some oi) (hd : oi.dst=some t)
  (hw : Region.wanted oi (yielded ops ts)=true) (hx : (execOp (Act.eval ⟨ts,ds⟩) oi).run P w=.ok (.enter f args) w)
  (h : Calls P f args w fun e w'=>∃ v,e=.returned v∧S w'∧wpAnyD P md ops Q fr S fuel (listed.setIfInBounds i true) ⟨ts.setIfInBounds t v,ds⟩ w') :
  wpOp P ops Q i (fun a' w'=>(i ∉ fr→S w')∧wpAnyD P md ops Q fr S fuel (listed.setIfInBounds i true) a' w') ⟨ts,ds⟩ w:=by
 unfold wpOp
 simp only [hi,hw,if_true,Oper.wp,hx,Oper.upon]
 refine .inl (h.mono ?_)
 rintro e w' ⟨v,rfl,hS,hk⟩
 refine ⟨fun _=>hS,?_⟩
 rw [hd]
 exact hk
theorem eff {i t fuel : Nat} {oi : Oper} {listed : Array Bool} {ts : Array Value} {ds : List Deferred} {w w1 : World} {v : Value} (hi : ops[i]?=some oi) (hd : oi.dst=some t)
  (hw : Region.wanted oi (yielded ops ts)=true) (hx : (execOp (Act.eval ⟨ts,ds⟩) oi).run P w=.ok (.value v) w1)
  (hS : S w1) (h : wpAnyD P md ops Q fr S fuel (listed.setIfInBounds i true) ⟨ts.setIfInBounds t v,ds⟩ w1) :
  wpOp P ops Q i (fun a' w'=>(i ∉ fr→S w')∧wpAnyD P md ops Q fr S fuel (listed.setIfInBounds i true) a' w') ⟨ts,ds⟩ w:=by
 unfold wpOp
 simp only [hi,hw,if_true,Oper.wp,hx,Oper.upon]
 refine .inl ⟨fun _=>hS,?_⟩
 rw [hd]
 exact h
theorem store {i fuel : Nat} {oi : Oper} {listed : Array Bool} {ts : Array Value} {ds : List Deferred} {w w1 : World} (hi : ops[i]?=some oi) (hd : oi.dst=none)
  (hw : Region.wanted oi (yielded ops ts)=true) (hf : fr.contains i=true) (hx : (execOp (Act.eval ⟨ts,ds⟩) oi).run P w=.ok .skip w1)
  (h : wpAnyD P md ops Q fr S fuel (listed.setIfInBounds i true) ⟨ts,ds⟩ w1) :
  wpOp P ops Q i (fun a' w'=>(i ∉ fr→S w')∧wpAnyD P md ops Q fr S fuel (listed.setIfInBounds i true) a' w') ⟨ts,ds⟩ w:=by
 unfold wpOp
 simp only [hi,hw,if_true,Oper.wp,hx,Oper.upon]
 refine .inl ⟨fun hn=>absurd (by simpa using hf) hn,?_⟩
 rw [hd]
 exact h
theorem app {α : Type} {enc : α→List Value} {T E : TypeId} {zv : Value} {k by' : Nat} (el : Sk.El P T E enc zv k by') {i t fuel : Nat} {oi : Oper} {listed : Array Bool} {ts : Array Value} {ds : List Deferred} {w : World} (s x : Operand) (hi : ops[i]?=some oi) (hd : oi.dst=some t)
  (hw : Region.wanted oi (yielded ops ts)=true) (ho : oi.op=.call { callee:=.builtin .append,args:=#[s,x],argTypes:=#[T,T] })
  {B : Nat} {v : Value} {l : List α} (hs : Act.eval ⟨ts,ds⟩ s=v) (hown : Sk.Own enc k E w B v l) (A : Option Addr) (m c : Nat) (l2 : List α) (hx : Act.eval ⟨ts,ds⟩ x=.slice A m c) (hr : Sk.Rd enc w A m l2)
  (h63 : l.length + m≤maxLen) (hb : (l.length + m) * by'≤140737488355328) (hB : B≤w.heap.size)
  (h : ∀ v' w',Sk.Own enc k E w' B v' (l ++ l2)→Below B w w'→w.grownBy w' v.ownBlock→(v'.ownBlock=v.ownBlock∨v'.ownBlock=some w.heap.size)→S w'∧wpAnyD P md ops Q fr S fuel (listed.setIfInBounds i true) ⟨ts.setIfInBounds t v',ds⟩ w') :
  wpOp P ops Q i (fun a' w'=>(i ∉ fr→S w')∧wpAnyD P md ops Q fr S fuel (listed.setIfInBounds i true) a' w') ⟨ts,ds⟩ w:=by
 unfold wpOp
 simp only [hi,hw,if_true]
 refine .inl (Sk.wp_append el s x ho hs hown A m c l2 hx hr h63 hb hB fun v' w' h1 h2 h3 _ h4=>?_)
 rw [hd]
 obtain ⟨hS,hk⟩:=h v' w' h1 h2 h3 h4
 exact ⟨fun _=>hS,hk⟩
theorem done {listed : Array Bool} {a : Act} {w : World} (hr : Region.ready md ops listed=[]) (h : Q .normal a w) : ∀ fuel,wpAnyD P md ops Q fr S fuel listed a w
 | 0=>⟨hr,h⟩
 | _ + 1=>⟨fun _=>h,by rw [hr];simp⟩
theorem begin_ {id : Nat} {a : Act} {w : World} (fr : List Nat) (S : World→Prop) (hm : P.follows .mixedOrders=true) (hS : S w.drew)
  (h : S w.drew→wpAnyD P .any ops Q fr S ops.size (Array.replicate ops.size false) a w.drew) : (Code.region id ops true).wp P Q a w:=
 wp_region_any hm (wpAny_of _ _ _ _ (h hS))
theorem tk (i t : Nat) {fuel : Nat} {oi : Oper} {v : Value} {listed : Array Bool} {ts : Array Value} {ds : List Deferred} {w : World} (hi : ops[i]?=some oi:=by rfl) (hd : oi.dst=some t:=by rfl)
  (hs : Region.noSelect ops=true:=by kernel_rfl) (hf : Region.free md ops listed i=true:=by kernel_rfl) (hr : (Region.ready md ops listed).contains i=true:=by kernel_rfl) (hwt : (waits md ops fr i && !fr.contains i)=true:=by kernel_rfl)
  (hQ : ∀ c a w,Q (.panic c) (a.put oi.dst v) w→Q (.panic c) a w:=by exact fun _ _ _ h=>h) (hw : Region.wanted oi (yielded ops ts)=true:=by rfl)
  (hy : ∀ w,S w→(execOp (Act.eval ⟨ts,ds⟩) oi).run P w=.ok (.value v) w:=by intro w0 hSw;first | (go_simp;done) | (go_simp;with_reducible rfl) | (go_simp;intro hc;exfalso;omega)) (hS : S w:=by assumption)
  (h : wpAnyD P md ops Q fr S fuel (listed.setIfInBounds i true) ⟨ts.setIfInBounds t v,ds⟩ w) : wpAnyD P md ops Q fr S (fuel + 1) listed ⟨ts,ds⟩ w:=take hi hd hs hf hr hwt hQ hw hy hS h
theorem tk0 (i t : Nat) {fuel : Nat} {oi : Oper} {v : Value} {listed : Array Bool} {ts : Array Value} {ds : List Deferred} {w : World} (hi : ops[i]?=some oi:=by rfl) (hd : oi.dst=some t:=by rfl)
  (hs : Region.noSelect ops=true:=by kernel_rfl) (hf : Region.free md ops listed i=true:=by kernel_rfl) (hr : (Region.ready md ops listed).contains i=true:=by kernel_rfl) (hwt : fr.contains i=true:=by kernel_rfl)
  (hQ : ∀ c a w,Q (.panic c) (a.put oi.dst v) w→Q (.panic c) a w:=by exact fun _ _ _ h=>h) (hw : Region.wanted oi (yielded ops ts)=true:=by rfl)
  (hy : ∀ w,(execOp (Act.eval ⟨ts,ds⟩) oi).run P w=.ok (.value v) w:=by intro w0;first | (go_simp;done) | (go_simp;with_reducible rfl) | (go_simp;intro hc;exfalso;omega))
  (h : wpAnyD P md ops Q fr S fuel (listed.setIfInBounds i true) ⟨ts.setIfInBounds t v,ds⟩ w) : wpAnyD P md ops Q fr S (fuel + 1) listed ⟨ts,ds⟩ w:=take0 hi hd hs hf hr hwt hQ hw hy h
theorem ps (i t : Nat) {fuel : Nat} {oi : Oper} {listed : Array Bool} {ts : Array Value} {ds : List Deferred} {w : World} (hi : ops[i]?=some oi:=by rfl) (hd : oi.dst=some t:=by rfl)
  (hs : Region.noSelect ops=true:=by kernel_rfl) (hf : Region.free md ops listed i=true:=by kernel_rfl) (hr : (Region.ready md ops listed).contains i=true:=by kernel_rfl) (hwt : (waits md ops fr i && !fr.contains i)=true:=by kernel_rfl)
  (hQ : ∀ c a w,Q (.panic c) (a.put oi.dst undef) w→Q (.panic c) a w:=by exact fun _ _ _ h=>h) (hw : Region.wanted oi (yielded ops ts)=false:=by rfl) (hS : S w:=by assumption)
  (h : wpAnyD P md ops Q fr S fuel (listed.setIfInBounds i true) ⟨ts.setIfInBounds t undef,ds⟩ w) : wpAnyD P md ops Q fr S (fuel + 1) listed ⟨ts,ds⟩ w:=pass hi hd hs hf hr hwt hQ hw hS h
end
theorem sA {α : Type} (l : List α) (i : Nat) (a : α) : l.toArray.setIfInBounds i a=(l.set i a).toArray:=List.setIfInBounds_toArray ..
theorem s0 {α : Type} {x a : α} {l : List α} : (x :: l).set 0 a=a :: l:=rfl
theorem s1 {α : Type} {n : Nat} {x a : α} {l : List α} : (x :: l).set (n + 1) a=x :: l.set n a:=rfl
end Go.Proofs.YteibcfpepdbflaaGreat.RgD
