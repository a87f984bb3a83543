/- Regions that draw: an append to a row of wide elements, a store; the last element of an owned row put in. Over every program. No walk here. -/
import Derived.Test.YteibcfpepdbflaaRows
import Derived.Handy
import Derived.Deep.RegionHeld3
import Derived.Test.YteibcfpepdbflaaBindD
import Derived.Laws.Rows
namespace Go.Proofs.Yteibcfpepdbflaa.Rg
open Go Go.RowKit
section
variable {P : Program} {ops : Array Oper} {Q : Exit→Act→World→Prop} {md : Region.Mode} {S S1 : World→Prop}
theorem grow (h : ∀ w,S1 w→S w) : ∀ (fuel : Nat) (listed : Array Bool) (a : Act) (w : World),wpAnyH P md ops Q S1 fuel listed a w→wpAnyH P md ops Q S fuel listed a w
 | 0,_,_,_,k=>k
 | fuel + 1,_,_,_,k=>⟨k.1,fun i hi=>wpOp_mono (fun _ _ h'=>⟨h _ h'.1,grow h fuel _ _ _ h'.2⟩) (k.2 i hi)⟩
theorem pass {i t fuel : Nat} {oi : Oper} {listed : Array Bool} {ts : Array Value} {ds : List Deferred} {w : World} (hi : ops[i]?=some oi) (hd : oi.dst=some t)
  (hs : Region.noSelect ops=true) (hf : Region.free md ops listed i=true) (hr : (Region.ready md ops listed).contains i=true)
  (hQ : ∀ c a w,Q (.panic c) (a.put oi.dst undef) w→Q (.panic c) a w) (hw : Region.wanted oi (yielded ops ts)=false) (hS : S w)
  (h : wpAnyH P md ops Q S fuel (listed.setIfInBounds i true) ⟨ts.setIfInBounds t undef,ds⟩ w) : wpAnyH P md ops Q S (fuel + 1) listed ⟨ts,ds⟩ w:=
 wpAnyH_take hi hs hf hr hQ (.inr ⟨hw,rfl⟩) hS (by rw [hd];exact h)
theorem take {i t fuel : Nat} {oi : Oper} {v : Value} {listed : Array Bool} {ts : Array Value} {ds : List Deferred} {w : World} (hi : ops[i]?=some oi) (hd : oi.dst=some t)
  (hs : Region.noSelect ops=true) (hf : Region.free md ops listed i=true) (hr : (Region.ready md ops listed).contains i=true)
  (hQ : ∀ c a w,Q (.panic c) (a.put oi.dst v) w→Q (.panic c) a w) (hw : Region.wanted oi (yielded ops ts)=true)
  (hy : ∀ w,S w→(execOp (Act.eval ⟨ts,ds⟩) oi).run P w=.ok (.value v) w) (hS : S w)
  (h : wpAnyH P md ops Q S fuel (listed.setIfInBounds i true) ⟨ts.setIfInBounds t v,ds⟩ w) : wpAnyH P md ops Q S (fuel + 1) listed ⟨ts,ds⟩ w:=
 wpAnyH_take hi hs hf hr hQ (.inl ⟨hw,hy⟩) hS (by rw [hd];exact h)
theorem one {i fuel : Nat} {listed : Array Bool} {a : Act} {w : World} (hr : Region.ready md ops listed=[i])
  (h : wpOp P ops Q i (fun a' w'=>S w'∧wpAnyH P md ops Q S fuel (listed.setIfInBounds i true) a' w') a w) : wpAnyH P md ops Q S (fuel + 1) listed a w:=
 ⟨fun h0=>(by rw [hr] at h0;cases h0),fun j hj=>by rw [hr,List.mem_singleton] at hj;subst hj;exact h⟩
theorem two {i j fuel : Nat} {listed : Array Bool} {a : Act} {w : World} (hr : Region.ready md ops listed=[i,j])
  (h1 : wpOp P ops Q i (fun a' w'=>S w'∧wpAnyH P md ops Q S fuel (listed.setIfInBounds i true) a' w') a w)
  (h2 : wpOp P ops Q j (fun a' w'=>S w'∧wpAnyH P md ops Q S fuel (listed.setIfInBounds j true) a' w') a w) : wpAnyH P md ops Q S (fuel + 1) listed a w:=
 ⟨fun h0=>(by rw [hr] at h0;cases h0),fun k hk=>by
  rw [hr,List.mem_cons,List.mem_singleton] at hk
  rcases hk with rfl | rfl
  ·exact h1
  ·exact h2⟩
theorem call {i t fuel : Nat} {oi : Oper} {listed : Array Bool} {ts : Array Value} {ds : List Deferred} {w : World} {f : FuncId} {args : Array Value} (hi : ops[i]?=some oi) (hd : oi.dst=some t)
  (hw : Region.wanted oi (yielded ops ts)=true) (hx : (execOp (Act.eval ⟨ts,ds⟩) oi).run P w=.ok (.enter f args) w)
  (h : Calls P f args w fun e w'=>∃ v,e=.returned v∧∃ S1 : World→Prop,(∀ w,S1 w→S w)∧S1 w'∧wpAnyH P md ops Q S1 fuel (listed.setIfInBounds i true) ⟨ts.setIfInBounds t v,ds⟩ w') :
  wpOp P ops Q i (fun a' w'=>S w'∧wpAnyH P md ops Q S fuel (listed.setIfInBounds i true) a' w') ⟨ts,ds⟩ w:=by
 unfold wpOp
 simp only [hi,hw,if_true,Oper.wp,hx,Oper.upon]
 refine .inl (h.mono ?_)
 rintro e w' ⟨v,rfl,S1,hS1,hS,hk⟩
 refine ⟨hS1 _ hS,?_⟩
 rw [hd]
 exact grow hS1 _ _ _ _ hk
theorem eff {i t fuel : Nat} {oi : Oper} {listed : Array Bool} {ts : Array Value} {ds : List Deferred} {w w1 : World} {v : Value} (hi : ops[i]?=some oi) (hd : oi.dst=some t)
  (hw : Region.wanted oi (yielded ops ts)=true) (hx : (execOp (Act.eval ⟨ts,ds⟩) oi).run P w=.ok (.value v) w1)
  (S1 : World→Prop) (hS1 : ∀ w,S1 w→S w) (hS : S1 w1) (h : wpAnyH P md ops Q S1 fuel (listed.setIfInBounds i true) ⟨ts.setIfInBounds t v,ds⟩ w1) :
  wpOp P ops Q i (fun a' w'=>S w'∧wpAnyH P md ops Q S fuel (listed.setIfInBounds i true) a' w') ⟨ts,ds⟩ w:=by
 unfold wpOp
 simp only [hi,hw,if_true,Oper.wp,hx,Oper.upon]
 refine .inl ⟨hS1 _ hS,?_⟩
 rw [hd]
 exact grow hS1 _ _ _ _ h
end
end Go.Proofs.Yteibcfpepdbflaa.Rg
namespace Go.Proofs.Yteibcfpepdbflaa.BindG
open Go Go.RowKit BindD
section
variable {P : Program} {ops : Array Oper} {Q : Exit→Act→World→Prop} {md : Region.Mode} {S : World→Prop}
theorem app {α : Type} {enc : α→List Value} {T E : TypeId} {zv : Value} {k by' : Nat} (el : Sk.El P T E enc zv k by') {i t fuel : Nat} {oi : Oper} {listed : Array Bool} {ts : Array Value} {ds : List Deferred} {w : World} (s x : Operand) (hi : ops[i]?=some oi) (hd : oi.dst=some t)
  (hw : Region.wanted oi (yielded ops ts)=true) (ho : oi.op=.call { callee:=.builtin .append,args:=#[s,x],argTypes:=#[T,T] })
  {B : Nat} {v : Value} {l : List α} (hs : Act.eval ⟨ts,ds⟩ s=v) (hown : Sk.Own enc k E w B v l) (A : Option Addr) (m c : Nat) (l2 : List α) (hx : Act.eval ⟨ts,ds⟩ x=.slice A m c) (hr : Sk.Rd enc w A m l2)
  (h63 : l.length + m≤maxLen) (hb : (l.length + m) * by'≤140737488355328) (hB : B≤w.heap.size)
  (h : ∀ v' w',Sk.Own enc k E w' B v' (l ++ l2)→Below B w w'→w.grownBy w' v.ownBlock→(v'.ownBlock=v.ownBlock∨v'.ownBlock=some w.heap.size)→∃ S1 : World→Prop,(∀ w,S1 w→S w)∧S1 w'∧wpAnyH P md ops Q S1 fuel (listed.setIfInBounds i true) ⟨ts.setIfInBounds t v',ds⟩ w') :
  wpOp P ops Q i (fun a' w'=>S w'∧wpAnyH P md ops Q S fuel (listed.setIfInBounds i true) a' w') ⟨ts,ds⟩ w:=by
 unfold wpOp
 simp only [hi,hw,if_true]
 refine .inl (Sk.wp_append el s x ho hs hown A m c l2 hx hr h63 hb hB fun v' w' h1 h2 h3 _ h4=>?_)
 rw [hd]
 obtain ⟨S1,hS1,hS,hk⟩:=h v' w' h1 h2 h3 h4
 exact ⟨hS1 _ hS,Rg.grow hS1 _ _ _ _ hk⟩
end
def putRow (w : World) (g o : Nat) : List Value→World
 | []=>w
 | v :: l=>putRow (w.setCell ⟨g,o,none⟩ v) g (o + 1) l
def setL (cs : Array Value) (o : Nat) : List Value→Array Value
 | []=>cs
 | v :: l=>setL (cs.setIfInBounds o v) (o + 1) l
theorem setL_size : ∀ (l : List Value) (cs : Array Value) (o : Nat),(setL cs o l).size=cs.size
 | [],_,_=>rfl
 | v :: l,cs,o=>by unfold setL;rw [setL_size l];simp
theorem setL_get : ∀ (l : List Value) (cs : Array Value) (o i : Nat),(setL cs o l)[i]?=if o≤i∧i < o + l.length∧i < cs.size then l[i - o]? else cs[i]?
 | [],cs,o,i=>by
  unfold setL
  rw [if_neg]
  simp only [List.length_nil]
  omega
 | v :: l,cs,o,i=>by
  unfold setL
  rw [setL_get l]
  simp only [Array.size_setIfInBounds,List.length_cons]
  by_cases h1 : o + 1≤i∧i < o + 1 + l.length∧i < cs.size
  ·rw [if_pos h1,if_pos (by omega)]
   obtain ⟨j,rfl⟩ : ∃ j,i=o + 1 + j:=⟨i - (o + 1),by omega⟩
   rw [show o + 1 + j - (o + 1)=j by omega,show o + 1 + j - o=j + 1 by omega,List.getElem?_cons_succ]
  ·rw [if_neg h1,Array.getElem?_setIfInBounds]
   by_cases h2 : o=i
   ·subst h2
    rw [if_pos rfl]
    by_cases h3 : o < cs.size
    ·rw [if_pos h3,if_pos (by omega),Nat.sub_self,List.getElem?_cons_zero]
    ·rw [if_neg h3,if_neg (by omega),Array.getElem?_eq_none (by omega)]
   ·rw [if_neg h2,if_neg (by omega)]
theorem putRow_heap {t : TypeId} : ∀ (l : List Value) (w : World) (g o : Nat) (cs : Array Value),w.heap[g]?=some (.cells cs t (0,0))→(putRow w g o l).heap[g]?=some (.cells (setL cs o l) t (0,0))
 | [],_,_,_,_,h=>h
 | v :: l,w,g,o,cs,h=>by
  unfold putRow setL
  exact putRow_heap l _ g (o + 1) _ (by simp [World.setCell,Array.getElem?_modify,h])
theorem putRow_other : ∀ (l : List Value) (w : World) (g o b : Nat),b ≠ g→(putRow w g o l).heap[b]?=w.heap[b]?
 | [],_,_,_,_,_=>rfl
 | v :: l,w,g,o,b,h=>by
  unfold putRow
  rw [putRow_other l _ g (o + 1) b h]
  simp [World.setCell,Array.getElem?_modify,Ne.symm h]
theorem putRow_size : ∀ (l : List Value) (w : World) (g o : Nat),(putRow w g o l).heap.size=w.heap.size
 | [],_,_,_=>rfl
 | v :: l,w,g,o=>by
  unfold putRow
  rw [putRow_size l]
  simp [World.setCell]
theorem putRow_below {B : Nat} {w0 : World} : ∀ (l : List Value) {w : World} (g o : Nat),Below B w0 w→B≤g→Below B w0 (putRow w g o l)
 | [],_,_,_,h,_=>h
 | v :: l,w,g,o,h,hg=>by
  unfold putRow
  exact putRow_below l g (o + 1) (h.setCell (p:=⟨g,o,none⟩) hg _) hg
theorem own_last {α : Type} {enc : α→List Value} {k : Nat} {E : TypeId} (hk : ∀ x,(enc x).length=k) {w : World} {B g n cap : Nat} {l : List α} {z : α} (x : α) (h : Sk.Own enc k E w B (.slice (some ⟨g,0,none⟩) n cap) (l ++ [z])) :
  Sk.Own enc k E (putRow w g (l.length * k) (enc x)) B (.slice (some ⟨g,0,none⟩) n cap) (l ++ [x]):=by
 obtain ⟨_,h⟩:=h
 rcases h with ⟨hv,_⟩ | ⟨g',cap',cur,hv,hB,hh,hc,hm,hs,ht⟩
 ·cases hv
 ·injection hv with e1 e2 e3
  injection e1 with e1
  injection e1 with e1
  subst e1 e2 e3
  have hc' : (l ++ [x]).length≤cap:=by simpa using hc
  have e2 : (l ++ [x]).length * k=l.length * k + k:=by rw [List.length_append,List.length_singleton,Nat.succ_mul]
  have e3 : (l ++ [z]).length * k=l.length * k + k:=by rw [List.length_append,List.length_singleton,Nat.succ_mul]
  have hsz : l.length * k + k≤cur.size:=by rw [hs,← e2];exact Nat.mul_le_mul_right k hc'
  refine ⟨Sk.flat_len hk _,.inr ⟨g,cap,setL cur (l.length * k) (enc x),by simp,hB,putRow_heap _ _ _ _ _ hh,hc',hm,by rw [setL_size];exact hs,?_⟩⟩
  rw [e3] at ht
  rw [e2]
  apply List.ext_getElem?
  intro i
  have h1:=congrArg (fun q : List Value=>q[i]?) ht
  simp only [List.getElem?_take,List.flatMap_append,List.flatMap_singleton,Array.getElem?_toList] at h1 ⊢
  rw [setL_get,hk]
  rcases Nat.lt_or_ge i (l.length * k) with hi | hi
  ·rw [if_pos (by omega)] at h1 ⊢
   rw [if_neg (by omega),h1,List.getElem?_append_left (by rw [Sk.flat_len hk];exact hi),List.getElem?_append_left (by rw [Sk.flat_len hk];exact hi)]
  ·rcases Nat.lt_or_ge i (l.length * k + k) with hj | hj
   ·rw [if_pos hj,if_pos ⟨hi,hj,by omega⟩,List.getElem?_append_right (by rw [Sk.flat_len hk];exact hi),Sk.flat_len hk]
   ·rw [if_neg (by omega),List.getElem?_eq_none (by rw [List.length_append,Sk.flat_len hk,hk];exact hj)]
theorem keep_app {K : Nat→Prop} {w w' : World} {v v' : Value} (hg : w.grownBy w' v.ownBlock) (hv : v'.ownBlock=v.ownBlock∨v'.ownBlock=some w.heap.size) : Keep (fun b=>K b∧v.ownBlock ≠ some b) (fun b=>K b∧v'.ownBlock ≠ some b) w w':=by
 refine ⟨hg.size,fun b hb hl=>⟨⟨hb.1,?_⟩,hg.block b hl (Ne.symm hb.2)⟩⟩
 rcases hv with e | e
 ·rw [e];exact hb.2
 ·rw [e];intro c;injection c with c;omega
theorem keep_row {K : Nat→Prop} {w : World} {g : Nat} (o : Nat) (vs : List Value) (h : ¬ K g) : Keep K K w (putRow w g o vs):=
 ⟨by rw [putRow_size];exact Nat.le_refl _,fun b hb _=>⟨hb,putRow_other _ _ _ _ _ (fun e=>h (e ▸ hb))⟩⟩
theorem keep_set {K : Nat→Prop} {w : World} {g : Nat} (o : Nat) (v : Value) (h : ¬ K g) : Keep K K w (w.setCell ⟨g,o,none⟩ v):=keep_row o [v] h
section
variable {α : Type} {enc : α→List Value} {R : (Nat→Prop)→World→α→Prop} {k : Nat} {E : TypeId}
theorem Ow.last (hR : Stays R) (hk : ∀ x,(enc x).length=k) {K : Nat→Prop} {w : World} {B g n cap : Nat} {l : List α} {z : α} (x : α) (h : Ow enc R k E K w B (.slice (some ⟨g,0,none⟩) n cap) (l ++ [z]))
  (hx : R (fun b=>K b∧(Value.slice (some ⟨g,0,none⟩) n cap).ownBlock ≠ some b) w x) : Ow enc R k E K (putRow w g (l.length * k) (enc x)) B (.slice (some ⟨g,0,none⟩) n cap) (l ++ [x]):=by
 have hk2 : Keep (fun b=>K b∧(Value.slice (some ⟨g,0,none⟩) n cap).ownBlock ≠ some b) (fun b=>K b∧(Value.slice (some ⟨g,0,none⟩) n cap).ownBlock ≠ some b) w (putRow w g (l.length * k) (enc x)):=keep_row _ _ (fun c=>c.2 rfl)
 refine ⟨own_last hk x h.own,h.row,fun y hy=>?_⟩
 rcases List.mem_append.1 hy with hy | hy
 ·exact hR _ _ _ _ _ hk2 (h.sub y (List.mem_append_left _ hy))
 ·obtain rfl : y=x:=by simpa using hy
  exact hR _ _ _ _ _ hk2 hx
end
theorem made {w w1 : World} {o : Obj} (h : w.alloc o=w1) : w1.heap[w.heap.size]?=some o∧w1.heap.size=w.heap.size + 1∧Below w.heap.size w w1:=by
 subst h
 exact ⟨heap_alloc_new w o,by simp,(Below.refl _ _).alloc (Nat.le_refl _) _⟩
end Go.Proofs.Yteibcfpepdbflaa.BindG
