/- How an api.Source among the arguments reads: its texts, numbers and slices, with its expressions and statements as trees; and that the trees have not more parts than the argument's bulk. Conditions: none. -/
import Derived.Test.YteibcfpepdbflaaGreatBindD
import Derived.Test.YteibcfpepdbflaaGreatRows
import Derived.Deep.Slices
import Derived.Deep.Fields
import Derived.ChangeSame
import Derived.SizedLaws
namespace Go.Proofs.YteibcfpepdbflaaGreat.BindO
open Go Go.ChangeShapes Go.WideShapes Go.ChangeAt Go.RowKit Go.Deep
open Byt (str)
open BindP BindD
open Rows (uptoBulk uptoBulkAll)
structure Sv (α : Type) where
 a : Option Addr
 c : Nat
 l : List α
def Sv.v {α : Type} (s : Sv α) : Value:=.slice s.a s.l.length s.c
abbrev top : Nat→Prop:=fun _=>True
section
variable {H : Type}
theorem one_le (d : DataW H) : 1≤uptoBulk d:=by
 cases d with
 | lit l=>cases l <;> simp [Rows.uptoBulk]
 | nil=>simp [Rows.uptoBulk]
 | ptr d=>simp [Rows.uptoBulk]
 | slice elems spare=>simp [Rows.uptoBulk]
 | agg parts=>simp [Rows.uptoBulk]
 | iface t d=>simp [Rows.uptoBulk]
 | map entries=>simp [Rows.uptoBulk]
 | held h=>simp [Rows.uptoBulk]
theorem sum_le {α : Type} {m : α→Nat} : ∀ (l : List α) (ds : List (DataW H)),l.length=ds.length→(∀ (i : Nat) x d,l[i]?=some x→ds[i]?=some d→m x≤uptoBulk d)→(l.map m).sum≤uptoBulkAll ds
 | [],_,_,_=>by simp
 | x :: l,[],h,_=>by simp at h
 | x :: l,d :: ds,h,hm=>by
  have h1:=hm 0 x d rfl rfl
  have h2:=sum_le l ds (by simpa using h) (fun i y e hy he=>hm (i + 1) y e (by simpa using hy) (by simpa using he))
  simp only [List.map_cons,List.sum_cons,Rows.uptoBulkAll]
  omega
end
section
variable {H : Type} {en : TypeId × Value→H} {P : Program} {w : World} {base : Nat} {spare : Nat→Bool} {held : Bool}
theorem trod_lg {α : Type} {enc : α→List Value} {R : (Nat→Prop)→World→α→Prop} {k : Nat} {m : α→Nat} (hk : ∀ x,(enc x).length=k) (h0k : 0 < k) {T E : TypeId} (hT : P.underlying T=some (.slice E)) (hE : P.cellsOf E=k)
  {n : Nat} {v : Value} {y : DataW H × List MemPlace}
  (hopen : ∀ (n' : Nat) (cs : List Value) (y : DataW H × List MemPlace),n' < n→cs.length=k→DataW.trod en P w base spare held n' E cs=some y→∃ x,cs=enc x∧R top w x∧m x≤uptoBulk y.1)
  (h : DataW.trod en P w base spare held n T [v]=some y) : ∃ s : Sv α,v=s.v∧Lg enc R top w s.a s.c s.l∧(s.l.map m).sum + 1≤uptoBulk y.1:=by
 rcases DataW.trod_slice hT h with ⟨hcs,rfl⟩ | ⟨a,len,cap,elems,rest,n',hf,hcs,rfl,hb,hl,hm,hlen,hel,_,_⟩
 ·obtain rfl : v=.slice none 0 0:=by simpa using hcs
  exact ⟨⟨none,0,[]⟩,rfl,Lg.nil w,one_le _⟩
 ·obtain rfl : v=.slice (some a) len cap:=by simpa using hcs
  rw [hE] at hel
  have hc1 : ∀ i,i < len→∃ x,(∃ d,(elems.map (·.1))[i]?=some d∧m x≤uptoBulk d)∧R top w x∧∀ j,j < k→w.cell? ((a.add (i * k)).add j)=(enc x)[j]?:=by
   intro i hil
   have h1:=hel i hil
   have hle : i < elems.length:=by omega
   rw [List.getElem?_eq_getElem hle] at h1
   obtain ⟨cs',hc,ht⟩:=Option.bind_eq_some_iff.1 h1
   obtain ⟨_,hcl,hat⟩:=World.cells?_some hc
   obtain ⟨x,rfl,hr,hmx⟩:=hopen n' _ _ (by omega) hcl ht
   exact ⟨x,⟨_,by rw [List.getElem?_map,List.getElem?_eq_getElem hle];rfl,hmx⟩,hr,hat⟩
  obtain ⟨l,hll,hlc⟩:=Sq.choose_list len hc1
  refine ⟨⟨some a,cap,l⟩,by unfold Sv.v;rw [hll],⟨⟨by rw [hll];exact hl,hm,⟨rfl,fun h0=>?_⟩,fun _ _ _=>trivial⟩,fun x hx=>?_⟩,?_⟩
  ·rw [hll] at h0
   obtain ⟨x0,_,_,h00⟩:=hc1 0 h0
   have h00:=h00 0 h0k
   obtain ⟨b,o,sp⟩:=a
   have hadd0 : ((⟨b,o,sp⟩ : Addr).add (0 * k)).add 0=⟨b,o,sp⟩:=by simp [Addr.add]
   rw [hadd0,List.getElem?_eq_getElem (by rw [hk];exact h0k)] at h00
   have hsp : sp=none:=by
    cases sp with
    | none=>rfl
    | some s=>simp [World.cell?] at h00;split at h00 <;> simp at h00
   subst hsp
   refine ⟨b,o,rfl,?_,fun j u hu=>?_⟩
   ·rcases Nat.lt_or_ge b w.heap.size with h | h
    ·exact h
    ·simp [World.cell?,Array.getElem?_eq_none h] at h00
   ·have hjl:=(List.getElem?_eq_some_iff.1 hu).1
    rw [Sk.flat_len hk] at hjl
    have hq : j / k < l.length:=Nat.div_lt_of_lt_mul (by rw [Nat.mul_comm];exact hjl)
    have hr : j % k < k:=Nat.mod_lt _ h0k
    have hjd : j / k * k + j % k=j:=Nat.div_add_mod' j k
    have h3:=hlc (j / k) _ (List.getElem?_eq_getElem hq)
    have h4:=h3.2.2 (j % k) hr
    have h5:=Sk.flat_at hk l (j / k) (j % k) _ (List.getElem?_eq_getElem hq) hr
    rw [hjd] at h5
    rw [← h5,hu] at h4
    have e : ((⟨b,o,none⟩ : Addr).add (j / k * k)).add (j % k)=⟨b,o + j,none⟩:=by
     have e1 : ∀ (x y : Nat),(⟨b,x,none⟩ : Addr).add y=⟨b,x + y,none⟩:=fun x y=>by
      unfold Addr.add
      split
      ·rename_i h0;rw [h0];rfl
      ·rfl
     rw [e1,e1,Nat.add_assoc,hjd]
    rw [e] at h4
    exact h4
  ·obtain ⟨i,hi,rfl⟩:=List.getElem_of_mem hx
   exact (hlc i _ (List.getElem?_eq_getElem hi)).2.1
  ·have h1 : (l.map m).sum≤uptoBulkAll (elems.map (·.1)):=sum_le l _ (by rw [List.length_map,hll,hlen]) (fun i x d hx hd=>by
    obtain ⟨⟨d',hd',hm'⟩,_⟩:=hlc i x hx
    rw [hd] at hd'
    injection hd' with hd'
    rw [hd'];exact hm')
   show (l.map m).sum + 1≤uptoBulk (.slice _ _)
   simp only [Rows.uptoBulk]
   omega
end
theorem cells_int : Tryz.prog.cellsOf 3=1:=by kernel_rfl
theorem cells_bool : Tryz.prog.cellsOf 4=1:=by kernel_rfl
theorem cells_str : Tryz.prog.cellsOf 9=1:=by kernel_rfl
theorem cells_strs : Tryz.prog.cellsOf 22=1:=by kernel_rfl
def svE (s : S) : List Value:=[sv s]
def Rt : (Nat→Prop)→World→S→Prop:=fun _ _ _=>True
theorem stays_t : Stays Rt:=fun _ _ _ _ _ _ _=>trivial
section
variable {H : Type} {enc : TypeId × Value→H} {w : World} {base : Nat} {spare : Nat→Bool} {held : Bool} {n : Nat} {v : Value} {y : DataW H × List MemPlace}
theorem int_of (h : DataW.trod enc Tryz.prog w base spare held n 3 [v]=some y) : ∃ x : Int,v=.int .i64 x∧1≤uptoBulk y.1:=by
 obtain ⟨x,hx,_,wx⟩:=DataW.trod_int Tryz.underlying3 h
 exact ⟨x,by simpa using hx,one_le _⟩
theorem bool_of (h : DataW.trod enc Tryz.prog w base spare held n 4 [v]=some y) : ∃ x : Bool,v=.bool x∧1≤uptoBulk y.1:=by
 obtain ⟨x,hx,_⟩:=DataW.trod_bool Tryz.underlying4 h
 exact ⟨x,by simpa using hx,one_le _⟩
theorem str_of (h : DataW.trod enc Tryz.prog w base spare held n 9 [v]=some y) : ∃ x : S,v=sv x∧x.length + 1≤uptoBulk y.1:=by
 obtain ⟨x,hx,he,hm⟩:=DataW.trod_string Tryz.underlying9 h
 refine ⟨x.data.toList,?_,?_⟩
 ·unfold sv;rw [Byt.str_data];simpa using hx
 ·rw [he];simp [Rows.uptoBulk]
theorem strs_of (h : DataW.trod enc Tryz.prog w base spare held n 22 [v]=some y) : ∃ s : Sv S,v=s.v∧Lg svE Rt top w s.a s.c s.l∧(s.l.map fun x=>x.length + 1).sum + 1≤uptoBulk y.1:=
 trod_lg (enc:=svE) (k:=1) (fun _=>rfl) (by omega) Tryz.underlying22 cells_str (fun n' cs y _ hl h=>by
  match cs,hl with
  | [c],_=>
   obtain ⟨x,rfl,hx⟩:=str_of h
   exact ⟨x,rfl,trivial,hx⟩) h
end
mutual
def nE : Pe→Nat
 | .mk _ _ _ s ar=>s.length + nEs ar + 1
def nEs : List Pe→Nat
 | []=>0
 | a :: l=>nE a + nEs l
end
mutual
def nS : Ps→Nat
 | .mk _ _ s ar b e=>s.length + nEs ar + nB b + nB e + 1
def nB : List Ps→Nat
 | []=>0
 | a :: l=>nS a + nB l
end
theorem nEs_sum : ∀ l : List Ex,nEs (exPs l)=(l.map fun x=>nE x.p).sum
 | []=>by simp [exPs,nEs]
 | a :: l=>by simp [exPs,nEs,nEs_sum l]
theorem nB_sum : ∀ l : List St,nB (stPs l)=(l.map fun x=>nS x.p).sum
 | []=>by simp [stPs,nB]
 | a :: l=>by simp [stPs,nB,nB_sum l]
theorem cells_ex : Tryz.prog.cellsOf 68=5:=by kernel_rfl
theorem cells_exs : Tryz.prog.cellsOf 50=1:=by kernel_rfl
theorem cells_st : Tryz.prog.cellsOf 65=6:=by kernel_rfl
theorem cells_sts : Tryz.prog.cellsOf 46=1:=by kernel_rfl
set_option maxRecDepth 100000 in
theorem ex_of {H : Type} {enc : TypeId × Value→H} {w : World} {base : Nat} {spare : Nat→Bool} {held : Bool} : ∀ (fuel : Nat) (cs : List Value) (x : DataW H × List MemPlace),cs.length=5→DataW.trod enc Tryz.prog w base spare held fuel 68 cs=some x→∃ t,cs=exE t∧RdX top w t∧nE t.p≤uptoBulk x.1:=by
 intro fuel
 induction fuel using Nat.strongRecOn with
 | _ fuel ih=>
  intro cs x hl h
  obtain ⟨xs,n,hn,hx,_,hlen,hg⟩:=DataW.trod_struct Tryz.underlying68 h
  match cs,hl with
  | [c0,c1,c2,c3,c4],_=>
   match xs,hlen with
   | [y0,y1,y2,y3,y4],_=>
    have e0 : DataW.trod enc Tryz.prog w base spare held n 3 [c0]=some y0:=by simpa [cells_int] using hg 0 _ rfl
    have e1 : DataW.trod enc Tryz.prog w base spare held n 3 [c1]=some y1:=by simpa [cells_int] using hg 1 _ rfl
    have e2 : DataW.trod enc Tryz.prog w base spare held n 3 [c2]=some y2:=by simpa [cells_int] using hg 2 _ rfl
    have e3 : DataW.trod enc Tryz.prog w base spare held n 9 [c3]=some y3:=by simpa [cells_str] using hg 3 _ rfl
    have e4 : DataW.trod enc Tryz.prog w base spare held n 50 [c4]=some y4:=by simpa [cells_exs] using hg 4 _ rfl
    obtain ⟨x0,rfl,_⟩:=int_of e0
    obtain ⟨x1,rfl,_⟩:=int_of e1
    obtain ⟨x2,rfl,_⟩:=int_of e2
    obtain ⟨x3,rfl,m3⟩:=str_of e3
    obtain ⟨s,rfl,hs,hm⟩:=trod_lg (R:=RdX) (m:=fun x=>nE x.p) exE_len (by omega) Tryz.underlying50 cells_ex (fun n' cs y hlt hl h=>ih n' (by omega) cs y hl h) e4
    refine ⟨.mk x0 x1 x2 x3 s.a s.c s.l,rfl,.mk hs.1 hs.2,?_⟩
    rw [hx]
    simp only [Ex.p,nE,nEs_sum,List.map_cons,List.map_nil,Rows.uptoBulk,Rows.uptoBulkAll]
    omega
theorem exs_of {H : Type} {enc : TypeId × Value→H} {w : World} {base : Nat} {spare : Nat→Bool} {held : Bool} {n : Nat} {v : Value} {y : DataW H × List MemPlace} (h : DataW.trod enc Tryz.prog w base spare held n 50 [v]=some y) :
  ∃ s : Sv Ex,v=s.v∧Lx top w s.a s.c s.l∧nEs (exPs s.l) + 1≤uptoBulk y.1:=by
 obtain ⟨s,h1,h2,h3⟩:=trod_lg (R:=RdX) (m:=fun x=>nE x.p) exE_len (by omega) Tryz.underlying50 cells_ex (fun n' cs y _ hl h=>ex_of n' cs y hl h) h
 exact ⟨s,h1,h2,by rw [nEs_sum];exact h3⟩
set_option maxRecDepth 100000 in
theorem st_of {H : Type} {enc : TypeId × Value→H} {w : World} {base : Nat} {spare : Nat→Bool} {held : Bool} : ∀ (fuel : Nat) (cs : List Value) (x : DataW H × List MemPlace),cs.length=6→DataW.trod enc Tryz.prog w base spare held fuel 65 cs=some x→∃ t,cs=stE t∧RdS top w t∧nS t.p≤uptoBulk x.1:=by
 intro fuel
 induction fuel using Nat.strongRecOn with
 | _ fuel ih=>
  intro cs x hl h
  obtain ⟨xs,n,hn,hx,_,hlen,hg⟩:=DataW.trod_struct Tryz.underlying65 h
  match cs,hl with
  | [c0,c1,c2,c3,c4,c5],_=>
   match xs,hlen with
   | [y0,y1,y2,y3,y4,y5],_=>
    have e0 : DataW.trod enc Tryz.prog w base spare held n 3 [c0]=some y0:=by simpa [cells_int] using hg 0 _ rfl
    have e1 : DataW.trod enc Tryz.prog w base spare held n 3 [c1]=some y1:=by simpa [cells_int] using hg 1 _ rfl
    have e2 : DataW.trod enc Tryz.prog w base spare held n 9 [c2]=some y2:=by simpa [cells_str] using hg 2 _ rfl
    have e3 : DataW.trod enc Tryz.prog w base spare held n 50 [c3]=some y3:=by simpa [cells_exs] using hg 3 _ rfl
    have e4 : DataW.trod enc Tryz.prog w base spare held n 46 [c4]=some y4:=by simpa [cells_sts] using hg 4 _ rfl
    have e5 : DataW.trod enc Tryz.prog w base spare held n 46 [c5]=some y5:=by simpa [cells_sts] using hg 5 _ rfl
    obtain ⟨x0,rfl,_⟩:=int_of e0
    obtain ⟨x1,rfl,_⟩:=int_of e1
    obtain ⟨x2,rfl,m2⟩:=str_of e2
    obtain ⟨s3,rfl,hs3,hm3⟩:=exs_of e3
    obtain ⟨s4,rfl,hs4,hm4⟩:=trod_lg (R:=RdS) (m:=fun x=>nS x.p) stE_len (by omega) Tryz.underlying46 cells_st (fun n' cs y hlt hl h=>ih n' (by omega) cs y hl h) e4
    obtain ⟨s5,rfl,hs5,hm5⟩:=trod_lg (R:=RdS) (m:=fun x=>nS x.p) stE_len (by omega) Tryz.underlying46 cells_st (fun n' cs y hlt hl h=>ih n' (by omega) cs y hl h) e5
    refine ⟨.mk x0 x1 x2 s3.a s3.c s3.l s4.a s4.c s4.l s5.a s5.c s5.l,rfl,.mk hs3.1 hs3.2 hs4.1 hs4.2 hs5.1 hs5.2,?_⟩
    rw [hx]
    simp only [St.p,nS,nB_sum,List.map_cons,List.map_nil,Rows.uptoBulk,Rows.uptoBulkAll]
    omega
theorem sts_of {H : Type} {enc : TypeId × Value→H} {w : World} {base : Nat} {spare : Nat→Bool} {held : Bool} {n : Nat} {v : Value} {y : DataW H × List MemPlace} (h : DataW.trod enc Tryz.prog w base spare held n 46 [v]=some y) :
  ∃ s : Sv St,v=s.v∧Ls top w s.a s.c s.l∧nB (stPs s.l) + 1≤uptoBulk y.1:=by
 obtain ⟨s,h1,h2,h3⟩:=trod_lg (R:=RdS) (m:=fun x=>nS x.p) stE_len (by omega) Tryz.underlying46 cells_st (fun n' cs y _ hl h=>st_of n' cs y hl h) h
 exact ⟨s,h1,h2,by rw [nB_sum];exact h3⟩
structure Pr where
 nm : S
 num : Int
def Pr.e (t : Pr) : List Value:=[sv t.nm,.int .i64 t.num]
def Pr.m (t : Pr) : Nat:=(t.nm.length + 1) + 1
def Pr.R : (Nat→Prop)→World→Pr→Prop:=fun _ _ _=>True
theorem Pr.stays : Stays Pr.R:=fun _ _ _ _ _ _ _=>trivial
theorem Pr.len (t : Pr) : (Pr.e t).length=2:=rfl
theorem cells_pair : Tryz.prog.cellsOf 77=2:=by kernel_rfl
set_option maxRecDepth 100000 in
theorem pair_of {H : Type} {enc : TypeId × Value→H} {w : World} {base : Nat} {spare : Nat→Bool} {held : Bool} {fuel : Nat} {cs : List Value} {x : DataW H × List MemPlace} (hl : cs.length=2) (h : DataW.trod enc Tryz.prog w base spare held fuel 77 cs=some x) : ∃ t,cs=Pr.e t∧Pr.R top w t∧Pr.m t≤uptoBulk x.1:=by
 obtain ⟨xs,n,_,hx,_,hlen,hg⟩:=DataW.trod_struct Tryz.underlying77 h
 match cs,hl with
 | [c0,c1],_=>
  match xs,hlen with
  | [y0,y1],_=>
   have e0 : DataW.trod enc Tryz.prog w base spare held n 9 [c0]=some y0:=by simpa [cells_str] using hg 0 _ rfl
   have e1 : DataW.trod enc Tryz.prog w base spare held n 3 [c1]=some y1:=by simpa [cells_int] using hg 1 _ rfl
   obtain ⟨x0,rfl,m0⟩:=str_of e0
   obtain ⟨x1,rfl,m1⟩:=int_of e1
   refine ⟨⟨x0,x1⟩,rfl,trivial,?_⟩
   rw [hx]
   simp only [Pr.m,List.map_cons,List.map_nil,Rows.uptoBulk,Rows.uptoBulkAll]
   omega
theorem cells_pairs : Tryz.prog.cellsOf 23=1:=by kernel_rfl
theorem pairs_of {H : Type} {enc : TypeId × Value→H} {w : World} {base : Nat} {spare : Nat→Bool} {held : Bool} {n : Nat} {v : Value} {y : DataW H × List MemPlace} (h : DataW.trod enc Tryz.prog w base spare held n 23 [v]=some y) :
  ∃ s : Sv Pr,v=s.v∧Lg Pr.e Pr.R top w s.a s.c s.l∧(s.l.map Pr.m).sum + 1≤uptoBulk y.1:=
 trod_lg (R:=Pr.R) Pr.len (by omega) Tryz.underlying23 cells_pair (fun n' cs y _ hl h=>pair_of hl h) h
structure Xt where
 dir : Int
 to : S
 els : S
 wh : Sv Ex
def Xt.e (t : Xt) : List Value:=[.int .i64 t.dir,sv t.to,sv t.els,t.wh.v]
def Xt.m (t : Xt) : Nat:=1 + (t.to.length + 1) + (t.els.length + 1) + (nEs (exPs t.wh.l) + 1)
def Xt.R (K : Nat→Prop) (w : World) (t : Xt) : Prop:=Lg exE RdX K w t.wh.a t.wh.c t.wh.l
theorem Xt.stays : Stays Xt.R:=fun _ _ _ _ _ h r=>Lg.keep stays_x h (r)
theorem Xt.len (t : Xt) : (Xt.e t).length=4:=rfl
theorem cells_exit : Tryz.prog.cellsOf 106=4:=by kernel_rfl
set_option maxRecDepth 100000 in
theorem exit_of {H : Type} {enc : TypeId × Value→H} {w : World} {base : Nat} {spare : Nat→Bool} {held : Bool} {fuel : Nat} {cs : List Value} {x : DataW H × List MemPlace} (hl : cs.length=4) (h : DataW.trod enc Tryz.prog w base spare held fuel 106 cs=some x) : ∃ t,cs=Xt.e t∧Xt.R top w t∧Xt.m t≤uptoBulk x.1:=by
 obtain ⟨xs,n,_,hx,_,hlen,hg⟩:=DataW.trod_struct Tryz.underlying106 h
 match cs,hl with
 | [c0,c1,c2,c3],_=>
  match xs,hlen with
  | [y0,y1,y2,y3],_=>
   have e0 : DataW.trod enc Tryz.prog w base spare held n 3 [c0]=some y0:=by simpa [cells_int] using hg 0 _ rfl
   have e1 : DataW.trod enc Tryz.prog w base spare held n 9 [c1]=some y1:=by simpa [cells_str] using hg 1 _ rfl
   have e2 : DataW.trod enc Tryz.prog w base spare held n 9 [c2]=some y2:=by simpa [cells_str] using hg 2 _ rfl
   have e3 : DataW.trod enc Tryz.prog w base spare held n 50 [c3]=some y3:=by simpa [cells_exs] using hg 3 _ rfl
   obtain ⟨x0,rfl,m0⟩:=int_of e0
   obtain ⟨x1,rfl,m1⟩:=str_of e1
   obtain ⟨x2,rfl,m2⟩:=str_of e2
   obtain ⟨x3,rfl,r3,m3⟩:=exs_of e3
   refine ⟨⟨x0,x1,x2,x3⟩,rfl,r3,?_⟩
   rw [hx]
   simp only [Xt.m,List.map_cons,List.map_nil,Rows.uptoBulk,Rows.uptoBulkAll]
   omega
theorem cells_exits : Tryz.prog.cellsOf 61=1:=by kernel_rfl
theorem exits_of {H : Type} {enc : TypeId × Value→H} {w : World} {base : Nat} {spare : Nat→Bool} {held : Bool} {n : Nat} {v : Value} {y : DataW H × List MemPlace} (h : DataW.trod enc Tryz.prog w base spare held n 61 [v]=some y) :
  ∃ s : Sv Xt,v=s.v∧Lg Xt.e Xt.R top w s.a s.c s.l∧(s.l.map Xt.m).sum + 1≤uptoBulk y.1:=
 trod_lg (R:=Xt.R) Xt.len (by omega) Tryz.underlying61 cells_exit (fun n' cs y _ hl h=>exit_of hl h) h
structure Ob where
 nm : S
 ti : S
 inn : S
 tx : S
 room : Bool
 ws : Sv S
 adj : Sv S
 fl : Sv S
 pr : Sv Pr
 xt : Sv Xt
def Ob.e (t : Ob) : List Value:=[sv t.nm,sv t.ti,sv t.inn,sv t.tx,.bool t.room,t.ws.v,t.adj.v,t.fl.v,t.pr.v,t.xt.v]
def Ob.m (t : Ob) : Nat:=(t.nm.length + 1) + (t.ti.length + 1) + (t.inn.length + 1) + (t.tx.length + 1) + 1 + ((t.ws.l.map fun x=>x.length + 1).sum + 1) + ((t.adj.l.map fun x=>x.length + 1).sum + 1) + ((t.fl.l.map fun x=>x.length + 1).sum + 1) + ((t.pr.l.map Pr.m).sum + 1) + ((t.xt.l.map Xt.m).sum + 1)
def Ob.R (K : Nat→Prop) (w : World) (t : Ob) : Prop:=Lg svE Rt K w t.ws.a t.ws.c t.ws.l∧Lg svE Rt K w t.adj.a t.adj.c t.adj.l∧Lg svE Rt K w t.fl.a t.fl.c t.fl.l∧Lg Pr.e Pr.R K w t.pr.a t.pr.c t.pr.l∧Lg Xt.e Xt.R K w t.xt.a t.xt.c t.xt.l
theorem Ob.stays : Stays Ob.R:=fun _ _ _ _ _ h r=>⟨Lg.keep stays_t h (r.1),Lg.keep stays_t h (r.2.1),Lg.keep stays_t h (r.2.2.1),Lg.keep Pr.stays h (r.2.2.2.1),Lg.keep Xt.stays h (r.2.2.2.2)⟩
theorem Ob.len (t : Ob) : (Ob.e t).length=10:=rfl
theorem cells_object : Tryz.prog.cellsOf 63=10:=by kernel_rfl
set_option maxRecDepth 100000 in
theorem object_of {H : Type} {enc : TypeId × Value→H} {w : World} {base : Nat} {spare : Nat→Bool} {held : Bool} {fuel : Nat} {cs : List Value} {x : DataW H × List MemPlace} (hl : cs.length=10) (h : DataW.trod enc Tryz.prog w base spare held fuel 63 cs=some x) : ∃ t,cs=Ob.e t∧Ob.R top w t∧Ob.m t≤uptoBulk x.1:=by
 obtain ⟨xs,n,_,hx,_,hlen,hg⟩:=DataW.trod_struct Tryz.underlying63 h
 match cs,hl with
 | [c0,c1,c2,c3,c4,c5,c6,c7,c8,c9],_=>
  match xs,hlen with
  | [y0,y1,y2,y3,y4,y5,y6,y7,y8,y9],_=>
   have e0 : DataW.trod enc Tryz.prog w base spare held n 9 [c0]=some y0:=by simpa [cells_str] using hg 0 _ rfl
   have e1 : DataW.trod enc Tryz.prog w base spare held n 9 [c1]=some y1:=by simpa [cells_str] using hg 1 _ rfl
   have e2 : DataW.trod enc Tryz.prog w base spare held n 9 [c2]=some y2:=by simpa [cells_str] using hg 2 _ rfl
   have e3 : DataW.trod enc Tryz.prog w base spare held n 9 [c3]=some y3:=by simpa [cells_str] using hg 3 _ rfl
   have e4 : DataW.trod enc Tryz.prog w base spare held n 4 [c4]=some y4:=by simpa [cells_bool] using hg 4 _ rfl
   have e5 : DataW.trod enc Tryz.prog w base spare held n 22 [c5]=some y5:=by simpa [cells_strs] using hg 5 _ rfl
   have e6 : DataW.trod enc Tryz.prog w base spare held n 22 [c6]=some y6:=by simpa [cells_strs] using hg 6 _ rfl
   have e7 : DataW.trod enc Tryz.prog w base spare held n 22 [c7]=some y7:=by simpa [cells_strs] using hg 7 _ rfl
   have e8 : DataW.trod enc Tryz.prog w base spare held n 23 [c8]=some y8:=by simpa [cells_pairs] using hg 8 _ rfl
   have e9 : DataW.trod enc Tryz.prog w base spare held n 61 [c9]=some y9:=by simpa [cells_exits] using hg 9 _ rfl
   obtain ⟨x0,rfl,m0⟩:=str_of e0
   obtain ⟨x1,rfl,m1⟩:=str_of e1
   obtain ⟨x2,rfl,m2⟩:=str_of e2
   obtain ⟨x3,rfl,m3⟩:=str_of e3
   obtain ⟨x4,rfl,m4⟩:=bool_of e4
   obtain ⟨x5,rfl,r5,m5⟩:=strs_of e5
   obtain ⟨x6,rfl,r6,m6⟩:=strs_of e6
   obtain ⟨x7,rfl,r7,m7⟩:=strs_of e7
   obtain ⟨x8,rfl,r8,m8⟩:=pairs_of e8
   obtain ⟨x9,rfl,r9,m9⟩:=exits_of e9
   refine ⟨⟨x0,x1,x2,x3,x4,x5,x6,x7,x8,x9⟩,rfl,⟨r5,r6,r7,r8,r9⟩,?_⟩
   rw [hx]
   simp only [Ob.m,List.map_cons,List.map_nil,Rows.uptoBulk,Rows.uptoBulkAll]
   omega
theorem cells_objects : Tryz.prog.cellsOf 24=1:=by kernel_rfl
theorem objects_of {H : Type} {enc : TypeId × Value→H} {w : World} {base : Nat} {spare : Nat→Bool} {held : Bool} {n : Nat} {v : Value} {y : DataW H × List MemPlace} (h : DataW.trod enc Tryz.prog w base spare held n 24 [v]=some y) :
  ∃ s : Sv Ob,v=s.v∧Lg Ob.e Ob.R top w s.a s.c s.l∧(s.l.map Ob.m).sum + 1≤uptoBulk y.1:=
 trod_lg (R:=Ob.R) Ob.len (by omega) Tryz.underlying24 cells_object (fun n' cs y _ hl h=>object_of hl h) h
structure Sw where
 ki : Int
 ws : Sv S
def Sw.e (t : Sw) : List Value:=[.int .i64 t.ki,t.ws.v]
def Sw.m (t : Sw) : Nat:=1 + ((t.ws.l.map fun x=>x.length + 1).sum + 1)
def Sw.R (K : Nat→Prop) (w : World) (t : Sw) : Prop:=Lg svE Rt K w t.ws.a t.ws.c t.ws.l
theorem Sw.stays : Stays Sw.R:=fun _ _ _ _ _ h r=>Lg.keep stays_t h (r)
theorem Sw.len (t : Sw) : (Sw.e t).length=2:=rfl
theorem cells_slot : Tryz.prog.cellsOf 170=2:=by kernel_rfl
set_option maxRecDepth 100000 in
theorem slot_of {H : Type} {enc : TypeId × Value→H} {w : World} {base : Nat} {spare : Nat→Bool} {held : Bool} {fuel : Nat} {cs : List Value} {x : DataW H × List MemPlace} (hl : cs.length=2) (h : DataW.trod enc Tryz.prog w base spare held fuel 170 cs=some x) : ∃ t,cs=Sw.e t∧Sw.R top w t∧Sw.m t≤uptoBulk x.1:=by
 obtain ⟨xs,n,_,hx,_,hlen,hg⟩:=DataW.trod_struct Tryz.underlying170 h
 match cs,hl with
 | [c0,c1],_=>
  match xs,hlen with
  | [y0,y1],_=>
   have e0 : DataW.trod enc Tryz.prog w base spare held n 3 [c0]=some y0:=by simpa [cells_int] using hg 0 _ rfl
   have e1 : DataW.trod enc Tryz.prog w base spare held n 22 [c1]=some y1:=by simpa [cells_strs] using hg 1 _ rfl
   obtain ⟨x0,rfl,m0⟩:=int_of e0
   obtain ⟨x1,rfl,r1,m1⟩:=strs_of e1
   refine ⟨⟨x0,x1⟩,rfl,r1,?_⟩
   rw [hx]
   simp only [Sw.m,List.map_cons,List.map_nil,Rows.uptoBulk,Rows.uptoBulkAll]
   omega
theorem slots_of {H : Type} {enc : TypeId × Value→H} {w : World} {base : Nat} {spare : Nat→Bool} {held : Bool} {n : Nat} {v : Value} {y : DataW H × List MemPlace} (h : DataW.trod enc Tryz.prog w base spare held n 168 [v]=some y) :
  ∃ s : Sv Sw,v=s.v∧Lg Sw.e Sw.R top w s.a s.c s.l∧(s.l.map Sw.m).sum + 1≤uptoBulk y.1:=
 trod_lg (R:=Sw.R) Sw.len (by omega) Tryz.underlying168 cells_slot (fun n' cs y _ hl h=>slot_of hl h) h
abbrev Ln:=Sv Sw
def Ln.e (t : Ln) : List Value:=[t.v]
def Ln.R (K : Nat→Prop) (w : World) (t : Ln) : Prop:=Lg Sw.e Sw.R K w t.a t.c t.l
def Ln.m (t : Ln) : Nat:=(t.l.map Sw.m).sum + 1
theorem Ln.len (t : Ln) : (Ln.e t).length=1:=rfl
theorem Ln.stays : Stays Ln.R:=fun _ _ _ _ _ h r=>Lg.keep Sw.stays h r
theorem cells_line : Tryz.prog.cellsOf 168=1:=by kernel_rfl
theorem cells_lines : Tryz.prog.cellsOf 83=1:=by kernel_rfl
theorem line_of {H : Type} {enc : TypeId × Value→H} {w : World} {base : Nat} {spare : Nat→Bool} {held : Bool} {fuel : Nat} {cs : List Value} {x : DataW H × List MemPlace} (hl : cs.length=1) (h : DataW.trod enc Tryz.prog w base spare held fuel 168 cs=some x) : ∃ t,cs=Ln.e t∧Ln.R top w t∧Ln.m t≤uptoBulk x.1:=by
 match cs,hl with
 | [c],_=>
  obtain ⟨s,rfl,h1,h2⟩:=slots_of h
  exact ⟨s,rfl,h1,h2⟩
theorem lines_of {H : Type} {enc : TypeId × Value→H} {w : World} {base : Nat} {spare : Nat→Bool} {held : Bool} {n : Nat} {v : Value} {y : DataW H × List MemPlace} (h : DataW.trod enc Tryz.prog w base spare held n 83 [v]=some y) :
  ∃ s : Sv Ln,v=s.v∧Lg Ln.e Ln.R top w s.a s.c s.l∧(s.l.map Ln.m).sum + 1≤uptoBulk y.1:=
 trod_lg (R:=Ln.R) Ln.len (by omega) Tryz.underlying83 cells_line (fun n' cs y _ hl h=>line_of hl h) h
structure Vb where
 nm : S
 me : Bool
 li : Sv Ln
def Vb.e (t : Vb) : List Value:=[sv t.nm,.bool t.me,t.li.v]
def Vb.m (t : Vb) : Nat:=(t.nm.length + 1) + 1 + ((t.li.l.map Ln.m).sum + 1)
def Vb.R (K : Nat→Prop) (w : World) (t : Vb) : Prop:=Lg Ln.e Ln.R K w t.li.a t.li.c t.li.l
theorem Vb.stays : Stays Vb.R:=fun _ _ _ _ _ h r=>Lg.keep Ln.stays h (r)
theorem Vb.len (t : Vb) : (Vb.e t).length=3:=rfl
theorem cells_verb : Tryz.prog.cellsOf 85=3:=by kernel_rfl
set_option maxRecDepth 100000 in
theorem verb_of {H : Type} {enc : TypeId × Value→H} {w : World} {base : Nat} {spare : Nat→Bool} {held : Bool} {fuel : Nat} {cs : List Value} {x : DataW H × List MemPlace} (hl : cs.length=3) (h : DataW.trod enc Tryz.prog w base spare held fuel 85 cs=some x) : ∃ t,cs=Vb.e t∧Vb.R top w t∧Vb.m t≤uptoBulk x.1:=by
 obtain ⟨xs,n,_,hx,_,hlen,hg⟩:=DataW.trod_struct Tryz.underlying85 h
 match cs,hl with
 | [c0,c1,c2],_=>
  match xs,hlen with
  | [y0,y1,y2],_=>
   have e0 : DataW.trod enc Tryz.prog w base spare held n 9 [c0]=some y0:=by simpa [cells_str] using hg 0 _ rfl
   have e1 : DataW.trod enc Tryz.prog w base spare held n 4 [c1]=some y1:=by simpa [cells_bool] using hg 1 _ rfl
   have e2 : DataW.trod enc Tryz.prog w base spare held n 83 [c2]=some y2:=by simpa [cells_lines] using hg 2 _ rfl
   obtain ⟨x0,rfl,m0⟩:=str_of e0
   obtain ⟨x1,rfl,m1⟩:=bool_of e1
   obtain ⟨x2,rfl,r2,m2⟩:=lines_of e2
   refine ⟨⟨x0,x1,x2⟩,rfl,r2,?_⟩
   rw [hx]
   simp only [Vb.m,List.map_cons,List.map_nil,Rows.uptoBulk,Rows.uptoBulkAll]
   omega
theorem cells_verbs : Tryz.prog.cellsOf 25=1:=by kernel_rfl
theorem verbs_of {H : Type} {enc : TypeId × Value→H} {w : World} {base : Nat} {spare : Nat→Bool} {held : Bool} {n : Nat} {v : Value} {y : DataW H × List MemPlace} (h : DataW.trod enc Tryz.prog w base spare held n 25 [v]=some y) :
  ∃ s : Sv Vb,v=s.v∧Lg Vb.e Vb.R top w s.a s.c s.l∧(s.l.map Vb.m).sum + 1≤uptoBulk y.1:=
 trod_lg (R:=Vb.R) Vb.len (by omega) Tryz.underlying25 cells_verb (fun n' cs y _ hl h=>verb_of hl h) h
structure Rl where
 vb : S
 ph : Int
 no : S
 se : S
 wh : Sv Ex
 body : Sv St
def Rl.e (t : Rl) : List Value:=[sv t.vb,.int .i64 t.ph,sv t.no,sv t.se,t.wh.v,t.body.v]
def Rl.m (t : Rl) : Nat:=(t.vb.length + 1) + 1 + (t.no.length + 1) + (t.se.length + 1) + (nEs (exPs t.wh.l) + 1) + (nB (stPs t.body.l) + 1)
def Rl.R (K : Nat→Prop) (w : World) (t : Rl) : Prop:=Lg exE RdX K w t.wh.a t.wh.c t.wh.l∧Lg stE RdS K w t.body.a t.body.c t.body.l
theorem Rl.stays : Stays Rl.R:=fun _ _ _ _ _ h r=>⟨Lg.keep stays_x h (r.1),Lg.keep stays_s h (r.2)⟩
theorem Rl.len (t : Rl) : (Rl.e t).length=6:=rfl
theorem cells_rule : Tryz.prog.cellsOf 52=6:=by kernel_rfl
set_option maxRecDepth 100000 in
theorem rule_of {H : Type} {enc : TypeId × Value→H} {w : World} {base : Nat} {spare : Nat→Bool} {held : Bool} {fuel : Nat} {cs : List Value} {x : DataW H × List MemPlace} (hl : cs.length=6) (h : DataW.trod enc Tryz.prog w base spare held fuel 52 cs=some x) : ∃ t,cs=Rl.e t∧Rl.R top w t∧Rl.m t≤uptoBulk x.1:=by
 obtain ⟨xs,n,_,hx,_,hlen,hg⟩:=DataW.trod_struct Tryz.underlying52 h
 match cs,hl with
 | [c0,c1,c2,c3,c4,c5],_=>
  match xs,hlen with
  | [y0,y1,y2,y3,y4,y5],_=>
   have e0 : DataW.trod enc Tryz.prog w base spare held n 9 [c0]=some y0:=by simpa [cells_str] using hg 0 _ rfl
   have e1 : DataW.trod enc Tryz.prog w base spare held n 3 [c1]=some y1:=by simpa [cells_int] using hg 1 _ rfl
   have e2 : DataW.trod enc Tryz.prog w base spare held n 9 [c2]=some y2:=by simpa [cells_str] using hg 2 _ rfl
   have e3 : DataW.trod enc Tryz.prog w base spare held n 9 [c3]=some y3:=by simpa [cells_str] using hg 3 _ rfl
   have e4 : DataW.trod enc Tryz.prog w base spare held n 50 [c4]=some y4:=by simpa [cells_exs] using hg 4 _ rfl
   have e5 : DataW.trod enc Tryz.prog w base spare held n 46 [c5]=some y5:=by simpa [cells_sts] using hg 5 _ rfl
   obtain ⟨x0,rfl,m0⟩:=str_of e0
   obtain ⟨x1,rfl,m1⟩:=int_of e1
   obtain ⟨x2,rfl,m2⟩:=str_of e2
   obtain ⟨x3,rfl,m3⟩:=str_of e3
   obtain ⟨x4,rfl,r4,m4⟩:=exs_of e4
   obtain ⟨x5,rfl,r5,m5⟩:=sts_of e5
   refine ⟨⟨x0,x1,x2,x3,x4,x5⟩,rfl,⟨r4,r5⟩,?_⟩
   rw [hx]
   simp only [Rl.m,List.map_cons,List.map_nil,Rows.uptoBulk,Rows.uptoBulkAll]
   omega
theorem cells_rules : Tryz.prog.cellsOf 26=1:=by kernel_rfl
theorem rules_of {H : Type} {enc : TypeId × Value→H} {w : World} {base : Nat} {spare : Nat→Bool} {held : Bool} {n : Nat} {v : Value} {y : DataW H × List MemPlace} (h : DataW.trod enc Tryz.prog w base spare held n 26 [v]=some y) :
  ∃ s : Sv Rl,v=s.v∧Lg Rl.e Rl.R top w s.a s.c s.l∧(s.l.map Rl.m).sum + 1≤uptoBulk y.1:=
 trod_lg (R:=Rl.R) Rl.len (by omega) Tryz.underlying26 cells_rule (fun n' cs y _ hl h=>rule_of hl h) h
structure Fn where
 nm : S
 ps : Sv S
 body : Sv St
def Fn.e (t : Fn) : List Value:=[sv t.nm,t.ps.v,t.body.v]
def Fn.m (t : Fn) : Nat:=(t.nm.length + 1) + ((t.ps.l.map fun x=>x.length + 1).sum + 1) + (nB (stPs t.body.l) + 1)
def Fn.R (K : Nat→Prop) (w : World) (t : Fn) : Prop:=Lg svE Rt K w t.ps.a t.ps.c t.ps.l∧Lg stE RdS K w t.body.a t.body.c t.body.l
theorem Fn.stays : Stays Fn.R:=fun _ _ _ _ _ h r=>⟨Lg.keep stays_t h (r.1),Lg.keep stays_s h (r.2)⟩
theorem Fn.len (t : Fn) : (Fn.e t).length=3:=rfl
theorem cells_func : Tryz.prog.cellsOf 94=3:=by kernel_rfl
set_option maxRecDepth 100000 in
theorem func_of {H : Type} {enc : TypeId × Value→H} {w : World} {base : Nat} {spare : Nat→Bool} {held : Bool} {fuel : Nat} {cs : List Value} {x : DataW H × List MemPlace} (hl : cs.length=3) (h : DataW.trod enc Tryz.prog w base spare held fuel 94 cs=some x) : ∃ t,cs=Fn.e t∧Fn.R top w t∧Fn.m t≤uptoBulk x.1:=by
 obtain ⟨xs,n,_,hx,_,hlen,hg⟩:=DataW.trod_struct Tryz.underlying94 h
 match cs,hl with
 | [c0,c1,c2],_=>
  match xs,hlen with
  | [y0,y1,y2],_=>
   have e0 : DataW.trod enc Tryz.prog w base spare held n 9 [c0]=some y0:=by simpa [cells_str] using hg 0 _ rfl
   have e1 : DataW.trod enc Tryz.prog w base spare held n 22 [c1]=some y1:=by simpa [cells_strs] using hg 1 _ rfl
   have e2 : DataW.trod enc Tryz.prog w base spare held n 46 [c2]=some y2:=by simpa [cells_sts] using hg 2 _ rfl
   obtain ⟨x0,rfl,m0⟩:=str_of e0
   obtain ⟨x1,rfl,r1,m1⟩:=strs_of e1
   obtain ⟨x2,rfl,r2,m2⟩:=sts_of e2
   refine ⟨⟨x0,x1,x2⟩,rfl,⟨r1,r2⟩,?_⟩
   rw [hx]
   simp only [Fn.m,List.map_cons,List.map_nil,Rows.uptoBulk,Rows.uptoBulkAll]
   omega
theorem cells_funcs : Tryz.prog.cellsOf 27=1:=by kernel_rfl
theorem funcs_of {H : Type} {enc : TypeId × Value→H} {w : World} {base : Nat} {spare : Nat→Bool} {held : Bool} {n : Nat} {v : Value} {y : DataW H × List MemPlace} (h : DataW.trod enc Tryz.prog w base spare held n 27 [v]=some y) :
  ∃ s : Sv Fn,v=s.v∧Lg Fn.e Fn.R top w s.a s.c s.l∧(s.l.map Fn.m).sum + 1≤uptoBulk y.1:=
 trod_lg (R:=Fn.R) Fn.len (by omega) Tryz.underlying27 cells_func (fun n' cs y _ hl h=>func_of hl h) h
structure So where
 ti : S
 by_ : S
 st : S
 re : Int
 mx : Int
 fl : Sv S
 pr : Sv Pr
 gl : Sv Pr
 ob : Sv Ob
 vb : Sv Vb
 ru : Sv Rl
 fn : Sv Fn
 dm : Sv Fn
def So.e (t : So) : List Value:=[sv t.ti,sv t.by_,sv t.st,.int .i64 t.re,.int .i64 t.mx,t.fl.v,t.pr.v,t.gl.v,t.ob.v,t.vb.v,t.ru.v,t.fn.v,t.dm.v]
def So.m (t : So) : Nat:=(t.ti.length + 1) + (t.by_.length + 1) + (t.st.length + 1) + 1 + 1 + ((t.fl.l.map fun x=>x.length + 1).sum + 1) + ((t.pr.l.map Pr.m).sum + 1) + ((t.gl.l.map Pr.m).sum + 1) + ((t.ob.l.map Ob.m).sum + 1) + ((t.vb.l.map Vb.m).sum + 1) + ((t.ru.l.map Rl.m).sum + 1) + ((t.fn.l.map Fn.m).sum + 1) + ((t.dm.l.map Fn.m).sum + 1)
def So.R (K : Nat→Prop) (w : World) (t : So) : Prop:=Lg svE Rt K w t.fl.a t.fl.c t.fl.l∧Lg Pr.e Pr.R K w t.pr.a t.pr.c t.pr.l∧Lg Pr.e Pr.R K w t.gl.a t.gl.c t.gl.l∧Lg Ob.e Ob.R K w t.ob.a t.ob.c t.ob.l∧Lg Vb.e Vb.R K w t.vb.a t.vb.c t.vb.l∧Lg Rl.e Rl.R K w t.ru.a t.ru.c t.ru.l∧Lg Fn.e Fn.R K w t.fn.a t.fn.c t.fn.l∧Lg Fn.e Fn.R K w t.dm.a t.dm.c t.dm.l
theorem So.stays : Stays So.R:=fun _ _ _ _ _ h r=>⟨Lg.keep stays_t h (r.1),Lg.keep Pr.stays h (r.2.1),Lg.keep Pr.stays h (r.2.2.1),Lg.keep Ob.stays h (r.2.2.2.1),Lg.keep Vb.stays h (r.2.2.2.2.1),Lg.keep Rl.stays h (r.2.2.2.2.2.1),Lg.keep Fn.stays h (r.2.2.2.2.2.2.1),Lg.keep Fn.stays h (r.2.2.2.2.2.2.2)⟩
theorem So.len (t : So) : (So.e t).length=13:=rfl
theorem cells_source : Tryz.prog.cellsOf 29=13:=by kernel_rfl
set_option maxRecDepth 100000 in
theorem source_of {H : Type} {enc : TypeId × Value→H} {w : World} {base : Nat} {spare : Nat→Bool} {held : Bool} {fuel : Nat} {cs : List Value} {x : DataW H × List MemPlace} (hl : cs.length=13) (h : DataW.trod enc Tryz.prog w base spare held fuel 29 cs=some x) : ∃ t,cs=So.e t∧So.R top w t∧So.m t≤uptoBulk x.1:=by
 obtain ⟨xs,n,_,hx,_,hlen,hg⟩:=DataW.trod_struct Tryz.underlying29 h
 match cs,hl with
 | [c0,c1,c2,c3,c4,c5,c6,c7,c8,c9,c10,c11,c12],_=>
  match xs,hlen with
  | [y0,y1,y2,y3,y4,y5,y6,y7,y8,y9,y10,y11,y12],_=>
   have e0 : DataW.trod enc Tryz.prog w base spare held n 9 [c0]=some y0:=by simpa [cells_str] using hg 0 _ rfl
   have e1 : DataW.trod enc Tryz.prog w base spare held n 9 [c1]=some y1:=by simpa [cells_str] using hg 1 _ rfl
   have e2 : DataW.trod enc Tryz.prog w base spare held n 9 [c2]=some y2:=by simpa [cells_str] using hg 2 _ rfl
   have e3 : DataW.trod enc Tryz.prog w base spare held n 3 [c3]=some y3:=by simpa [cells_int] using hg 3 _ rfl
   have e4 : DataW.trod enc Tryz.prog w base spare held n 3 [c4]=some y4:=by simpa [cells_int] using hg 4 _ rfl
   have e5 : DataW.trod enc Tryz.prog w base spare held n 22 [c5]=some y5:=by simpa [cells_strs] using hg 5 _ rfl
   have e6 : DataW.trod enc Tryz.prog w base spare held n 23 [c6]=some y6:=by simpa [cells_pairs] using hg 6 _ rfl
   have e7 : DataW.trod enc Tryz.prog w base spare held n 23 [c7]=some y7:=by simpa [cells_pairs] using hg 7 _ rfl
   have e8 : DataW.trod enc Tryz.prog w base spare held n 24 [c8]=some y8:=by simpa [cells_objects] using hg 8 _ rfl
   have e9 : DataW.trod enc Tryz.prog w base spare held n 25 [c9]=some y9:=by simpa [cells_verbs] using hg 9 _ rfl
   have e10 : DataW.trod enc Tryz.prog w base spare held n 26 [c10]=some y10:=by simpa [cells_rules] using hg 10 _ rfl
   have e11 : DataW.trod enc Tryz.prog w base spare held n 27 [c11]=some y11:=by simpa [cells_funcs] using hg 11 _ rfl
   have e12 : DataW.trod enc Tryz.prog w base spare held n 27 [c12]=some y12:=by simpa [cells_funcs] using hg 12 _ rfl
   obtain ⟨x0,rfl,m0⟩:=str_of e0
   obtain ⟨x1,rfl,m1⟩:=str_of e1
   obtain ⟨x2,rfl,m2⟩:=str_of e2
   obtain ⟨x3,rfl,m3⟩:=int_of e3
   obtain ⟨x4,rfl,m4⟩:=int_of e4
   obtain ⟨x5,rfl,r5,m5⟩:=strs_of e5
   obtain ⟨x6,rfl,r6,m6⟩:=pairs_of e6
   obtain ⟨x7,rfl,r7,m7⟩:=pairs_of e7
   obtain ⟨x8,rfl,r8,m8⟩:=objects_of e8
   obtain ⟨x9,rfl,r9,m9⟩:=verbs_of e9
   obtain ⟨x10,rfl,r10,m10⟩:=rules_of e10
   obtain ⟨x11,rfl,r11,m11⟩:=funcs_of e11
   obtain ⟨x12,rfl,r12,m12⟩:=funcs_of e12
   refine ⟨⟨x0,x1,x2,x3,x4,x5,x6,x7,x8,x9,x10,x11,x12⟩,rfl,⟨r5,r6,r7,r8,r9,r10,r11,r12⟩,?_⟩
   rw [hx]
   simp only [So.m,List.map_cons,List.map_nil,Rows.uptoBulk,Rows.uptoBulkAll]
   omega
end Go.Proofs.YteibcfpepdbflaaGreat.BindO
