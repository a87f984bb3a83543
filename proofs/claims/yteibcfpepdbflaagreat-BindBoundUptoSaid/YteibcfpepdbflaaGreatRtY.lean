/- clewref10.bare, right, Right: some truth value, without a panic; true: what a right expression says. Conditions: sizes within the reach. -/
import Derived.Test.YteibcfpepdbflaaGreatRtX
import Derived.Test.YteibcfpepdbflaaGreatBindJ
import Derived.Deep.CutBlock
open Go.Lib renaming hid → hI
namespace Go.Proofs.YteibcfpepdbflaaGreat.RtY
open Go Go.RowKit BindP BindD BindO BindW BindG BindX RtS RtX BindU
open Byt (str)
def SomeX (p : Prop) (w : World) (e : Ending) (w' : World) : Prop:=∃ b : Bool,e=.returned (.bool b)∧(b=true→p)∧Below w.heap.size w w'
def BareP (m : Nat) (o n : Int) (s : S) (a : Int) (op num named : Bool) : Prop:=(m : Int)=a∧(op=true∨o=0)∧(num=true∨n=0)∧(named=true∨s=[])
theorem emp_e {s : S} {b : Bool} (h : decide (s=[])=b) : (str s).toList.isEmpty=b:=by
 rw [toList_str]
 cases s <;> simp_all
set_option maxRecDepth 100000 in
set_option maxHeartbeats 4000000 in
theorem bare_o (k o n : Int) (s : S) (A : Option Addr) (m c : Nat) (a : Int) (op num named : Bool) (w : World) :
  Calls Tryz.prog 117 #[.agg #[.int .i64 k,.int .i64 o,.int .i64 n,.string (str s),.slice A m c],.int .i64 a,.bool op,.bool num,.bool named] w (SomeX (BareP m o n s a op num named) w):=by
 obtain ⟨w1,hw1⟩ : ∃ W,w.alloc (.cells #[.int .i64 k,.int .i64 o,.int .i64 n,.string (str s),.slice A m c] 68)=W:=⟨_,rfl⟩
 obtain ⟨m1,s1,b1⟩:=made hw1
 have HB1:=hI b1
 obtain ⟨x0,x1,x2,x3,x4,xf⟩:=cells5 m1
 clear m1 s1 b1
 by_cases h1 : (m : Int)=a
 ·have q1 : ((m : Int) == a)=true:=by simpa using h1
  have H1:=hI h1
  clear h1
  cases op with
  | true=>
   cases num with
   | true=>
    cases named with
    | true=>
     have HP:=hI (show BareP m o n s a true true true from ⟨H1.out,.inl rfl,.inl rfl,.inl rfl⟩)
     go_enter Tryz.func117,Tryz.ntmps117
     go_wp2_with fail
     go_ret
     exact ⟨_,rfl,(fun _=>HP.out),HB1.out⟩
    | false=>
     by_cases hs : s=[]
     ·have e:=emp_e (s:=s) (b:=true) (by simpa using hs)
      have HP:=hI (show BareP m o n s a true true false from ⟨H1.out,.inl rfl,.inl rfl,.inr hs⟩)
      clear hs
      go_enter Tryz.func117,Tryz.ntmps117
      go_wp2_with fail
      go_ret
      exact ⟨_,rfl,(fun _=>HP.out),HB1.out⟩
     ·have e:=emp_e (s:=s) (b:=false) (by simpa using hs)
      clear hs
      go_enter Tryz.func117,Tryz.ntmps117
      go_wp2_with fail
      go_ret
      exact ⟨_,rfl,(fun h=>by cases h),HB1.out⟩
   | false=>
    by_cases hn : n=0
    ·have qn : (n == 0)=true:=by simpa using hn
     have HN:=hI hn
     clear hn
     cases named with
     | true=>
      have HP:=hI (show BareP m o n s a true false true from ⟨H1.out,.inl rfl,.inr HN.out,.inl rfl⟩)
      go_enter Tryz.func117,Tryz.ntmps117
      go_wp2_with fail
      go_ret
      exact ⟨_,rfl,(fun _=>HP.out),HB1.out⟩
     | false=>
      by_cases hs : s=[]
      ·have e:=emp_e (s:=s) (b:=true) (by simpa using hs)
       have HP:=hI (show BareP m o n s a true false false from ⟨H1.out,.inl rfl,.inr HN.out,.inr hs⟩)
       clear hs
       go_enter Tryz.func117,Tryz.ntmps117
       go_wp2_with fail
       go_ret
       exact ⟨_,rfl,(fun _=>HP.out),HB1.out⟩
      ·have e:=emp_e (s:=s) (b:=false) (by simpa using hs)
       clear hs
       go_enter Tryz.func117,Tryz.ntmps117
       go_wp2_with fail
       go_ret
       exact ⟨_,rfl,(fun h=>by cases h),HB1.out⟩
    ·have qn : (n == 0)=false:=by simpa using hn
     clear hn
     go_enter Tryz.func117,Tryz.ntmps117
     go_wp2_with fail
     go_ret
     exact ⟨_,rfl,(fun h=>by cases h),HB1.out⟩
  | false=>
   by_cases ho : o=0
   ·have qo : (o == 0)=true:=by simpa using ho
    have HO:=hI ho
    clear ho
    cases num with
    | true=>
     cases named with
     | true=>
      have HP:=hI (show BareP m o n s a false true true from ⟨H1.out,.inr HO.out,.inl rfl,.inl rfl⟩)
      go_enter Tryz.func117,Tryz.ntmps117
      go_wp2_with fail
      go_ret
      exact ⟨_,rfl,(fun _=>HP.out),HB1.out⟩
     | false=>
      by_cases hs : s=[]
      ·have e:=emp_e (s:=s) (b:=true) (by simpa using hs)
       have HP:=hI (show BareP m o n s a false true false from ⟨H1.out,.inr HO.out,.inl rfl,.inr hs⟩)
       clear hs
       go_enter Tryz.func117,Tryz.ntmps117
       go_wp2_with fail
       go_ret
       exact ⟨_,rfl,(fun _=>HP.out),HB1.out⟩
      ·have e:=emp_e (s:=s) (b:=false) (by simpa using hs)
       clear hs
       go_enter Tryz.func117,Tryz.ntmps117
       go_wp2_with fail
       go_ret
       exact ⟨_,rfl,(fun h=>by cases h),HB1.out⟩
    | false=>
     by_cases hn : n=0
     ·have qn : (n == 0)=true:=by simpa using hn
      have HN:=hI hn
      clear hn
      cases named with
      | true=>
       have HP:=hI (show BareP m o n s a false false true from ⟨H1.out,.inr HO.out,.inr HN.out,.inl rfl⟩)
       go_enter Tryz.func117,Tryz.ntmps117
       go_wp2_with fail
       go_ret
       exact ⟨_,rfl,(fun _=>HP.out),HB1.out⟩
      | false=>
       by_cases hs : s=[]
       ·have e:=emp_e (s:=s) (b:=true) (by simpa using hs)
        have HP:=hI (show BareP m o n s a false false false from ⟨H1.out,.inr HO.out,.inr HN.out,.inr hs⟩)
        clear hs
        go_enter Tryz.func117,Tryz.ntmps117
        go_wp2_with fail
        go_ret
        exact ⟨_,rfl,(fun _=>HP.out),HB1.out⟩
       ·have e:=emp_e (s:=s) (b:=false) (by simpa using hs)
        clear hs
        go_enter Tryz.func117,Tryz.ntmps117
        go_wp2_with fail
        go_ret
        exact ⟨_,rfl,(fun h=>by cases h),HB1.out⟩
     ·have qn : (n == 0)=false:=by simpa using hn
      clear hn
      go_enter Tryz.func117,Tryz.ntmps117
      go_wp2_with fail
      go_ret
      exact ⟨_,rfl,(fun h=>by cases h),HB1.out⟩
   ·have qo : (o == 0)=false:=by simpa using ho
    clear ho
    go_enter Tryz.func117,Tryz.ntmps117
    go_wp2_with fail
    go_ret
    exact ⟨_,rfl,(fun h=>by cases h),HB1.out⟩
 ·have q1 : ((m : Int) == a)=false:=by simpa using h1
  clear h1
  go_enter Tryz.func117,Tryz.ntmps117
  go_wp2_with fail
  go_ret
  exact ⟨_,rfl,(fun h=>by cases h),HB1.out⟩
theorem BareP.o0 {m : Nat} {o n : Int} {s : S} {a : Int} {num named : Bool} (h : BareP m o n s a false num named) : o=0:=h.2.1.resolve_left (by simp)
theorem BareP.n0 {m : Nat} {o n : Int} {s : S} {a : Int} {op named : Bool} (h : BareP m o n s a op false named) : n=0:=h.2.2.1.resolve_left (by simp)
theorem BareP.s0 {m : Nat} {o n : Int} {s : S} {a : Int} {op num : Bool} (h : BareP m o n s a op num false) : s=[]:=h.2.2.2.resolve_left (by simp)
theorem BareP.mk_ {m : Nat} {o n : Int} {s : S} {op num named : Bool} {q : Nat} (h : BareP m o n s (q : Int) op num named) : m=q:=by have:=h.1;omega
inductive KindOk : Bool→Int→Int→Int→S→Nat→Prop
 | num {sd n} : 0≤n→n≤32767→KindOk sd 1 0 n [] 0
 | text {s} : KindOk true 2 0 0 s 0
 | name {sd s} : s ≠ []→KindOk sd 3 0 0 s 0
 | neg {sd} : KindOk sd 4 0 0 [] 1
 | not {sd} : KindOk sd 5 0 0 [] 1
 | random {sd} : KindOk sd 11 0 0 [] 1
 | title : KindOk true 13 0 0 [] 1
 | bin {sd o} : 1≤o→o≤14→KindOk sd 6 o 0 [] 2
 | has {sd s} : s ≠ []→KindOk sd 7 0 0 s 1
 | prop {sd s} : s ≠ []→KindOk sd 8 0 0 s 1
 | call {sd s m} : m≤8→s ≠ []→KindOk sd 9 0 0 s m
 | tree {sd o} : 1≤o→o≤3→KindOk sd 10 o 0 [] 1
 | self {sd o} : 1≤o→o≤6→KindOk sd 12 o 0 [] 0
mutual
def xOk : Bool→Pe→Prop
 | sd,.mk k o n s ar=>KindOk sd k o n s ar.length∧xsOk ar
def xsOk : List Pe→Prop
 | []=>True
 | a :: l=>xOk false a∧xsOk l
end
theorem xsOk_app : ∀ (l1 l2 : List Pe),xsOk (l1 ++ l2)↔xsOk l1∧xsOk l2
 | [],l2=>by simp [xsOk]
 | a :: l1,l2=>by simp only [List.cons_append,xsOk,xsOk_app l1 l2,and_assoc]
theorem pos_ne {s : S} (h : 0 < (str s).size) : s ≠ []:=fun c=>by subst c;exact absurd h (by decide)
set_option maxRecDepth 100000 in
set_option maxHeartbeats 16000000 in
theorem right_o : ∀ (x : Ex) (sd : Bool) (w : World),RdX top w x→nE x.p≤1048576 →
  Calls Tryz.prog 130 #[.agg (exE x).toArray,.bool sd] w (SomeX (xOk sd x.p) w):=by
 intro x
 induction x using Ex.ind with
 | _ k o n s A c ar ih=>
  intro sd w hx hn
  have HX:=hI hx.open_
  have HIH:=hI ih
  simp only [Ex.p,nE] at hn
  have har : ar.length≤nEs (exPs ar):=by
   have h1:=sum_len (m:=fun x : Ex=>nE x.p) (fun x=>nE_pos x.p) ar
   rw [← nEs_sum] at h1
   exact h1
  have zar : ar.length≤1048576:=by omega
  have HN:=hI (show nEs (exPs ar)≤1048576 by omega)
  have HSL:=hI (show (str s).size≤4194304 by show (s.toArray).size≤_;simp;omega)
  clear hx ih hn har
  show Calls Tryz.prog 130 #[.agg #[.int .i64 k,.int .i64 o,.int .i64 n,.string (str s),.slice A ar.length c],.bool sd] w _
  go_enter Tryz.func130,Tryz.ntmps130
  obtain ⟨w1,hw1⟩ : ∃ W,w.alloc (.cells #[.int .i64 k,.int .i64 o,.int .i64 n,.string (str s),.slice A ar.length c] 68)=W:=⟨_,rfl⟩
  have HBX:=hI (show Bz w #[.int .i64 k,.int .i64 o,.int .i64 n,.string (str s),.slice A ar.length c] 68 w1 by rw [← hw1];exact Bz.new _ _ _)
  obtain ⟨x0,x1,x2,x3,x4,xf⟩:=cells5 HBX.out.box
  go_upto_block 0 with fail
  go_cut [5] (fun v wx=>∃ b : Bool,v=.bool b∧Hid (b=true→KindOk sd k o n s ar.length)∧Bz w #[.int .i64 k,.int .i64 o,.int .i64 n,.string (str s),.slice A ar.length c] 68 wx)
  case first=>
   have FB:=hI (fun (u : World) (hu : Bz w #[.int .i64 k,.int .i64 o,.int .i64 n,.string (str s),.slice A ar.length c] 68 u) (a : Int) (op num named : Bool)=>(bare_o k o n s A ar.length c a op num named u).mono (R':=fun e w'=>∃ b,e=.returned (.bool b)∧(b=true→BareP ar.length o n s a op num named)∧Bz w #[.int .i64 k,.int .i64 o,.int .i64 n,.string (str s),.slice A ar.length c] 68 w') (by rintro e w' ⟨b,rfl,hp,hb⟩;exact ⟨b,rfl,hp,hu.on hb⟩))
   clear x0 x1 x2 x3 x4 xf hw1
   have hz:=HBX.out
   clear hz
   by_cases hk1 : k=1
   ·subst hk1
    obtain ⟨x0,x1,x2,x3,x4,xf⟩:=cells5 HBX.out.box
    go_wp2_with (first | (go_at_call 117;refine (FB.out _ HBX.out _ _ _ _).mono ?_;rintro e w2 ⟨b1,rfl,hp,hz2⟩;have HP:=hI hp;have HZ2:=hI hz2;clear hp x0 x1 x2 x3 x4 xf;obtain ⟨x0,x1,x2,x3,x4,xf⟩:=cells5 hz2.box;clear hz2;cases b1) | (go_at_call 116;refine (among_o _ _ _ _).mono ?_;rintro e w3 ⟨b2,rfl,hq,rfl⟩;have HQ:=hI hq;clear hq;cases b2) | (go_at_call 129;refine (name10_o _ HSL.out _).mono ?_;rintro e w3 ⟨b2,rfl,hq,rfl⟩;have HQ:=hI hq;clear hq;cases b2) | (go_at_call 45;refine (isText_o _ HSL.out _).mono ?_;rintro e w3 ⟨b2,rfl,rfl⟩;cases b2))
    all_goals go_meet
    all_goals first | (refine ⟨_,rfl,hI (fun _=>?_),HZ2.out⟩;have h:=HP.out (by trivial);rw [h.o0,h.s0,(show ar.length=0 from BareP.mk_ (q:=0) h)];exact .num (HQ.out (by trivial)).1 (HQ.out (by trivial)).2) | exact ⟨_,rfl,hI (fun h=>absurd h (by decide)),HZ2.out⟩ | exact ⟨_,rfl,hI (fun h=>absurd h (by decide)),HBX.out⟩
   have q1 : (k == 1)=false:=beq_eq_false_iff_ne.2 hk1
   by_cases hk2 : k=2
   ·subst hk2
    cases sd
    ·obtain ⟨x0,x1,x2,x3,x4,xf⟩:=cells5 HBX.out.box
     go_wp2_with (first | (go_at_call 117;refine (FB.out _ HBX.out _ _ _ _).mono ?_;rintro e w2 ⟨b1,rfl,hp,hz2⟩;have HP:=hI hp;have HZ2:=hI hz2;clear hp x0 x1 x2 x3 x4 xf;obtain ⟨x0,x1,x2,x3,x4,xf⟩:=cells5 hz2.box;clear hz2;cases b1) | (go_at_call 116;refine (among_o _ _ _ _).mono ?_;rintro e w3 ⟨b2,rfl,hq,rfl⟩;have HQ:=hI hq;clear hq;cases b2) | (go_at_call 129;refine (name10_o _ HSL.out _).mono ?_;rintro e w3 ⟨b2,rfl,hq,rfl⟩;have HQ:=hI hq;clear hq;cases b2) | (go_at_call 45;refine (isText_o _ HSL.out _).mono ?_;rintro e w3 ⟨b2,rfl,rfl⟩;cases b2))
     all_goals go_meet
     all_goals first | (refine ⟨_,rfl,hI (fun _=>?_),HZ2.out⟩;have h:=HP.out (by trivial);rw [h.o0,h.n0,(show ar.length=0 from BareP.mk_ (q:=0) h)];exact .text) | exact ⟨_,rfl,hI (fun h=>absurd h (by decide)),HZ2.out⟩ | exact ⟨_,rfl,hI (fun h=>absurd h (by decide)),HBX.out⟩
    ·obtain ⟨x0,x1,x2,x3,x4,xf⟩:=cells5 HBX.out.box
     go_wp2_with (first | (go_at_call 117;refine (FB.out _ HBX.out _ _ _ _).mono ?_;rintro e w2 ⟨b1,rfl,hp,hz2⟩;have HP:=hI hp;have HZ2:=hI hz2;clear hp x0 x1 x2 x3 x4 xf;obtain ⟨x0,x1,x2,x3,x4,xf⟩:=cells5 hz2.box;clear hz2;cases b1) | (go_at_call 116;refine (among_o _ _ _ _).mono ?_;rintro e w3 ⟨b2,rfl,hq,rfl⟩;have HQ:=hI hq;clear hq;cases b2) | (go_at_call 129;refine (name10_o _ HSL.out _).mono ?_;rintro e w3 ⟨b2,rfl,hq,rfl⟩;have HQ:=hI hq;clear hq;cases b2) | (go_at_call 45;refine (isText_o _ HSL.out _).mono ?_;rintro e w3 ⟨b2,rfl,rfl⟩;cases b2))
     all_goals go_meet
     all_goals first | (refine ⟨_,rfl,hI (fun _=>?_),HZ2.out⟩;have h:=HP.out (by trivial);rw [h.o0,h.n0,(show ar.length=0 from BareP.mk_ (q:=0) h)];exact .text) | exact ⟨_,rfl,hI (fun h=>absurd h (by decide)),HZ2.out⟩ | exact ⟨_,rfl,hI (fun h=>absurd h (by decide)),HBX.out⟩
   have q2 : (k == 2)=false:=beq_eq_false_iff_ne.2 hk2
   by_cases hk3 : k=3
   ·subst hk3
    obtain ⟨x0,x1,x2,x3,x4,xf⟩:=cells5 HBX.out.box
    go_wp2_with (first | (go_at_call 117;refine (FB.out _ HBX.out _ _ _ _).mono ?_;rintro e w2 ⟨b1,rfl,hp,hz2⟩;have HP:=hI hp;have HZ2:=hI hz2;clear hp x0 x1 x2 x3 x4 xf;obtain ⟨x0,x1,x2,x3,x4,xf⟩:=cells5 hz2.box;clear hz2;cases b1) | (go_at_call 116;refine (among_o _ _ _ _).mono ?_;rintro e w3 ⟨b2,rfl,hq,rfl⟩;have HQ:=hI hq;clear hq;cases b2) | (go_at_call 129;refine (name10_o _ HSL.out _).mono ?_;rintro e w3 ⟨b2,rfl,hq,rfl⟩;have HQ:=hI hq;clear hq;cases b2) | (go_at_call 45;refine (isText_o _ HSL.out _).mono ?_;rintro e w3 ⟨b2,rfl,rfl⟩;cases b2))
    all_goals go_meet
    all_goals first | (refine ⟨_,rfl,hI (fun _=>?_),HZ2.out⟩;have h:=HP.out (by trivial);rw [h.o0,h.n0,(show ar.length=0 from BareP.mk_ (q:=0) h)];exact .name (pos_ne (HQ.out (by trivial)))) | exact ⟨_,rfl,hI (fun h=>absurd h (by decide)),HZ2.out⟩ | exact ⟨_,rfl,hI (fun h=>absurd h (by decide)),HBX.out⟩
   have q3 : (k == 3)=false:=beq_eq_false_iff_ne.2 hk3
   by_cases hk4 : k=4
   ·subst hk4
    obtain ⟨x0,x1,x2,x3,x4,xf⟩:=cells5 HBX.out.box
    go_wp2_with (first | (go_at_call 117;refine (FB.out _ HBX.out _ _ _ _).mono ?_;rintro e w2 ⟨b1,rfl,hp,hz2⟩;have HP:=hI hp;have HZ2:=hI hz2;clear hp x0 x1 x2 x3 x4 xf;obtain ⟨x0,x1,x2,x3,x4,xf⟩:=cells5 hz2.box;clear hz2;cases b1) | (go_at_call 116;refine (among_o _ _ _ _).mono ?_;rintro e w3 ⟨b2,rfl,hq,rfl⟩;have HQ:=hI hq;clear hq;cases b2) | (go_at_call 129;refine (name10_o _ HSL.out _).mono ?_;rintro e w3 ⟨b2,rfl,hq,rfl⟩;have HQ:=hI hq;clear hq;cases b2) | (go_at_call 45;refine (isText_o _ HSL.out _).mono ?_;rintro e w3 ⟨b2,rfl,rfl⟩;cases b2))
    all_goals go_meet
    all_goals first | (refine ⟨_,rfl,hI (fun _=>?_),HZ2.out⟩;have h:=HP.out (by trivial);rw [h.o0,h.n0,h.s0,(show ar.length=1 from BareP.mk_ (q:=1) h)];exact .neg) | exact ⟨_,rfl,hI (fun h=>absurd h (by decide)),HZ2.out⟩ | exact ⟨_,rfl,hI (fun h=>absurd h (by decide)),HBX.out⟩
   have q4 : (k == 4)=false:=beq_eq_false_iff_ne.2 hk4
   by_cases hk5 : k=5
   ·subst hk5
    obtain ⟨x0,x1,x2,x3,x4,xf⟩:=cells5 HBX.out.box
    go_wp2_with (first | (go_at_call 117;refine (FB.out _ HBX.out _ _ _ _).mono ?_;rintro e w2 ⟨b1,rfl,hp,hz2⟩;have HP:=hI hp;have HZ2:=hI hz2;clear hp x0 x1 x2 x3 x4 xf;obtain ⟨x0,x1,x2,x3,x4,xf⟩:=cells5 hz2.box;clear hz2;cases b1) | (go_at_call 116;refine (among_o _ _ _ _).mono ?_;rintro e w3 ⟨b2,rfl,hq,rfl⟩;have HQ:=hI hq;clear hq;cases b2) | (go_at_call 129;refine (name10_o _ HSL.out _).mono ?_;rintro e w3 ⟨b2,rfl,hq,rfl⟩;have HQ:=hI hq;clear hq;cases b2) | (go_at_call 45;refine (isText_o _ HSL.out _).mono ?_;rintro e w3 ⟨b2,rfl,rfl⟩;cases b2))
    all_goals go_meet
    all_goals first | (refine ⟨_,rfl,hI (fun _=>?_),HZ2.out⟩;have h:=HP.out (by trivial);rw [h.o0,h.n0,h.s0,(show ar.length=1 from BareP.mk_ (q:=1) h)];exact .not) | exact ⟨_,rfl,hI (fun h=>absurd h (by decide)),HZ2.out⟩ | exact ⟨_,rfl,hI (fun h=>absurd h (by decide)),HBX.out⟩
   have q5 : (k == 5)=false:=beq_eq_false_iff_ne.2 hk5
   by_cases hk6 : k=6
   ·subst hk6
    obtain ⟨x0,x1,x2,x3,x4,xf⟩:=cells5 HBX.out.box
    go_wp2_with (first | (go_at_call 117;refine (FB.out _ HBX.out _ _ _ _).mono ?_;rintro e w2 ⟨b1,rfl,hp,hz2⟩;have HP:=hI hp;have HZ2:=hI hz2;clear hp x0 x1 x2 x3 x4 xf;obtain ⟨x0,x1,x2,x3,x4,xf⟩:=cells5 hz2.box;clear hz2;cases b1) | (go_at_call 116;refine (among_o _ _ _ _).mono ?_;rintro e w3 ⟨b2,rfl,hq,rfl⟩;have HQ:=hI hq;clear hq;cases b2) | (go_at_call 129;refine (name10_o _ HSL.out _).mono ?_;rintro e w3 ⟨b2,rfl,hq,rfl⟩;have HQ:=hI hq;clear hq;cases b2) | (go_at_call 45;refine (isText_o _ HSL.out _).mono ?_;rintro e w3 ⟨b2,rfl,rfl⟩;cases b2))
    all_goals go_meet
    all_goals first | (refine ⟨_,rfl,hI (fun _=>?_),HZ2.out⟩;have h:=HP.out (by trivial);rw [h.n0,h.s0,(show ar.length=2 from BareP.mk_ (q:=2) h)];exact .bin (HQ.out (by trivial)).1 (HQ.out (by trivial)).2) | exact ⟨_,rfl,hI (fun h=>absurd h (by decide)),HZ2.out⟩ | exact ⟨_,rfl,hI (fun h=>absurd h (by decide)),HBX.out⟩
   have q6 : (k == 6)=false:=beq_eq_false_iff_ne.2 hk6
   by_cases hk7 : k=7
   ·subst hk7
    obtain ⟨x0,x1,x2,x3,x4,xf⟩:=cells5 HBX.out.box
    go_wp2_with (first | (go_at_call 117;refine (FB.out _ HBX.out _ _ _ _).mono ?_;rintro e w2 ⟨b1,rfl,hp,hz2⟩;have HP:=hI hp;have HZ2:=hI hz2;clear hp x0 x1 x2 x3 x4 xf;obtain ⟨x0,x1,x2,x3,x4,xf⟩:=cells5 hz2.box;clear hz2;cases b1) | (go_at_call 116;refine (among_o _ _ _ _).mono ?_;rintro e w3 ⟨b2,rfl,hq,rfl⟩;have HQ:=hI hq;clear hq;cases b2) | (go_at_call 129;refine (name10_o _ HSL.out _).mono ?_;rintro e w3 ⟨b2,rfl,hq,rfl⟩;have HQ:=hI hq;clear hq;cases b2) | (go_at_call 45;refine (isText_o _ HSL.out _).mono ?_;rintro e w3 ⟨b2,rfl,rfl⟩;cases b2))
    all_goals go_meet
    all_goals first | (refine ⟨_,rfl,hI (fun _=>?_),HZ2.out⟩;have h:=HP.out (by trivial);rw [h.o0,h.n0,(show ar.length=1 from BareP.mk_ (q:=1) h)];exact .has (pos_ne (HQ.out (by trivial)))) | exact ⟨_,rfl,hI (fun h=>absurd h (by decide)),HZ2.out⟩ | exact ⟨_,rfl,hI (fun h=>absurd h (by decide)),HBX.out⟩
   have q7 : (k == 7)=false:=beq_eq_false_iff_ne.2 hk7
   by_cases hk8 : k=8
   ·subst hk8
    obtain ⟨x0,x1,x2,x3,x4,xf⟩:=cells5 HBX.out.box
    go_wp2_with (first | (go_at_call 117;refine (FB.out _ HBX.out _ _ _ _).mono ?_;rintro e w2 ⟨b1,rfl,hp,hz2⟩;have HP:=hI hp;have HZ2:=hI hz2;clear hp x0 x1 x2 x3 x4 xf;obtain ⟨x0,x1,x2,x3,x4,xf⟩:=cells5 hz2.box;clear hz2;cases b1) | (go_at_call 116;refine (among_o _ _ _ _).mono ?_;rintro e w3 ⟨b2,rfl,hq,rfl⟩;have HQ:=hI hq;clear hq;cases b2) | (go_at_call 129;refine (name10_o _ HSL.out _).mono ?_;rintro e w3 ⟨b2,rfl,hq,rfl⟩;have HQ:=hI hq;clear hq;cases b2) | (go_at_call 45;refine (isText_o _ HSL.out _).mono ?_;rintro e w3 ⟨b2,rfl,rfl⟩;cases b2))
    all_goals go_meet
    all_goals first | (refine ⟨_,rfl,hI (fun _=>?_),HZ2.out⟩;have h:=HP.out (by trivial);rw [h.o0,h.n0,(show ar.length=1 from BareP.mk_ (q:=1) h)];exact .prop (pos_ne (HQ.out (by trivial)))) | exact ⟨_,rfl,hI (fun h=>absurd h (by decide)),HZ2.out⟩ | exact ⟨_,rfl,hI (fun h=>absurd h (by decide)),HBX.out⟩
   have q8 : (k == 8)=false:=beq_eq_false_iff_ne.2 hk8
   by_cases hk9 : k=9
   ·subst hk9
    by_cases h8 : ar.length≤8
    ·have q8 : decide ((ar.length : Int)≤8)=true:=decide_eq_true (by omega)
     have H8:=hI h8
     clear h8
     obtain ⟨x0,x1,x2,x3,x4,xf⟩:=cells5 HBX.out.box
     go_wp2_with (first | (go_at_call 117;refine (FB.out _ HBX.out _ _ _ _).mono ?_;rintro e w2 ⟨b1,rfl,hp,hz2⟩;have HP:=hI hp;have HZ2:=hI hz2;clear hp x0 x1 x2 x3 x4 xf;obtain ⟨x0,x1,x2,x3,x4,xf⟩:=cells5 hz2.box;clear hz2;cases b1) | (go_at_call 116;refine (among_o _ _ _ _).mono ?_;rintro e w3 ⟨b2,rfl,hq,rfl⟩;have HQ:=hI hq;clear hq;cases b2) | (go_at_call 129;refine (name10_o _ HSL.out _).mono ?_;rintro e w3 ⟨b2,rfl,hq,rfl⟩;have HQ:=hI hq;clear hq;cases b2) | (go_at_call 45;refine (isText_o _ HSL.out _).mono ?_;rintro e w3 ⟨b2,rfl,rfl⟩;cases b2))
     all_goals go_meet
     all_goals first | (refine ⟨_,rfl,hI (fun _=>?_),HZ2.out⟩;have h:=HP.out (by trivial);rw [h.o0,h.n0];exact .call H8.out (pos_ne (HQ.out (by trivial)))) | exact ⟨_,rfl,hI (fun h=>absurd h (by decide)),HZ2.out⟩ | exact ⟨_,rfl,hI (fun h=>absurd h (by decide)),HBX.out⟩
    ·have q8 : decide ((ar.length : Int)≤8)=false:=decide_eq_false (by omega)
     clear h8
     obtain ⟨x0,x1,x2,x3,x4,xf⟩:=cells5 HBX.out.box
     go_wp2_with (first | (go_at_call 117;refine (FB.out _ HBX.out _ _ _ _).mono ?_;rintro e w2 ⟨b1,rfl,hp,hz2⟩;have HP:=hI hp;have HZ2:=hI hz2;clear hp x0 x1 x2 x3 x4 xf;obtain ⟨x0,x1,x2,x3,x4,xf⟩:=cells5 hz2.box;clear hz2;cases b1) | (go_at_call 116;refine (among_o _ _ _ _).mono ?_;rintro e w3 ⟨b2,rfl,hq,rfl⟩;have HQ:=hI hq;clear hq;cases b2) | (go_at_call 129;refine (name10_o _ HSL.out _).mono ?_;rintro e w3 ⟨b2,rfl,hq,rfl⟩;have HQ:=hI hq;clear hq;cases b2) | (go_at_call 45;refine (isText_o _ HSL.out _).mono ?_;rintro e w3 ⟨b2,rfl,rfl⟩;cases b2))
     all_goals go_meet
     all_goals first | (refine ⟨_,rfl,hI (fun _=>?_),HZ2.out⟩;have h:=HP.out (by trivial);rw [h.o0,h.n0];exact .call H8.out (pos_ne (HQ.out (by trivial)))) | exact ⟨_,rfl,hI (fun h=>absurd h (by decide)),HZ2.out⟩ | exact ⟨_,rfl,hI (fun h=>absurd h (by decide)),HBX.out⟩
   have q9 : (k == 9)=false:=beq_eq_false_iff_ne.2 hk9
   by_cases hk10 : k=10
   ·subst hk10
    obtain ⟨x0,x1,x2,x3,x4,xf⟩:=cells5 HBX.out.box
    go_wp2_with (first | (go_at_call 117;refine (FB.out _ HBX.out _ _ _ _).mono ?_;rintro e w2 ⟨b1,rfl,hp,hz2⟩;have HP:=hI hp;have HZ2:=hI hz2;clear hp x0 x1 x2 x3 x4 xf;obtain ⟨x0,x1,x2,x3,x4,xf⟩:=cells5 hz2.box;clear hz2;cases b1) | (go_at_call 116;refine (among_o _ _ _ _).mono ?_;rintro e w3 ⟨b2,rfl,hq,rfl⟩;have HQ:=hI hq;clear hq;cases b2) | (go_at_call 129;refine (name10_o _ HSL.out _).mono ?_;rintro e w3 ⟨b2,rfl,hq,rfl⟩;have HQ:=hI hq;clear hq;cases b2) | (go_at_call 45;refine (isText_o _ HSL.out _).mono ?_;rintro e w3 ⟨b2,rfl,rfl⟩;cases b2))
    all_goals go_meet
    all_goals first | (refine ⟨_,rfl,hI (fun _=>?_),HZ2.out⟩;have h:=HP.out (by trivial);rw [h.n0,h.s0,(show ar.length=1 from BareP.mk_ (q:=1) h)];exact .tree (HQ.out (by trivial)).1 (HQ.out (by trivial)).2) | exact ⟨_,rfl,hI (fun h=>absurd h (by decide)),HZ2.out⟩ | exact ⟨_,rfl,hI (fun h=>absurd h (by decide)),HBX.out⟩
   have q10 : (k == 10)=false:=beq_eq_false_iff_ne.2 hk10
   by_cases hk11 : k=11
   ·subst hk11
    obtain ⟨x0,x1,x2,x3,x4,xf⟩:=cells5 HBX.out.box
    go_wp2_with (first | (go_at_call 117;refine (FB.out _ HBX.out _ _ _ _).mono ?_;rintro e w2 ⟨b1,rfl,hp,hz2⟩;have HP:=hI hp;have HZ2:=hI hz2;clear hp x0 x1 x2 x3 x4 xf;obtain ⟨x0,x1,x2,x3,x4,xf⟩:=cells5 hz2.box;clear hz2;cases b1) | (go_at_call 116;refine (among_o _ _ _ _).mono ?_;rintro e w3 ⟨b2,rfl,hq,rfl⟩;have HQ:=hI hq;clear hq;cases b2) | (go_at_call 129;refine (name10_o _ HSL.out _).mono ?_;rintro e w3 ⟨b2,rfl,hq,rfl⟩;have HQ:=hI hq;clear hq;cases b2) | (go_at_call 45;refine (isText_o _ HSL.out _).mono ?_;rintro e w3 ⟨b2,rfl,rfl⟩;cases b2))
    all_goals go_meet
    all_goals first | (refine ⟨_,rfl,hI (fun _=>?_),HZ2.out⟩;have h:=HP.out (by trivial);rw [h.o0,h.n0,h.s0,(show ar.length=1 from BareP.mk_ (q:=1) h)];exact .random) | exact ⟨_,rfl,hI (fun h=>absurd h (by decide)),HZ2.out⟩ | exact ⟨_,rfl,hI (fun h=>absurd h (by decide)),HBX.out⟩
   have q11 : (k == 11)=false:=beq_eq_false_iff_ne.2 hk11
   by_cases hk12 : k=12
   ·subst hk12
    obtain ⟨x0,x1,x2,x3,x4,xf⟩:=cells5 HBX.out.box
    go_wp2_with (first | (go_at_call 117;refine (FB.out _ HBX.out _ _ _ _).mono ?_;rintro e w2 ⟨b1,rfl,hp,hz2⟩;have HP:=hI hp;have HZ2:=hI hz2;clear hp x0 x1 x2 x3 x4 xf;obtain ⟨x0,x1,x2,x3,x4,xf⟩:=cells5 hz2.box;clear hz2;cases b1) | (go_at_call 116;refine (among_o _ _ _ _).mono ?_;rintro e w3 ⟨b2,rfl,hq,rfl⟩;have HQ:=hI hq;clear hq;cases b2) | (go_at_call 129;refine (name10_o _ HSL.out _).mono ?_;rintro e w3 ⟨b2,rfl,hq,rfl⟩;have HQ:=hI hq;clear hq;cases b2) | (go_at_call 45;refine (isText_o _ HSL.out _).mono ?_;rintro e w3 ⟨b2,rfl,rfl⟩;cases b2))
    all_goals go_meet
    all_goals first | (refine ⟨_,rfl,hI (fun _=>?_),HZ2.out⟩;have h:=HP.out (by trivial);rw [h.n0,h.s0,(show ar.length=0 from BareP.mk_ (q:=0) h)];exact .self (HQ.out (by trivial)).1 (HQ.out (by trivial)).2) | exact ⟨_,rfl,hI (fun h=>absurd h (by decide)),HZ2.out⟩ | exact ⟨_,rfl,hI (fun h=>absurd h (by decide)),HBX.out⟩
   have q12 : (k == 12)=false:=beq_eq_false_iff_ne.2 hk12
   by_cases hk13 : k=13
   ·subst hk13
    cases sd
    ·obtain ⟨x0,x1,x2,x3,x4,xf⟩:=cells5 HBX.out.box
     go_wp2_with (first | (go_at_call 117;refine (FB.out _ HBX.out _ _ _ _).mono ?_;rintro e w2 ⟨b1,rfl,hp,hz2⟩;have HP:=hI hp;have HZ2:=hI hz2;clear hp x0 x1 x2 x3 x4 xf;obtain ⟨x0,x1,x2,x3,x4,xf⟩:=cells5 hz2.box;clear hz2;cases b1) | (go_at_call 116;refine (among_o _ _ _ _).mono ?_;rintro e w3 ⟨b2,rfl,hq,rfl⟩;have HQ:=hI hq;clear hq;cases b2) | (go_at_call 129;refine (name10_o _ HSL.out _).mono ?_;rintro e w3 ⟨b2,rfl,hq,rfl⟩;have HQ:=hI hq;clear hq;cases b2) | (go_at_call 45;refine (isText_o _ HSL.out _).mono ?_;rintro e w3 ⟨b2,rfl,rfl⟩;cases b2))
     all_goals go_meet
     all_goals first | (refine ⟨_,rfl,hI (fun _=>?_),HZ2.out⟩;have h:=HP.out (by trivial);rw [h.o0,h.n0,h.s0,(show ar.length=1 from BareP.mk_ (q:=1) h)];exact .title) | exact ⟨_,rfl,hI (fun h=>absurd h (by decide)),HZ2.out⟩ | exact ⟨_,rfl,hI (fun h=>absurd h (by decide)),HBX.out⟩
    ·obtain ⟨x0,x1,x2,x3,x4,xf⟩:=cells5 HBX.out.box
     go_wp2_with (first | (go_at_call 117;refine (FB.out _ HBX.out _ _ _ _).mono ?_;rintro e w2 ⟨b1,rfl,hp,hz2⟩;have HP:=hI hp;have HZ2:=hI hz2;clear hp x0 x1 x2 x3 x4 xf;obtain ⟨x0,x1,x2,x3,x4,xf⟩:=cells5 hz2.box;clear hz2;cases b1) | (go_at_call 116;refine (among_o _ _ _ _).mono ?_;rintro e w3 ⟨b2,rfl,hq,rfl⟩;have HQ:=hI hq;clear hq;cases b2) | (go_at_call 129;refine (name10_o _ HSL.out _).mono ?_;rintro e w3 ⟨b2,rfl,hq,rfl⟩;have HQ:=hI hq;clear hq;cases b2) | (go_at_call 45;refine (isText_o _ HSL.out _).mono ?_;rintro e w3 ⟨b2,rfl,rfl⟩;cases b2))
     all_goals go_meet
     all_goals first | (refine ⟨_,rfl,hI (fun _=>?_),HZ2.out⟩;have h:=HP.out (by trivial);rw [h.o0,h.n0,h.s0,(show ar.length=1 from BareP.mk_ (q:=1) h)];exact .title) | exact ⟨_,rfl,hI (fun h=>absurd h (by decide)),HZ2.out⟩ | exact ⟨_,rfl,hI (fun h=>absurd h (by decide)),HBX.out⟩
   have q13 : (k == 13)=false:=beq_eq_false_iff_ne.2 hk13
   clear hk1 hk2 hk3 hk4 hk5 hk6 hk7 hk8 hk9 hk10 hk11 hk12 hk13
   obtain ⟨x0,x1,x2,x3,x4,xf⟩:=cells5 HBX.out.box
   go_wp2_with fail
   go_meet
   exact ⟨_,rfl,hI (fun h=>absurd h (by decide)),HBX.out⟩
  case rest=>
   obtain ⟨b,rfl,HK,hz⟩:=hcut
   have HZ:=hI hz
   clear hz HBX hw1 x0 x1 x2 x3 x4 xf
   obtain ⟨x0,x1,x2,x3,x4,xf⟩:=cells5 HZ.out.box
   go_wp2_with fail
   go_loopw [5,111] (fun v iv wr=>∃ (j : Nat) (q : Bool),j≤ar.length∧iv=.int .i64 (j : Int)∧v=.bool q∧Hid (q=true→KindOk sd k o n s ar.length∧xsOk (exPs (ar.take j)))∧Below w.heap.size w wr) (fun _ iv _=>ar.length - (intOf iv).toNat)
   case atStart=>exact ⟨0,b,Nat.zero_le _,rfl,rfl,hI fun h=>⟨HK.out h,by simp [exPs,xsOk]⟩,HZ.out.low⟩
   case round=>
    clear x0 x1 x2 x3 x4 xf
    obtain ⟨j,q,hj,rfl,rfl,HQ,hb⟩:=hrel
    have HB:=hI hb
    clear hb
    by_cases hlt : j < ar.length
    ·obtain ⟨b2,o2,rfl,hb2,hc⟩:=Lg.at_ exE_len (show Lx top wr A c ar from Lg.keep stays_x (Keep.below HB.out) HX.out) hlt
     obtain ⟨⟨ek,ep,en,es,eA,ec,er⟩,hy⟩ : ∃ y,ar[j]=y:=⟨_,rfl⟩
     have HNY:=hI (show xsOk (exPs (ar.take (j + 1)))↔xsOk (exPs (ar.take j))∧xOk false (Ex.mk ek ep en es eA ec er).p by
      rw [List.take_succ_eq_append_getElem hlt,exPs_map,List.map_append,← exPs_map,hy,xsOk_app];simp [xsOk])
     have hmem : ar[j] ∈ ar:=List.getElem_mem hlt
     rw [hy] at hc hmem
     have HME:=hI (And.intro hmem (And.intro (HX.out.2 _ hmem) (show nE (Ex.mk ek ep en es eA ec er).p≤1048576 by
      have h1:=sum_mem (m:=fun x : Ex=>nE x.p) ar _ hmem
      rw [← nEs_sum] at h1
      have:=HN.out
      omega)))
     have c0 : wr.cell? ⟨b2,o2 + j * 5,none⟩=some (.int .i64 ek):=hc 0 _ rfl
     have c1 : wr.cell? ⟨b2,o2 + j * 5 + 1,none⟩=some (.int .i64 ep):=hc 1 _ rfl
     have c2 : wr.cell? ⟨b2,o2 + j * 5 + 2,none⟩=some (.int .i64 en):=hc 2 _ rfl
     have c3 : wr.cell? ⟨b2,o2 + j * 5 + 3,none⟩=some (.string (str es)):=hc 3 _ rfl
     have c4 : wr.cell? ⟨b2,o2 + j * 5 + 4,none⟩=some (.slice eA er.length ec):=hc 4 _ rfl
     have i0 : (0 : Int)≤(j : Int):=by omega
     have i1 : (j : Int) < (ar.length : Int):=by omega
     obtain ⟨wa,hwa⟩ : ∃ W1,wr.alloc (.cells #[.int .i64 ek,.int .i64 ep,.int .i64 en,.string (str es),.slice eA er.length ec] 68)=W1:=⟨_,rfl⟩
     obtain ⟨m2,s2,b2'⟩:=made hwa
     have HBA:=hI (HB.out.trans (b2'.mono HB.out.size))
     obtain ⟨pb,hpb⟩ : ∃ q,wr.heap.size=q:=⟨_,rfl⟩
     rw [hpb] at m2
     obtain ⟨y0,y1,y2,y3,y4,yf⟩:=cells5 m2
     clear hc hy hmem s2 b2' m2
     cases q
     ·go_wp2_with fail
      go_roundw
      case rel=>exact ⟨j + 1,false,by omega,by go_num,rfl,hI (fun h=>by cases h),HBA.out⟩
      case measure=>simp [intOf];omega
     ·go_wp2_with fail
      refine (HIH.out _ HME.out.1 false wa (RdX.keep (Keep.below HBA.out) HME.out.2.1) HME.out.2.2).mono ?_
      rintro e w2 ⟨q2,rfl,hp,hb⟩
      have HP:=hI hp
      have HB2:=hI (HBA.out.trans (hb.mono HBA.out.size))
      clear hb hp y0 y1 y2 y3 y4 yf
      go_wp2_with fail
      go_roundw
      case rel=>exact ⟨j + 1,q2,by omega,by go_num,rfl,hI (fun h=>⟨(HQ.out (by trivial)).1,HNY.out.2 ⟨(HQ.out (by trivial)).2,HP.out h⟩⟩),HB2.out⟩
      case measure=>simp [intOf];omega
    ·obtain rfl : j=ar.length:=by omega
     have HTK:=hI (show ar.take ar.length=ar from List.take_length ..)
     go_wp2_with fail
     go_ret
     exact ⟨_,rfl,(fun h=>by have h2:=HQ.out h;rw [HTK.out] at h2;simp only [Ex.p,xOk];rw [exPs_map,List.length_map,← exPs_map];exact h2),HB.out⟩
set_option maxRecDepth 100000 in
theorem depth_o (x : Ex) (w : World) (hx : RdX top w x) (hn : nE x.p≤1048576) : Calls Tryz.prog 42 #[.agg (exE x).toArray] w (DepV (dE 65 x.p) w):=by
 have HC:=hI (fun u (hu : Below w.heap.size w u)=>deep_o x 65 u (by omega) (by omega) (hx.keep (Keep.below hu)) hn)
 obtain ⟨k,o,n,s,A,c,ar⟩:=x
 clear hx hn
 show Calls Tryz.prog 42 #[.agg #[.int .i64 k,.int .i64 o,.int .i64 n,.string (str s),.slice A ar.length c]] w _
 go_enter Tryz.func42,Tryz.ntmps42
 obtain ⟨w1,hw1⟩ : ∃ W,w.alloc (.cells #[.int .i64 k,.int .i64 o,.int .i64 n,.string (str s),.slice A ar.length c] 68)=W:=⟨_,rfl⟩
 obtain ⟨m1,s1,b1⟩:=made hw1
 have HB1:=hI b1
 obtain ⟨x0,x1,x2,x3,x4,xf⟩:=cells5 m1
 clear m1 s1 b1
 go_wp2_with fail
 refine (HC.out w1 HB1.out).mono ?_
 rintro e w2 ⟨rfl,hb⟩
 have HB2:=hI (HB1.out.trans (hb.mono HB1.out.size))
 clear hb
 go_wp2_with fail
 go_ret
 exact ⟨rfl,HB2.out⟩
def RightE (p : Pe) : Prop:=dE 65 p≤32∧xOk true p
set_option maxRecDepth 100000 in
theorem rightE_o (x : Ex) (w : World) (hx : RdX top w x) (hn : nE x.p≤1048576) : Calls Tryz.prog 121 #[.agg (exE x).toArray] w (SomeX (RightE x.p) w):=by
 have HD:=hI (fun u (hu : Below w.heap.size w u)=>depth_o x u (hx.keep (Keep.below hu)) hn)
 have HC:=hI (fun u (hu : Below w.heap.size w u)=>right_o x true u (hx.keep (Keep.below hu)) hn)
 obtain ⟨dq,hdq⟩ : ∃ q,dE 65 x.p=q:=⟨_,rfl⟩
 have HDQ:=hI hdq
 rw [hdq] at HD
 have HRE:=hI (show dq≤32→xOk true x.p→RightE x.p from fun h1 h2=>⟨by rw [HDQ.out];exact h1,h2⟩)
 obtain ⟨k,o,n,s,A,c,ar⟩:=x
 clear hx hn hdq
 show Calls Tryz.prog 121 #[.agg #[.int .i64 k,.int .i64 o,.int .i64 n,.string (str s),.slice A ar.length c]] w _
 go_enter Tryz.func121,Tryz.ntmps121
 obtain ⟨w1,hw1⟩ : ∃ W,w.alloc (.cells #[.int .i64 k,.int .i64 o,.int .i64 n,.string (str s),.slice A ar.length c] 68)=W:=⟨_,rfl⟩
 have HBX:=hI (show Bz w #[.int .i64 k,.int .i64 o,.int .i64 n,.string (str s),.slice A ar.length c] 68 w1 by rw [← hw1];exact Bz.new _ _ _)
 obtain ⟨x0,x1,x2,x3,x4,xf⟩:=cells5 HBX.out.box
 go_wp2_with fail
 refine (HD.out w1 HBX.out.low).mono ?_
 rintro e w2 ⟨rfl,hb⟩
 have HB2:=hI (HBX.out.on hb)
 clear hb x0 x1 x2 x3 x4 xf hw1
 obtain ⟨x0,x1,x2,x3,x4,xf⟩:=cells5 HB2.out.box
 by_cases h32 : dq≤32
 ·have q : decide ((dq : Int)≤32)=true:=decide_eq_true (by omega)
  have H32:=hI h32
  clear h32
  go_wp2_with fail
  refine (HC.out w2 HB2.out.low).mono ?_
  rintro e w3 ⟨b,rfl,hp,hb⟩
  have HP:=hI hp
  have HB3:=hI (HB2.out.on hb)
  clear hp hb
  go_wp2_with fail
  go_ret
  exact ⟨_,rfl,(fun h=>HRE.out H32.out (HP.out h)),HB3.out.low⟩
 ·have q : decide ((dq : Int)≤32)=false:=decide_eq_false (by omega)
  clear h32
  go_wp2_with fail
  go_ret
  exact ⟨_,rfl,(fun h=>by cases h),HB2.out.low⟩
end Go.Proofs.YteibcfpepdbflaaGreat.RtY
