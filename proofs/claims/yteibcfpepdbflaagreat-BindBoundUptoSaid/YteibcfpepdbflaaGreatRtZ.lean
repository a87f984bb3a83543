/- clewref10.has, shape, greater, deepBlock, DepthBlock: what a statement says of itself; how deep statements are. Conditions: sizes within the reach. -/
import Derived.Test.YteibcfpepdbflaaGreatRtY
import Derived.Test.YteibcfpepdbflaaGreatBkA
import Derived.Test.YteibcfpepdbflaaGreatBindR
open Go.Lib renaming hid → hI
namespace Go.Proofs.YteibcfpepdbflaaGreat.RtZ
open Go Go.RowKit BindP BindD BindO BindW BindG BindX BindB BindT RtS RtX RtY BindU
open Byt (str)
def HasP (n : Int) (s : S) (m nb ne : Nat) (a : Int) (named body other : Bool) : Prop:=(m : Int)=a∧(body=true∨nb=0)∧(other=true∨ne=0)∧(named=true∨s=[]∧n=0)
set_option maxRecDepth 100000 in
set_option maxHeartbeats 8000000 in
theorem has_o (k n : Int) (s : S) (Aa Ab Ae : Option Addr) (m nb ne ca cb ce : Nat) (named : Bool) (a : Int) (body other : Bool) (w : World) :
  Calls Tryz.prog 115 #[.agg #[.int .i64 k,.int .i64 n,.string (str s),.slice Aa m ca,.slice Ab nb cb,.slice Ae ne ce],.bool named,.int .i64 a,.bool body,.bool other] w (SomeX (HasP n s m nb ne a named body other) w):=by
 obtain ⟨w1,hw1⟩ : ∃ W,w.alloc (.cells #[.int .i64 k,.int .i64 n,.string (str s),.slice Aa m ca,.slice Ab nb cb,.slice Ae ne ce] 65)=W:=⟨_,rfl⟩
 obtain ⟨m1,s1,b1⟩:=made hw1
 have HB1:=hI b1
 obtain ⟨x0,x1,x2,x3,x4,x5,xf⟩:=cells6 m1
 clear m1 s1 b1
 by_cases h1 : (m : Int)=a
 ·have q1 : ((m : Int) == a)=true:=by simpa using h1
  have H1:=hI h1
  clear h1
  cases body with
  | true=>
   cases other with
   | true=>
    cases named with
    | true=>
     have HP:=hI (show HasP n s m nb ne a true true true from ⟨H1.out,.inl rfl,.inl rfl,.inl rfl⟩)
     go_enter Tryz.func115,Tryz.ntmps115
     go_wp2_with fail
     go_ret
     exact ⟨_,rfl,(fun _=>HP.out),HB1.out⟩
    | false=>
     by_cases hs : s=[]
     ·have e:=emp_e (s:=s) (b:=true) (by simpa using hs)
      have HS:=hI hs
      clear hs
      by_cases hn : n=0
      ·have qn : (n == 0)=true:=by simpa using hn
       have HN:=hI hn
       clear hn
       have HP:=hI (show HasP n s m nb ne a false true true from ⟨H1.out,.inl rfl,.inl rfl,.inr ⟨HS.out,HN.out⟩⟩)
       go_enter Tryz.func115,Tryz.ntmps115
       go_wp2_with fail
       go_ret
       exact ⟨_,rfl,(fun _=>HP.out),HB1.out⟩
      ·have qn : (n == 0)=false:=by simpa using hn
       clear hn
       go_enter Tryz.func115,Tryz.ntmps115
       go_wp2_with fail
       go_ret
       exact ⟨_,rfl,(fun h=>by cases h),HB1.out⟩
     ·have e:=emp_e (s:=s) (b:=false) (by simpa using hs)
      clear hs
      go_enter Tryz.func115,Tryz.ntmps115
      go_wp2_with fail
      go_ret
      exact ⟨_,rfl,(fun h=>by cases h),HB1.out⟩
   | false=>
    by_cases he : ne=0
    ·have qe : ((ne : Int) == 0)=true:=by simpa using he
     have HE:=hI he
     clear he
     cases named with
     | true=>
      have HP:=hI (show HasP n s m nb ne a true true false from ⟨H1.out,.inl rfl,.inr HE.out,.inl rfl⟩)
      go_enter Tryz.func115,Tryz.ntmps115
      go_wp2_with fail
      go_ret
      exact ⟨_,rfl,(fun _=>HP.out),HB1.out⟩
     | false=>
      by_cases hs : s=[]
      ·have e:=emp_e (s:=s) (b:=true) (by simpa using hs)
       have HS:=hI hs
       clear hs
       by_cases hn : n=0
       ·have qn : (n == 0)=true:=by simpa using hn
        have HN:=hI hn
        clear hn
        have HP:=hI (show HasP n s m nb ne a false true false from ⟨H1.out,.inl rfl,.inr HE.out,.inr ⟨HS.out,HN.out⟩⟩)
        go_enter Tryz.func115,Tryz.ntmps115
        go_wp2_with fail
        go_ret
        exact ⟨_,rfl,(fun _=>HP.out),HB1.out⟩
       ·have qn : (n == 0)=false:=by simpa using hn
        clear hn
        go_enter Tryz.func115,Tryz.ntmps115
        go_wp2_with fail
        go_ret
        exact ⟨_,rfl,(fun h=>by cases h),HB1.out⟩
      ·have e:=emp_e (s:=s) (b:=false) (by simpa using hs)
       clear hs
       go_enter Tryz.func115,Tryz.ntmps115
       go_wp2_with fail
       go_ret
       exact ⟨_,rfl,(fun h=>by cases h),HB1.out⟩
    ·have qe : ((ne : Int) == 0)=false:=by simpa using he
     clear he
     go_enter Tryz.func115,Tryz.ntmps115
     go_wp2_with fail
     go_ret
     exact ⟨_,rfl,(fun h=>by cases h),HB1.out⟩
  | false=>
   by_cases hb : nb=0
   ·have qb : ((nb : Int) == 0)=true:=by simpa using hb
    have HB:=hI hb
    clear hb
    cases other with
    | true=>
     cases named with
     | true=>
      have HP:=hI (show HasP n s m nb ne a true false true from ⟨H1.out,.inr HB.out,.inl rfl,.inl rfl⟩)
      go_enter Tryz.func115,Tryz.ntmps115
      go_wp2_with fail
      go_ret
      exact ⟨_,rfl,(fun _=>HP.out),HB1.out⟩
     | false=>
      by_cases hs : s=[]
      ·have e:=emp_e (s:=s) (b:=true) (by simpa using hs)
       have HS:=hI hs
       clear hs
       by_cases hn : n=0
       ·have qn : (n == 0)=true:=by simpa using hn
        have HN:=hI hn
        clear hn
        have HP:=hI (show HasP n s m nb ne a false false true from ⟨H1.out,.inr HB.out,.inl rfl,.inr ⟨HS.out,HN.out⟩⟩)
        go_enter Tryz.func115,Tryz.ntmps115
        go_wp2_with fail
        go_ret
        exact ⟨_,rfl,(fun _=>HP.out),HB1.out⟩
       ·have qn : (n == 0)=false:=by simpa using hn
        clear hn
        go_enter Tryz.func115,Tryz.ntmps115
        go_wp2_with fail
        go_ret
        exact ⟨_,rfl,(fun h=>by cases h),HB1.out⟩
      ·have e:=emp_e (s:=s) (b:=false) (by simpa using hs)
       clear hs
       go_enter Tryz.func115,Tryz.ntmps115
       go_wp2_with fail
       go_ret
       exact ⟨_,rfl,(fun h=>by cases h),HB1.out⟩
    | false=>
     by_cases he : ne=0
     ·have qe : ((ne : Int) == 0)=true:=by simpa using he
      have HE:=hI he
      clear he
      cases named with
      | true=>
       have HP:=hI (show HasP n s m nb ne a true false false from ⟨H1.out,.inr HB.out,.inr HE.out,.inl rfl⟩)
       go_enter Tryz.func115,Tryz.ntmps115
       go_wp2_with fail
       go_ret
       exact ⟨_,rfl,(fun _=>HP.out),HB1.out⟩
      | false=>
       by_cases hs : s=[]
       ·have e:=emp_e (s:=s) (b:=true) (by simpa using hs)
        have HS:=hI hs
        clear hs
        by_cases hn : n=0
        ·have qn : (n == 0)=true:=by simpa using hn
         have HN:=hI hn
         clear hn
         have HP:=hI (show HasP n s m nb ne a false false false from ⟨H1.out,.inr HB.out,.inr HE.out,.inr ⟨HS.out,HN.out⟩⟩)
         go_enter Tryz.func115,Tryz.ntmps115
         go_wp2_with fail
         go_ret
         exact ⟨_,rfl,(fun _=>HP.out),HB1.out⟩
        ·have qn : (n == 0)=false:=by simpa using hn
         clear hn
         go_enter Tryz.func115,Tryz.ntmps115
         go_wp2_with fail
         go_ret
         exact ⟨_,rfl,(fun h=>by cases h),HB1.out⟩
       ·have e:=emp_e (s:=s) (b:=false) (by simpa using hs)
        clear hs
        go_enter Tryz.func115,Tryz.ntmps115
        go_wp2_with fail
        go_ret
        exact ⟨_,rfl,(fun h=>by cases h),HB1.out⟩
     ·have qe : ((ne : Int) == 0)=false:=by simpa using he
      clear he
      go_enter Tryz.func115,Tryz.ntmps115
      go_wp2_with fail
      go_ret
      exact ⟨_,rfl,(fun h=>by cases h),HB1.out⟩
   ·have qb : ((nb : Int) == 0)=false:=by simpa using hb
    clear hb
    go_enter Tryz.func115,Tryz.ntmps115
    go_wp2_with fail
    go_ret
    exact ⟨_,rfl,(fun h=>by cases h),HB1.out⟩
 ·have q1 : ((m : Int) == a)=false:=by simpa using h1
  clear h1
  go_enter Tryz.func115,Tryz.ntmps115
  go_wp2_with fail
  go_ret
  exact ⟨_,rfl,(fun h=>by cases h),HB1.out⟩
theorem HasP.mk_ {n : Int} {s : S} {m nb ne q : Nat} {named body other : Bool} (h : HasP n s m nb ne (q : Int) named body other) : m=q:=by have:=h.1;omega
theorem HasP.b0 {n : Int} {s : S} {m nb ne : Nat} {a : Int} {named other : Bool} (h : HasP n s m nb ne a named false other) : nb=0:=h.2.1.resolve_left (by simp)
theorem HasP.e0 {n : Int} {s : S} {m nb ne : Nat} {a : Int} {named body : Bool} (h : HasP n s m nb ne a named body false) : ne=0:=h.2.2.1.resolve_left (by simp)
theorem HasP.s0 {n : Int} {s : S} {m nb ne : Nat} {a : Int} {body other : Bool} (h : HasP n s m nb ne a false body other) : s=[]∧n=0:=h.2.2.2.resolve_left (by simp)
inductive ShOk : Int→Int→S→Nat→Nat→Nat→Bool→Prop
 | say {m} : 1≤m→m≤8→ShOk 1 0 [] m 0 0 false
 | named {k n s} : (k=2∨k=3∨k=5∨k=6∨k=17∨k=23)→ShOk k n s 1 0 0 true
 | put {n s} : ShOk 4 n s 2 0 0 true
 | move : ShOk 7 0 [] 2 0 0 false
 | one {k} : (k=8∨k=12∨k=16∨k=20∨k=22∨k=19)→ShOk k 0 [] 1 0 0 false
 | if_ {nb ne} : ShOk 9 0 [] 1 nb ne false
 | while_ {nb} : ShOk 10 0 [] 1 nb 0 false
 | each {n s nb} : ShOk 11 n s 1 nb 0 true
 | halt {n s} : ShOk 18 n s 0 0 0 true
 | none {k} : (k=13∨k=14∨k=15∨k=21)→ShOk k 0 [] 0 0 0 false
def ShapeV (k n : Int) (s : S) (m nb ne : Nat) (w : World) (e : Ending) (w' : World) : Prop:=∃ b nm : Bool,e=.returned (.tuple #[.bool b,.bool nm])∧(b=true→ShOk k n s m nb ne nm)∧Below w.heap.size w w'
set_option maxRecDepth 100000 in
set_option maxHeartbeats 8000000 in
theorem shape_o (k n : Int) (s : S) (Aa Ab Ae : Option Addr) (m nb ne ca cb ce : Nat) (w : World) :
  Calls Tryz.prog 90 #[.agg #[.int .i64 k,.int .i64 n,.string (str s),.slice Aa m ca,.slice Ab nb cb,.slice Ae ne ce]] w (ShapeV k n s m nb ne w):=by
 go_enter Tryz.func90,Tryz.ntmps90
 obtain ⟨w1,hw1⟩ : ∃ W,w.alloc (.cells #[.int .i64 k,.int .i64 n,.string (str s),.slice Aa m ca,.slice Ab nb cb,.slice Ae ne ce] 65)=W:=⟨_,rfl⟩
 have HBX:=hI (show Bz w #[.int .i64 k,.int .i64 n,.string (str s),.slice Aa m ca,.slice Ab nb cb,.slice Ae ne ce] 65 w1 by rw [← hw1];exact Bz.new _ _ _)
 have FB:=hI (fun (u : World) (hu : Bz w #[.int .i64 k,.int .i64 n,.string (str s),.slice Aa m ca,.slice Ab nb cb,.slice Ae ne ce] 65 u) (a : Int) (named body other : Bool)=>(has_o k n s Aa Ab Ae m nb ne ca cb ce named a body other u).mono (R':=fun e w'=>∃ b,e=.returned (.bool b)∧(b=true→HasP n s m nb ne a named body other)∧Bz w #[.int .i64 k,.int .i64 n,.string (str s),.slice Aa m ca,.slice Ab nb cb,.slice Ae ne ce] 65 w') (by rintro e w' ⟨b,rfl,hp,hb⟩;exact ⟨b,rfl,hp,hu.on hb⟩))
 by_cases hk1 : k=1
 ·subst hk1
  obtain ⟨x0,x1,x2,x3,x4,x5,xf⟩:=cells6 HBX.out.box
  go_wp2_with (first | (go_at_call 115;refine (FB.out _ HBX.out _ _ _ _).mono ?_;rintro e w2 ⟨b1,rfl,hp,hz2⟩;have HP:=hI hp;have HZ2:=hI hz2;clear hp x0 x1 x2 x3 x4 x5 xf;obtain ⟨x0,x1,x2,x3,x4,x5,xf⟩:=cells6 hz2.box;clear hz2;cases b1) | (go_at_call 116;refine (among_o _ _ _ _).mono ?_;rintro e w3 ⟨b2,rfl,hq,rfl⟩;have HQ:=hI hq;clear hq;cases b2))
  all_goals go_ret2
  all_goals first | (refine ⟨_,_,rfl,(fun _=>?_),HZ2.out.low⟩;have h:=HP.out (by trivial);rw [h.b0,h.e0,h.s0.1,h.s0.2];have hq:=HQ.out (by trivial);exact .say (by omega) (by omega)) | exact ⟨_,_,rfl,(fun h=>absurd h (by decide)),HZ2.out.low⟩
 have q1 : (k == 1)=false:=beq_eq_false_iff_ne.2 hk1
 by_cases hk2 : k=2
 ·subst hk2
  obtain ⟨x0,x1,x2,x3,x4,x5,xf⟩:=cells6 HBX.out.box
  go_wp2_with (first | (go_at_call 115;refine (FB.out _ HBX.out _ _ _ _).mono ?_;rintro e w2 ⟨b1,rfl,hp,hz2⟩;have HP:=hI hp;have HZ2:=hI hz2;clear hp x0 x1 x2 x3 x4 x5 xf;obtain ⟨x0,x1,x2,x3,x4,x5,xf⟩:=cells6 hz2.box;clear hz2;cases b1) | (go_at_call 116;refine (among_o _ _ _ _).mono ?_;rintro e w3 ⟨b2,rfl,hq,rfl⟩;have HQ:=hI hq;clear hq;cases b2))
  all_goals go_ret2
  all_goals first | (refine ⟨_,_,rfl,(fun _=>?_),HZ2.out.low⟩;have h:=HP.out (by trivial);rw [(show m=1 from HasP.mk_ (q:=1) h),h.b0,h.e0];exact .named (by omega)) | exact ⟨_,_,rfl,(fun h=>absurd h (by decide)),HZ2.out.low⟩
 have q2 : (k == 2)=false:=beq_eq_false_iff_ne.2 hk2
 by_cases hk3 : k=3
 ·subst hk3
  obtain ⟨x0,x1,x2,x3,x4,x5,xf⟩:=cells6 HBX.out.box
  go_wp2_with (first | (go_at_call 115;refine (FB.out _ HBX.out _ _ _ _).mono ?_;rintro e w2 ⟨b1,rfl,hp,hz2⟩;have HP:=hI hp;have HZ2:=hI hz2;clear hp x0 x1 x2 x3 x4 x5 xf;obtain ⟨x0,x1,x2,x3,x4,x5,xf⟩:=cells6 hz2.box;clear hz2;cases b1) | (go_at_call 116;refine (among_o _ _ _ _).mono ?_;rintro e w3 ⟨b2,rfl,hq,rfl⟩;have HQ:=hI hq;clear hq;cases b2))
  all_goals go_ret2
  all_goals first | (refine ⟨_,_,rfl,(fun _=>?_),HZ2.out.low⟩;have h:=HP.out (by trivial);rw [(show m=1 from HasP.mk_ (q:=1) h),h.b0,h.e0];exact .named (by omega)) | exact ⟨_,_,rfl,(fun h=>absurd h (by decide)),HZ2.out.low⟩
 have q3 : (k == 3)=false:=beq_eq_false_iff_ne.2 hk3
 by_cases hk4 : k=4
 ·subst hk4
  obtain ⟨x0,x1,x2,x3,x4,x5,xf⟩:=cells6 HBX.out.box
  go_wp2_with (first | (go_at_call 115;refine (FB.out _ HBX.out _ _ _ _).mono ?_;rintro e w2 ⟨b1,rfl,hp,hz2⟩;have HP:=hI hp;have HZ2:=hI hz2;clear hp x0 x1 x2 x3 x4 x5 xf;obtain ⟨x0,x1,x2,x3,x4,x5,xf⟩:=cells6 hz2.box;clear hz2;cases b1) | (go_at_call 116;refine (among_o _ _ _ _).mono ?_;rintro e w3 ⟨b2,rfl,hq,rfl⟩;have HQ:=hI hq;clear hq;cases b2))
  all_goals go_ret2
  all_goals first | (refine ⟨_,_,rfl,(fun _=>?_),HZ2.out.low⟩;have h:=HP.out (by trivial);rw [(show m=2 from HasP.mk_ (q:=2) h),h.b0,h.e0];exact .put) | exact ⟨_,_,rfl,(fun h=>absurd h (by decide)),HZ2.out.low⟩
 have q4 : (k == 4)=false:=beq_eq_false_iff_ne.2 hk4
 by_cases hk5 : k=5
 ·subst hk5
  obtain ⟨x0,x1,x2,x3,x4,x5,xf⟩:=cells6 HBX.out.box
  go_wp2_with (first | (go_at_call 115;refine (FB.out _ HBX.out _ _ _ _).mono ?_;rintro e w2 ⟨b1,rfl,hp,hz2⟩;have HP:=hI hp;have HZ2:=hI hz2;clear hp x0 x1 x2 x3 x4 x5 xf;obtain ⟨x0,x1,x2,x3,x4,x5,xf⟩:=cells6 hz2.box;clear hz2;cases b1) | (go_at_call 116;refine (among_o _ _ _ _).mono ?_;rintro e w3 ⟨b2,rfl,hq,rfl⟩;have HQ:=hI hq;clear hq;cases b2))
  all_goals go_ret2
  all_goals first | (refine ⟨_,_,rfl,(fun _=>?_),HZ2.out.low⟩;have h:=HP.out (by trivial);rw [(show m=1 from HasP.mk_ (q:=1) h),h.b0,h.e0];exact .named (by omega)) | exact ⟨_,_,rfl,(fun h=>absurd h (by decide)),HZ2.out.low⟩
 have q5 : (k == 5)=false:=beq_eq_false_iff_ne.2 hk5
 by_cases hk6 : k=6
 ·subst hk6
  obtain ⟨x0,x1,x2,x3,x4,x5,xf⟩:=cells6 HBX.out.box
  go_wp2_with (first | (go_at_call 115;refine (FB.out _ HBX.out _ _ _ _).mono ?_;rintro e w2 ⟨b1,rfl,hp,hz2⟩;have HP:=hI hp;have HZ2:=hI hz2;clear hp x0 x1 x2 x3 x4 x5 xf;obtain ⟨x0,x1,x2,x3,x4,x5,xf⟩:=cells6 hz2.box;clear hz2;cases b1) | (go_at_call 116;refine (among_o _ _ _ _).mono ?_;rintro e w3 ⟨b2,rfl,hq,rfl⟩;have HQ:=hI hq;clear hq;cases b2))
  all_goals go_ret2
  all_goals first | (refine ⟨_,_,rfl,(fun _=>?_),HZ2.out.low⟩;have h:=HP.out (by trivial);rw [(show m=1 from HasP.mk_ (q:=1) h),h.b0,h.e0];exact .named (by omega)) | exact ⟨_,_,rfl,(fun h=>absurd h (by decide)),HZ2.out.low⟩
 have q6 : (k == 6)=false:=beq_eq_false_iff_ne.2 hk6
 by_cases hk7 : k=7
 ·subst hk7
  obtain ⟨x0,x1,x2,x3,x4,x5,xf⟩:=cells6 HBX.out.box
  go_wp2_with (first | (go_at_call 115;refine (FB.out _ HBX.out _ _ _ _).mono ?_;rintro e w2 ⟨b1,rfl,hp,hz2⟩;have HP:=hI hp;have HZ2:=hI hz2;clear hp x0 x1 x2 x3 x4 x5 xf;obtain ⟨x0,x1,x2,x3,x4,x5,xf⟩:=cells6 hz2.box;clear hz2;cases b1) | (go_at_call 116;refine (among_o _ _ _ _).mono ?_;rintro e w3 ⟨b2,rfl,hq,rfl⟩;have HQ:=hI hq;clear hq;cases b2))
  all_goals go_ret2
  all_goals first | (refine ⟨_,_,rfl,(fun _=>?_),HZ2.out.low⟩;have h:=HP.out (by trivial);rw [(show m=2 from HasP.mk_ (q:=2) h),h.b0,h.e0,h.s0.1,h.s0.2];exact .move) | exact ⟨_,_,rfl,(fun h=>absurd h (by decide)),HZ2.out.low⟩
 have q7 : (k == 7)=false:=beq_eq_false_iff_ne.2 hk7
 by_cases hk8 : k=8
 ·subst hk8
  obtain ⟨x0,x1,x2,x3,x4,x5,xf⟩:=cells6 HBX.out.box
  go_wp2_with (first | (go_at_call 115;refine (FB.out _ HBX.out _ _ _ _).mono ?_;rintro e w2 ⟨b1,rfl,hp,hz2⟩;have HP:=hI hp;have HZ2:=hI hz2;clear hp x0 x1 x2 x3 x4 x5 xf;obtain ⟨x0,x1,x2,x3,x4,x5,xf⟩:=cells6 hz2.box;clear hz2;cases b1) | (go_at_call 116;refine (among_o _ _ _ _).mono ?_;rintro e w3 ⟨b2,rfl,hq,rfl⟩;have HQ:=hI hq;clear hq;cases b2))
  all_goals go_ret2
  all_goals first | (refine ⟨_,_,rfl,(fun _=>?_),HZ2.out.low⟩;have h:=HP.out (by trivial);rw [(show m=1 from HasP.mk_ (q:=1) h),h.b0,h.e0,h.s0.1,h.s0.2];exact .one (by omega)) | exact ⟨_,_,rfl,(fun h=>absurd h (by decide)),HZ2.out.low⟩
 have q8 : (k == 8)=false:=beq_eq_false_iff_ne.2 hk8
 by_cases hk9 : k=9
 ·subst hk9
  obtain ⟨x0,x1,x2,x3,x4,x5,xf⟩:=cells6 HBX.out.box
  go_wp2_with (first | (go_at_call 115;refine (FB.out _ HBX.out _ _ _ _).mono ?_;rintro e w2 ⟨b1,rfl,hp,hz2⟩;have HP:=hI hp;have HZ2:=hI hz2;clear hp x0 x1 x2 x3 x4 x5 xf;obtain ⟨x0,x1,x2,x3,x4,x5,xf⟩:=cells6 hz2.box;clear hz2;cases b1) | (go_at_call 116;refine (among_o _ _ _ _).mono ?_;rintro e w3 ⟨b2,rfl,hq,rfl⟩;have HQ:=hI hq;clear hq;cases b2))
  all_goals go_ret2
  all_goals first | (refine ⟨_,_,rfl,(fun _=>?_),HZ2.out.low⟩;have h:=HP.out (by trivial);rw [(show m=1 from HasP.mk_ (q:=1) h),h.s0.1,h.s0.2];exact .if_) | exact ⟨_,_,rfl,(fun h=>absurd h (by decide)),HZ2.out.low⟩
 have q9 : (k == 9)=false:=beq_eq_false_iff_ne.2 hk9
 by_cases hk10 : k=10
 ·subst hk10
  obtain ⟨x0,x1,x2,x3,x4,x5,xf⟩:=cells6 HBX.out.box
  go_wp2_with (first | (go_at_call 115;refine (FB.out _ HBX.out _ _ _ _).mono ?_;rintro e w2 ⟨b1,rfl,hp,hz2⟩;have HP:=hI hp;have HZ2:=hI hz2;clear hp x0 x1 x2 x3 x4 x5 xf;obtain ⟨x0,x1,x2,x3,x4,x5,xf⟩:=cells6 hz2.box;clear hz2;cases b1) | (go_at_call 116;refine (among_o _ _ _ _).mono ?_;rintro e w3 ⟨b2,rfl,hq,rfl⟩;have HQ:=hI hq;clear hq;cases b2))
  all_goals go_ret2
  all_goals first | (refine ⟨_,_,rfl,(fun _=>?_),HZ2.out.low⟩;have h:=HP.out (by trivial);rw [(show m=1 from HasP.mk_ (q:=1) h),h.e0,h.s0.1,h.s0.2];exact .while_) | exact ⟨_,_,rfl,(fun h=>absurd h (by decide)),HZ2.out.low⟩
 have q10 : (k == 10)=false:=beq_eq_false_iff_ne.2 hk10
 by_cases hk11 : k=11
 ·subst hk11
  obtain ⟨x0,x1,x2,x3,x4,x5,xf⟩:=cells6 HBX.out.box
  go_wp2_with (first | (go_at_call 115;refine (FB.out _ HBX.out _ _ _ _).mono ?_;rintro e w2 ⟨b1,rfl,hp,hz2⟩;have HP:=hI hp;have HZ2:=hI hz2;clear hp x0 x1 x2 x3 x4 x5 xf;obtain ⟨x0,x1,x2,x3,x4,x5,xf⟩:=cells6 hz2.box;clear hz2;cases b1) | (go_at_call 116;refine (among_o _ _ _ _).mono ?_;rintro e w3 ⟨b2,rfl,hq,rfl⟩;have HQ:=hI hq;clear hq;cases b2))
  all_goals go_ret2
  all_goals first | (refine ⟨_,_,rfl,(fun _=>?_),HZ2.out.low⟩;have h:=HP.out (by trivial);rw [(show m=1 from HasP.mk_ (q:=1) h),h.e0];exact .each) | exact ⟨_,_,rfl,(fun h=>absurd h (by decide)),HZ2.out.low⟩
 have q11 : (k == 11)=false:=beq_eq_false_iff_ne.2 hk11
 by_cases hk12 : k=12
 ·subst hk12
  obtain ⟨x0,x1,x2,x3,x4,x5,xf⟩:=cells6 HBX.out.box
  go_wp2_with (first | (go_at_call 115;refine (FB.out _ HBX.out _ _ _ _).mono ?_;rintro e w2 ⟨b1,rfl,hp,hz2⟩;have HP:=hI hp;have HZ2:=hI hz2;clear hp x0 x1 x2 x3 x4 x5 xf;obtain ⟨x0,x1,x2,x3,x4,x5,xf⟩:=cells6 hz2.box;clear hz2;cases b1) | (go_at_call 116;refine (among_o _ _ _ _).mono ?_;rintro e w3 ⟨b2,rfl,hq,rfl⟩;have HQ:=hI hq;clear hq;cases b2))
  all_goals go_ret2
  all_goals first | (refine ⟨_,_,rfl,(fun _=>?_),HZ2.out.low⟩;have h:=HP.out (by trivial);rw [(show m=1 from HasP.mk_ (q:=1) h),h.b0,h.e0,h.s0.1,h.s0.2];exact .one (by omega)) | exact ⟨_,_,rfl,(fun h=>absurd h (by decide)),HZ2.out.low⟩
 have q12 : (k == 12)=false:=beq_eq_false_iff_ne.2 hk12
 by_cases hk13 : k=13
 ·subst hk13
  obtain ⟨x0,x1,x2,x3,x4,x5,xf⟩:=cells6 HBX.out.box
  go_wp2_with (first | (go_at_call 115;refine (FB.out _ HBX.out _ _ _ _).mono ?_;rintro e w2 ⟨b1,rfl,hp,hz2⟩;have HP:=hI hp;have HZ2:=hI hz2;clear hp x0 x1 x2 x3 x4 x5 xf;obtain ⟨x0,x1,x2,x3,x4,x5,xf⟩:=cells6 hz2.box;clear hz2;cases b1) | (go_at_call 116;refine (among_o _ _ _ _).mono ?_;rintro e w3 ⟨b2,rfl,hq,rfl⟩;have HQ:=hI hq;clear hq;cases b2))
  all_goals go_ret2
  all_goals first | (refine ⟨_,_,rfl,(fun _=>?_),HZ2.out.low⟩;have h:=HP.out (by trivial);rw [(show m=0 from HasP.mk_ (q:=0) h),h.b0,h.e0,h.s0.1,h.s0.2];exact .none (by omega)) | exact ⟨_,_,rfl,(fun h=>absurd h (by decide)),HZ2.out.low⟩
 have q13 : (k == 13)=false:=beq_eq_false_iff_ne.2 hk13
 by_cases hk14 : k=14
 ·subst hk14
  obtain ⟨x0,x1,x2,x3,x4,x5,xf⟩:=cells6 HBX.out.box
  go_wp2_with (first | (go_at_call 115;refine (FB.out _ HBX.out _ _ _ _).mono ?_;rintro e w2 ⟨b1,rfl,hp,hz2⟩;have HP:=hI hp;have HZ2:=hI hz2;clear hp x0 x1 x2 x3 x4 x5 xf;obtain ⟨x0,x1,x2,x3,x4,x5,xf⟩:=cells6 hz2.box;clear hz2;cases b1) | (go_at_call 116;refine (among_o _ _ _ _).mono ?_;rintro e w3 ⟨b2,rfl,hq,rfl⟩;have HQ:=hI hq;clear hq;cases b2))
  all_goals go_ret2
  all_goals first | (refine ⟨_,_,rfl,(fun _=>?_),HZ2.out.low⟩;have h:=HP.out (by trivial);rw [(show m=0 from HasP.mk_ (q:=0) h),h.b0,h.e0,h.s0.1,h.s0.2];exact .none (by omega)) | exact ⟨_,_,rfl,(fun h=>absurd h (by decide)),HZ2.out.low⟩
 have q14 : (k == 14)=false:=beq_eq_false_iff_ne.2 hk14
 by_cases hk15 : k=15
 ·subst hk15
  obtain ⟨x0,x1,x2,x3,x4,x5,xf⟩:=cells6 HBX.out.box
  go_wp2_with (first | (go_at_call 115;refine (FB.out _ HBX.out _ _ _ _).mono ?_;rintro e w2 ⟨b1,rfl,hp,hz2⟩;have HP:=hI hp;have HZ2:=hI hz2;clear hp x0 x1 x2 x3 x4 x5 xf;obtain ⟨x0,x1,x2,x3,x4,x5,xf⟩:=cells6 hz2.box;clear hz2;cases b1) | (go_at_call 116;refine (among_o _ _ _ _).mono ?_;rintro e w3 ⟨b2,rfl,hq,rfl⟩;have HQ:=hI hq;clear hq;cases b2))
  all_goals go_ret2
  all_goals first | (refine ⟨_,_,rfl,(fun _=>?_),HZ2.out.low⟩;have h:=HP.out (by trivial);rw [(show m=0 from HasP.mk_ (q:=0) h),h.b0,h.e0,h.s0.1,h.s0.2];exact .none (by omega)) | exact ⟨_,_,rfl,(fun h=>absurd h (by decide)),HZ2.out.low⟩
 have q15 : (k == 15)=false:=beq_eq_false_iff_ne.2 hk15
 by_cases hk16 : k=16
 ·subst hk16
  obtain ⟨x0,x1,x2,x3,x4,x5,xf⟩:=cells6 HBX.out.box
  go_wp2_with (first | (go_at_call 115;refine (FB.out _ HBX.out _ _ _ _).mono ?_;rintro e w2 ⟨b1,rfl,hp,hz2⟩;have HP:=hI hp;have HZ2:=hI hz2;clear hp x0 x1 x2 x3 x4 x5 xf;obtain ⟨x0,x1,x2,x3,x4,x5,xf⟩:=cells6 hz2.box;clear hz2;cases b1) | (go_at_call 116;refine (among_o _ _ _ _).mono ?_;rintro e w3 ⟨b2,rfl,hq,rfl⟩;have HQ:=hI hq;clear hq;cases b2))
  all_goals go_ret2
  all_goals first | (refine ⟨_,_,rfl,(fun _=>?_),HZ2.out.low⟩;have h:=HP.out (by trivial);rw [(show m=1 from HasP.mk_ (q:=1) h),h.b0,h.e0,h.s0.1,h.s0.2];exact .one (by omega)) | exact ⟨_,_,rfl,(fun h=>absurd h (by decide)),HZ2.out.low⟩
 have q16 : (k == 16)=false:=beq_eq_false_iff_ne.2 hk16
 by_cases hk17 : k=17
 ·subst hk17
  obtain ⟨x0,x1,x2,x3,x4,x5,xf⟩:=cells6 HBX.out.box
  go_wp2_with (first | (go_at_call 115;refine (FB.out _ HBX.out _ _ _ _).mono ?_;rintro e w2 ⟨b1,rfl,hp,hz2⟩;have HP:=hI hp;have HZ2:=hI hz2;clear hp x0 x1 x2 x3 x4 x5 xf;obtain ⟨x0,x1,x2,x3,x4,x5,xf⟩:=cells6 hz2.box;clear hz2;cases b1) | (go_at_call 116;refine (among_o _ _ _ _).mono ?_;rintro e w3 ⟨b2,rfl,hq,rfl⟩;have HQ:=hI hq;clear hq;cases b2))
  all_goals go_ret2
  all_goals first | (refine ⟨_,_,rfl,(fun _=>?_),HZ2.out.low⟩;have h:=HP.out (by trivial);rw [(show m=1 from HasP.mk_ (q:=1) h),h.b0,h.e0];exact .named (by omega)) | exact ⟨_,_,rfl,(fun h=>absurd h (by decide)),HZ2.out.low⟩
 have q17 : (k == 17)=false:=beq_eq_false_iff_ne.2 hk17
 by_cases hk18 : k=18
 ·subst hk18
  obtain ⟨x0,x1,x2,x3,x4,x5,xf⟩:=cells6 HBX.out.box
  go_wp2_with (first | (go_at_call 115;refine (FB.out _ HBX.out _ _ _ _).mono ?_;rintro e w2 ⟨b1,rfl,hp,hz2⟩;have HP:=hI hp;have HZ2:=hI hz2;clear hp x0 x1 x2 x3 x4 x5 xf;obtain ⟨x0,x1,x2,x3,x4,x5,xf⟩:=cells6 hz2.box;clear hz2;cases b1) | (go_at_call 116;refine (among_o _ _ _ _).mono ?_;rintro e w3 ⟨b2,rfl,hq,rfl⟩;have HQ:=hI hq;clear hq;cases b2))
  all_goals go_ret2
  all_goals first | (refine ⟨_,_,rfl,(fun _=>?_),HZ2.out.low⟩;have h:=HP.out (by trivial);rw [(show m=0 from HasP.mk_ (q:=0) h),h.b0,h.e0];exact .halt) | exact ⟨_,_,rfl,(fun h=>absurd h (by decide)),HZ2.out.low⟩
 have q18 : (k == 18)=false:=beq_eq_false_iff_ne.2 hk18
 by_cases hk19 : k=19
 ·subst hk19
  obtain ⟨x0,x1,x2,x3,x4,x5,xf⟩:=cells6 HBX.out.box
  go_wp2_with (first | (go_at_call 115;refine (FB.out _ HBX.out _ _ _ _).mono ?_;rintro e w2 ⟨b1,rfl,hp,hz2⟩;have HP:=hI hp;have HZ2:=hI hz2;clear hp x0 x1 x2 x3 x4 x5 xf;obtain ⟨x0,x1,x2,x3,x4,x5,xf⟩:=cells6 hz2.box;clear hz2;cases b1) | (go_at_call 116;refine (among_o _ _ _ _).mono ?_;rintro e w3 ⟨b2,rfl,hq,rfl⟩;have HQ:=hI hq;clear hq;cases b2))
  all_goals go_ret2
  all_goals first | (refine ⟨_,_,rfl,(fun _=>?_),HZ2.out.low⟩;have h:=HP.out (by trivial);rw [(show m=1 from HasP.mk_ (q:=1) h),h.b0,h.e0,h.s0.1,h.s0.2];exact .one (by omega)) | exact ⟨_,_,rfl,(fun h=>absurd h (by decide)),HZ2.out.low⟩
 have q19 : (k == 19)=false:=beq_eq_false_iff_ne.2 hk19
 by_cases hk20 : k=20
 ·subst hk20
  obtain ⟨x0,x1,x2,x3,x4,x5,xf⟩:=cells6 HBX.out.box
  go_wp2_with (first | (go_at_call 115;refine (FB.out _ HBX.out _ _ _ _).mono ?_;rintro e w2 ⟨b1,rfl,hp,hz2⟩;have HP:=hI hp;have HZ2:=hI hz2;clear hp x0 x1 x2 x3 x4 x5 xf;obtain ⟨x0,x1,x2,x3,x4,x5,xf⟩:=cells6 hz2.box;clear hz2;cases b1) | (go_at_call 116;refine (among_o _ _ _ _).mono ?_;rintro e w3 ⟨b2,rfl,hq,rfl⟩;have HQ:=hI hq;clear hq;cases b2))
  all_goals go_ret2
  all_goals first | (refine ⟨_,_,rfl,(fun _=>?_),HZ2.out.low⟩;have h:=HP.out (by trivial);rw [(show m=1 from HasP.mk_ (q:=1) h),h.b0,h.e0,h.s0.1,h.s0.2];exact .one (by omega)) | exact ⟨_,_,rfl,(fun h=>absurd h (by decide)),HZ2.out.low⟩
 have q20 : (k == 20)=false:=beq_eq_false_iff_ne.2 hk20
 by_cases hk21 : k=21
 ·subst hk21
  obtain ⟨x0,x1,x2,x3,x4,x5,xf⟩:=cells6 HBX.out.box
  go_wp2_with (first | (go_at_call 115;refine (FB.out _ HBX.out _ _ _ _).mono ?_;rintro e w2 ⟨b1,rfl,hp,hz2⟩;have HP:=hI hp;have HZ2:=hI hz2;clear hp x0 x1 x2 x3 x4 x5 xf;obtain ⟨x0,x1,x2,x3,x4,x5,xf⟩:=cells6 hz2.box;clear hz2;cases b1) | (go_at_call 116;refine (among_o _ _ _ _).mono ?_;rintro e w3 ⟨b2,rfl,hq,rfl⟩;have HQ:=hI hq;clear hq;cases b2))
  all_goals go_ret2
  all_goals first | (refine ⟨_,_,rfl,(fun _=>?_),HZ2.out.low⟩;have h:=HP.out (by trivial);rw [(show m=0 from HasP.mk_ (q:=0) h),h.b0,h.e0,h.s0.1,h.s0.2];exact .none (by omega)) | exact ⟨_,_,rfl,(fun h=>absurd h (by decide)),HZ2.out.low⟩
 have q21 : (k == 21)=false:=beq_eq_false_iff_ne.2 hk21
 by_cases hk22 : k=22
 ·subst hk22
  obtain ⟨x0,x1,x2,x3,x4,x5,xf⟩:=cells6 HBX.out.box
  go_wp2_with (first | (go_at_call 115;refine (FB.out _ HBX.out _ _ _ _).mono ?_;rintro e w2 ⟨b1,rfl,hp,hz2⟩;have HP:=hI hp;have HZ2:=hI hz2;clear hp x0 x1 x2 x3 x4 x5 xf;obtain ⟨x0,x1,x2,x3,x4,x5,xf⟩:=cells6 hz2.box;clear hz2;cases b1) | (go_at_call 116;refine (among_o _ _ _ _).mono ?_;rintro e w3 ⟨b2,rfl,hq,rfl⟩;have HQ:=hI hq;clear hq;cases b2))
  all_goals go_ret2
  all_goals first | (refine ⟨_,_,rfl,(fun _=>?_),HZ2.out.low⟩;have h:=HP.out (by trivial);rw [(show m=1 from HasP.mk_ (q:=1) h),h.b0,h.e0,h.s0.1,h.s0.2];exact .one (by omega)) | exact ⟨_,_,rfl,(fun h=>absurd h (by decide)),HZ2.out.low⟩
 have q22 : (k == 22)=false:=beq_eq_false_iff_ne.2 hk22
 by_cases hk23 : k=23
 ·subst hk23
  obtain ⟨x0,x1,x2,x3,x4,x5,xf⟩:=cells6 HBX.out.box
  go_wp2_with (first | (go_at_call 115;refine (FB.out _ HBX.out _ _ _ _).mono ?_;rintro e w2 ⟨b1,rfl,hp,hz2⟩;have HP:=hI hp;have HZ2:=hI hz2;clear hp x0 x1 x2 x3 x4 x5 xf;obtain ⟨x0,x1,x2,x3,x4,x5,xf⟩:=cells6 hz2.box;clear hz2;cases b1) | (go_at_call 116;refine (among_o _ _ _ _).mono ?_;rintro e w3 ⟨b2,rfl,hq,rfl⟩;have HQ:=hI hq;clear hq;cases b2))
  all_goals go_ret2
  all_goals first | (refine ⟨_,_,rfl,(fun _=>?_),HZ2.out.low⟩;have h:=HP.out (by trivial);rw [(show m=1 from HasP.mk_ (q:=1) h),h.b0,h.e0];exact .named (by omega)) | exact ⟨_,_,rfl,(fun h=>absurd h (by decide)),HZ2.out.low⟩
 have q23 : (k == 23)=false:=beq_eq_false_iff_ne.2 hk23
 clear hk1 hk2 hk3 hk4 hk5 hk6 hk7 hk8 hk9 hk10 hk11 hk12 hk13 hk14 hk15 hk16 hk17 hk18 hk19 hk20 hk21 hk22 hk23
 obtain ⟨x0,x1,x2,x3,x4,x5,xf⟩:=cells6 HBX.out.box
 go_wp2_with fail
 go_ret2
 exact ⟨_,_,rfl,(fun h=>absurd h (by decide)),HBX.out.low⟩
end Go.Proofs.YteibcfpepdbflaaGreat.RtZ
