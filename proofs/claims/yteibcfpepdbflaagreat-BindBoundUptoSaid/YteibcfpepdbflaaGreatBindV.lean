/- The reference's unseen, seen and Locals. Conditions: lengths and sizes within the reach. -/
import Derived.Test.YteibcfpepdbflaaGreatCkB
import Derived.Test.YteibcfpepdbflaaGreatBkA
open Go.Lib renaming hid → hI
namespace Go.Proofs.YteibcfpepdbflaaGreat.CkC
open Go Go.RowKit BindP BindD BindO BindW BindG BindX BindB BindT BindU TxA RtS RtX RtD CkP CkA CkB
open Byt (str)
set_option maxRecDepth 100000 in
set_option maxHeartbeats 4000000 in
theorem own_c {A1 A3 : Option Addr} {n1 c1 n3 c3 : Nat} (t : List Nm) (lo : List S) (wh : Int) (mad : Nat) (k n : Int) (s : S) (v3 v4 v5 : Value) (w : World) (hr : Sk.Rd nmE w A1 n1 t) (hn : n1≤17592186043904) (hl : Sq.Rd sv w A3 n3 lo) (hn3 : n3≤17592186043904) (hm : mad≤8388608) :
  Calls Tryz.prog 107 #[.slice A1 n1 c1,.slice A3 n3 c3,.int .i64 wh,.int .i64 (mad : Int),.agg #[.int .i64 k,.int .i64 n,.string (str s),v3,v4,v5]] w (WrV (CkO t lo mad k s) w):=by
 obtain ⟨CX,hCX⟩ : ∃ p,p=CkO t lo mad k s:=⟨_,rfl⟩
 have HCX:=hI hCX
 rw [← hCX]
 clear hCX
 obtain ⟨V1,hV1⟩ : ∃ W,w.alloc (.cells #[.int .i64 k,.int .i64 n,.string (str s),v3,v4,v5] 65)=W:=⟨_,rfl⟩
 obtain ⟨V,hV⟩ : ∃ W,V1.alloc (.cells #[.int .i64 0,.string ⟨#[]⟩] 125)=W:=⟨_,rfl⟩
 obtain ⟨m1,s1,b1⟩:=made hV1
 obtain ⟨m2,s2,b2⟩:=made hV
 have m1':=(b2.block w.heap.size (by omega)).trans m1
 have HM1:=hI m1'
 have HM2:=hI (show ∀ U,Below V.heap.size V U→U.heap[V1.heap.size]?=some (.cells #[.int .i64 0,.string ⟨#[]⟩] 125 (0,0)) from fun U h=>(h.block _ (Array.getElem?_eq_some_iff.1 m2).1).trans m2)
 have HBV:=hI (b1.trans (b2.mono b1.size))
 have HP1:=hI (show w.heap.size≤V1.heap.size by omega)
 have HR:=hI (hr.below HBV.out)
 have HL:=hI (hl.below HBV.out)
 obtain ⟨p1,hp1⟩ : ∃ p,V1.heap.size=p:=⟨_,rfl⟩
 rw [hp1] at HM2 HP1
 clear m1' m1 m2 s1 s2 b1 b2 hr hl
 obtain ⟨e0,e1,e2,e3,e4,e5,ef⟩:=cells6 HM1.out
 go_enter Tryz.func107,Tryz.ntmps107
 by_cases hk2 : k=2
 ·subst hk2
  go_wp2_with (go_at_call 124;refine (fresh_c t lo s _ V HR.out hn HL.out hn3).mono ?_;rintro e w5 ⟨er,s5,rfl,hp,hb⟩;have HP5:=hI hp;have HB5:=hI hb;clear hp hb e0 e1 e2 e3 e4 e5 ef;obtain ⟨r0,r1,rf⟩:=cells2 (HM2.out w5 HB5.out))
  refine ret_c (d:=_) (cs:=#[.int .i64 er,.string (str s5)]) (t':=125) (fr:=(0,0)) (set2 (HM2.out _ HB5.out)) rfl rfl Tryz.underlying125 rfl (by kernel_rfl) rfl ?_
  exact ⟨er,s5,rfl,(fun h=>by rw [HCX.out];have h2:=HP5.out h;exact ⟨(fun _=>by omega),(fun h=>absurd h (by decide)),(fun h=>absurd h (by decide)),(fun h=>absurd h (by decide)),(fun h=>by omega),(fun h=>by omega)⟩),set2_below (HBV.out.trans (HB5.out.mono HBV.out.size)) HP1.out⟩
 have q2 : (k == 2)=false:=beq_eq_false_iff_ne.2 hk2
 by_cases hk11 : k=11
 ·subst hk11
  go_wp2_with (go_at_call 124;refine (fresh_c t lo s _ V HR.out hn HL.out hn3).mono ?_;rintro e w5 ⟨er,s5,rfl,hp,hb⟩;have HP5:=hI hp;have HB5:=hI hb;clear hp hb e0 e1 e2 e3 e4 e5 ef;obtain ⟨r0,r1,rf⟩:=cells2 (HM2.out w5 HB5.out))
  refine ret_c (d:=_) (cs:=#[.int .i64 er,.string (str s5)]) (t':=125) (fr:=(0,0)) (set2 (HM2.out _ HB5.out)) rfl rfl Tryz.underlying125 rfl (by kernel_rfl) rfl ?_
  exact ⟨er,s5,rfl,(fun h=>by rw [HCX.out];have h2:=HP5.out h;exact ⟨(fun h=>absurd h (by decide)),(fun _=>by omega),(fun h=>absurd h (by decide)),(fun h=>absurd h (by decide)),(fun h=>by omega),(fun h=>by omega)⟩),set2_below (HBV.out.trans (HB5.out.mono HBV.out.size)) HP1.out⟩
 have q11 : (k == 11)=false:=beq_eq_false_iff_ne.2 hk11
 by_cases hk3 : k=3
 ·subst hk3
  go_wp2_with (go_at_call 123;refine (either_c t lo false s V HR.out hn HL.out hn3).mono ?_;rintro e w5 ⟨er,s5,rfl,hp,hb⟩;have HP5:=hI hp;have HB5:=hI hb;clear hp hb e0 e1 e2 e3 e4 e5 ef;obtain ⟨r0,r1,rf⟩:=cells2 (HM2.out w5 HB5.out))
  refine ret_c (d:=_) (cs:=#[.int .i64 er,.string (str s5)]) (t':=125) (fr:=(0,0)) (set2 (HM2.out _ HB5.out)) rfl rfl Tryz.underlying125 rfl (by kernel_rfl) rfl ?_
  exact ⟨er,s5,rfl,(fun h=>by rw [HCX.out];have h2:=HP5.out h;exact ⟨(fun h=>absurd h (by decide)),(fun h=>absurd h (by decide)),(fun _=>h2.imp id (fun q=>⟨q.1,q.2.resolve_right (fun q2=>by cases q2.1)⟩)),(fun h=>absurd h (by decide)),(fun h=>by omega),(fun h=>by omega)⟩),set2_below (HBV.out.trans (HB5.out.mono HBV.out.size)) HP1.out⟩
 have q3 : (k == 3)=false:=beq_eq_false_iff_ne.2 hk3
 by_cases hk4 : k=4
 ·subst hk4
  go_wp2_with (go_at_call 99;refine (of_c t 2 s V HR.out hn).mono ?_;rintro e w5 ⟨er,s5,rfl,hp,hb⟩;have HP5:=hI hp;have HB5:=hI hb;clear hp hb e0 e1 e2 e3 e4 e5 ef;obtain ⟨r0,r1,rf⟩:=cells2 (HM2.out w5 HB5.out))
  refine ret_c (d:=_) (cs:=#[.int .i64 er,.string (str s5)]) (t':=125) (fr:=(0,0)) (set2 (HM2.out _ HB5.out)) rfl rfl Tryz.underlying125 rfl (by kernel_rfl) rfl ?_
  exact ⟨er,s5,rfl,(fun h=>by rw [HCX.out];have h2:=HP5.out h;exact ⟨(fun h=>absurd h (by decide)),(fun h=>absurd h (by decide)),(fun h=>absurd h (by decide)),(fun _=>h2),(fun h=>by omega),(fun h=>by omega)⟩),set2_below (HBV.out.trans (HB5.out.mono HBV.out.size)) HP1.out⟩
 have q4 : (k == 4)=false:=beq_eq_false_iff_ne.2 hk4
 by_cases hk5 : k=5
 ·subst hk5
  go_wp2_with (go_at_call 99;refine (of_c t 1 s V HR.out hn).mono ?_;rintro e w5 ⟨er,s5,rfl,hp,hb⟩;have HP5:=hI hp;have HB5:=hI hb;clear hp hb e0 e1 e2 e3 e4 e5 ef;obtain ⟨r0,r1,rf⟩:=cells2 (HM2.out w5 HB5.out))
  refine ret_c (d:=_) (cs:=#[.int .i64 er,.string (str s5)]) (t':=125) (fr:=(0,0)) (set2 (HM2.out _ HB5.out)) rfl rfl Tryz.underlying125 rfl (by kernel_rfl) rfl ?_
  exact ⟨er,s5,rfl,(fun h=>by rw [HCX.out];have h2:=HP5.out h;exact ⟨(fun h=>absurd h (by decide)),(fun h=>absurd h (by decide)),(fun h=>absurd h (by decide)),(fun h=>absurd h (by decide)),(fun _=>h2),(fun h=>by omega)⟩),set2_below (HBV.out.trans (HB5.out.mono HBV.out.size)) HP1.out⟩
 have q5 : (k == 5)=false:=beq_eq_false_iff_ne.2 hk5
 by_cases hk6 : k=6
 ·subst hk6
  go_wp2_with (go_at_call 99;refine (of_c t 1 s V HR.out hn).mono ?_;rintro e w5 ⟨er,s5,rfl,hp,hb⟩;have HP5:=hI hp;have HB5:=hI hb;clear hp hb e0 e1 e2 e3 e4 e5 ef;obtain ⟨r0,r1,rf⟩:=cells2 (HM2.out w5 HB5.out))
  refine ret_c (d:=_) (cs:=#[.int .i64 er,.string (str s5)]) (t':=125) (fr:=(0,0)) (set2 (HM2.out _ HB5.out)) rfl rfl Tryz.underlying125 rfl (by kernel_rfl) rfl ?_
  exact ⟨er,s5,rfl,(fun h=>by rw [HCX.out];have h2:=HP5.out h;exact ⟨(fun h=>absurd h (by decide)),(fun h=>absurd h (by decide)),(fun h=>absurd h (by decide)),(fun h=>absurd h (by decide)),(fun _=>h2),(fun h=>by omega)⟩),set2_below (HBV.out.trans (HB5.out.mono HBV.out.size)) HP1.out⟩
 have q6 : (k == 6)=false:=beq_eq_false_iff_ne.2 hk6
 by_cases hk17 : k=17
 ·subst hk17
  go_wp2_with (go_at_call 99;refine (of_c t 7 s V HR.out hn).mono ?_;rintro e w5 ⟨er,s5,rfl,hp,hb⟩;have HP5:=hI hp;have HB5:=hI hb;clear hp hb e0 e1 e2 e3 e4 e5 ef;obtain ⟨r0,r1,rf⟩:=cells2 (HM2.out w5 HB5.out))
  refine ret_c (d:=_) (cs:=#[.int .i64 er,.string (str s5)]) (t':=125) (fr:=(0,0)) (set2 (HM2.out _ HB5.out)) rfl rfl Tryz.underlying125 rfl (by kernel_rfl) rfl ?_
  exact ⟨er,s5,rfl,(fun h=>by rw [HCX.out];have h2:=HP5.out h;exact ⟨(fun h=>absurd h (by decide)),(fun h=>absurd h (by decide)),(fun h=>absurd h (by decide)),(fun h=>absurd h (by decide)),(fun h=>by omega),(fun _=>h2)⟩),set2_below (HBV.out.trans (HB5.out.mono HBV.out.size)) HP1.out⟩
 have q17 : (k == 17)=false:=beq_eq_false_iff_ne.2 hk17
 by_cases hk18 : k=18
 ·subst hk18
  go_wp2_with (go_at_call 99;refine (of_c t 7 s V HR.out hn).mono ?_;rintro e w5 ⟨er,s5,rfl,hp,hb⟩;have HP5:=hI hp;have HB5:=hI hb;clear hp hb e0 e1 e2 e3 e4 e5 ef;obtain ⟨r0,r1,rf⟩:=cells2 (HM2.out w5 HB5.out))
  refine ret_c (d:=_) (cs:=#[.int .i64 er,.string (str s5)]) (t':=125) (fr:=(0,0)) (set2 (HM2.out _ HB5.out)) rfl rfl Tryz.underlying125 rfl (by kernel_rfl) rfl ?_
  exact ⟨er,s5,rfl,(fun h=>by rw [HCX.out];have h2:=HP5.out h;exact ⟨(fun h=>absurd h (by decide)),(fun h=>absurd h (by decide)),(fun h=>absurd h (by decide)),(fun h=>absurd h (by decide)),(fun h=>by omega),(fun _=>h2)⟩),set2_below (HBV.out.trans (HB5.out.mono HBV.out.size)) HP1.out⟩
 have q18 : (k == 18)=false:=beq_eq_false_iff_ne.2 hk18
 by_cases hk13 : k=13
 ·subst hk13
  by_cases hw : wh=7
  ·have q : (wh != 7)=false:=by simp [hw]
   clear hw
   go_wp2_with (go_at_call 100;refine (fine_r _).mono ?_;rintro e w5 ⟨rfl,hb⟩;have HB5:=hI hb;clear hb e0 e1 e2 e3 e4 e5 ef;obtain ⟨r0,r1,rf⟩:=cells2 (HM2.out w5 HB5.out))
   refine ret_c (d:=_) (cs:=#[.int .i64 0,.string ⟨#[]⟩]) (t':=125) (fr:=(0,0)) (set2 (HM2.out _ HB5.out)) rfl rfl Tryz.underlying125 rfl (by kernel_rfl) rfl ?_
   exact ⟨0,[],rfl,(fun _=>by rw [HCX.out];exact ⟨(fun h=>absurd h (by decide)),(fun h=>absurd h (by decide)),(fun h=>absurd h (by decide)),(fun h=>absurd h (by decide)),(fun h=>by omega),(fun h=>by omega)⟩),set2_below (HBV.out.trans (HB5.out.mono HBV.out.size)) HP1.out⟩
  ·have q : (wh != 7)=true:=by simp [hw]
   clear hw
   obtain ⟨r0,r1,rf⟩:=cells2 (HM2.out _ (Below.refl _ _))
   go_wp2_with fail
   refine ret_c (d:=_) (cs:=#[.int .i64 18,.string ⟨#[]⟩]) (t':=125) (fr:=(0,0)) (set2 (HM2.out _ (Below.refl _ _))) rfl rfl Tryz.underlying125 rfl (by kernel_rfl) rfl ?_
   exact ⟨18,[],rfl,(fun h=>absurd h (by decide)),set2_below (HBV.out.trans ((Below.refl _ _).mono HBV.out.size)) HP1.out⟩
 have q13 : (k == 13)=false:=beq_eq_false_iff_ne.2 hk13
 by_cases hk12 : k=12
 ·subst hk12
  by_cases hw : wh=8
  ·have q : (wh != 8)=false:=by simp [hw]
   clear hw
   go_wp2_with (go_at_call 100;refine (fine_r _).mono ?_;rintro e w5 ⟨rfl,hb⟩;have HB5:=hI hb;clear hb e0 e1 e2 e3 e4 e5 ef;obtain ⟨r0,r1,rf⟩:=cells2 (HM2.out w5 HB5.out))
   refine ret_c (d:=_) (cs:=#[.int .i64 0,.string ⟨#[]⟩]) (t':=125) (fr:=(0,0)) (set2 (HM2.out _ HB5.out)) rfl rfl Tryz.underlying125 rfl (by kernel_rfl) rfl ?_
   exact ⟨0,[],rfl,(fun _=>by rw [HCX.out];exact ⟨(fun h=>absurd h (by decide)),(fun h=>absurd h (by decide)),(fun h=>absurd h (by decide)),(fun h=>absurd h (by decide)),(fun h=>by omega),(fun h=>by omega)⟩),set2_below (HBV.out.trans (HB5.out.mono HBV.out.size)) HP1.out⟩
  ·have q : (wh != 8)=true:=by simp [hw]
   clear hw
   obtain ⟨r0,r1,rf⟩:=cells2 (HM2.out _ (Below.refl _ _))
   go_wp2_with fail
   refine ret_c (d:=_) (cs:=#[.int .i64 18,.string ⟨#[]⟩]) (t':=125) (fr:=(0,0)) (set2 (HM2.out _ (Below.refl _ _))) rfl rfl Tryz.underlying125 rfl (by kernel_rfl) rfl ?_
   exact ⟨18,[],rfl,(fun h=>absurd h (by decide)),set2_below (HBV.out.trans ((Below.refl _ _).mono HBV.out.size)) HP1.out⟩
 have q12 : (k == 12)=false:=beq_eq_false_iff_ne.2 hk12
 have HKN:=hI (And.intro hk2 (And.intro hk11 (And.intro hk3 (And.intro hk4 (And.intro hk5 (And.intro hk6 (And.intro hk17 hk18)))))))
 clear hk2 hk11 hk3 hk4 hk5 hk6 hk17 hk18 hk13 hk12
 go_wp2_with (go_at_call 100;refine (fine_r _).mono ?_;rintro e w5 ⟨rfl,hb⟩;have HB5:=hI hb;clear hb e0 e1 e2 e3 e4 e5 ef;obtain ⟨r0,r1,rf⟩:=cells2 (HM2.out w5 HB5.out))
 refine ret_c (d:=_) (cs:=#[.int .i64 0,.string ⟨#[]⟩]) (t':=125) (fr:=(0,0)) (set2 (HM2.out _ HB5.out)) rfl rfl Tryz.underlying125 rfl (by kernel_rfl) rfl ?_
 exact ⟨0,[],rfl,(fun _=>by rw [HCX.out];have h:=HKN.out;exact ⟨fun c=>by omega,fun c=>by omega,fun c=>by omega,fun c=>by omega,fun c=>by omega,fun c=>by omega⟩),set2_below (HBV.out.trans (HB5.out.mono HBV.out.size)) HP1.out⟩
end Go.Proofs.YteibcfpepdbflaaGreat.CkC
namespace Go.Proofs.YteibcfpepdbflaaGreat.BindV
open Go Go.RowKit BindP BindD BindO BindW BindN BindG BindX BindB BindS BindK
open Byt (str)
def TxV (l : List S) (w : World) (e : Ending) (w' : World) : Prop:=∃ A c,e=.returned (.slice A l.length c)∧Sq.Own sv 9 w' w.heap.size (.slice A l.length c) l∧Below w.heap.size w w'
end Go.Proofs.YteibcfpepdbflaaGreat.BindV
