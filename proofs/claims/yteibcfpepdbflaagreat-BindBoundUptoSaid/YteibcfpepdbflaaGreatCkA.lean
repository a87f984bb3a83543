/- clewref16.fine, of, either, Has, fresh: what is wrong, without a panic; nothing: what that says. Conditions: sizes within the reach. -/
import Derived.Test.YteibcfpepdbflaaGreatBnP
import Derived.Test.YteibcfpepdbflaaGreatRtX
import Derived.Deep.CutBlock
open Go.Lib renaming hid → hI
namespace Go.Proofs.YteibcfpepdbflaaGreat.CkA
open Go Go.RowKit BindP BindD BindO BindW BindG BindX CkP RtS RtX
open Byt (str)
def WrV (p : Prop) (w : World) (e : Ending) (w' : World) : Prop:=∃ (er : Int) (s : S),e=.returned (.agg #[.int .i64 er,.string (str s)])∧(er=0→p)∧Below w.heap.size w w'
theorem set2 {w : World} {g : Nat} {x0 x1 y0 y1 : Value} {t : TypeId} (h : w.heap[g]?=some (.cells #[x0,x1] t (0,0))) : ((w.setCell ⟨g,0,none⟩ y0).setCell ⟨g,1,none⟩ y1).heap[g]?=some (.cells #[y0,y1] t (0,0)):=by
 simp [World.setCell,Array.getElem?_modify,h]
theorem set2_below {w0 w : World} {B g : Nat} {y0 y1 : Value} (h : Below B w0 w) (hg : B≤g) : Below B w0 ((w.setCell ⟨g,0,none⟩ y0).setCell ⟨g,1,none⟩ y1):=
 (h.setCell (p:=⟨g,0,none⟩) hg _).setCell (p:=⟨g,1,none⟩) hg _
theorem cells2 {w : World} {g : Nat} {x0 x1 : Value} {t : TypeId} (h : w.heap[g]?=some (.cells #[x0,x1] t (0,0))) : w.cell? ⟨g,0,none⟩=some x0∧w.cell? ⟨g,1,none⟩=some x1∧∀ o,w.frozen? ⟨g,o,none⟩=false:=by
 refine ⟨by simp [World.cell?,h],by simp [World.cell?,h],fun o=>by simp [World.frozen?,h]⟩
theorem fine_r (w : World) : Calls Tryz.prog 100 #[] w fun e w'=>e=.returned (.agg #[.int .i64 0,.string ⟨#[]⟩])∧Below w.heap.size w w':=by
 go_enter Tryz.func100,Tryz.ntmps100
 obtain ⟨w1,hw1⟩ : ∃ W,w.alloc (.cells #[.int .i64 0,.string ⟨#[]⟩] 125)=W:=⟨_,rfl⟩
 obtain ⟨m1,s1,b1⟩:=made hw1
 have HM1:=hI m1
 have HB1:=hI b1
 obtain ⟨x0,x1,xf⟩:=cells2 m1
 clear m1 s1 b1
 go_wp2_with fail
 refine ret_c (d:=_) (cs:=#[.int .i64 0,.string ⟨#[]⟩]) (t':=125) (fr:=(0,0)) (set2 HM1.out) rfl rfl Tryz.underlying125 rfl (by kernel_rfl) rfl ?_
 exact ⟨rfl,set2_below HB1.out (Nat.le_refl _)⟩
set_option maxRecDepth 100000 in
theorem of_c {A : Option Addr} {n c : Nat} (t : List Nm) (k : Int) (s : S) (w : World) (hr : Sk.Rd nmE w A n t) (hn : n≤17592186043904) :
  Calls Tryz.prog 99 #[.slice A n c,.int .i64 k,.string (str s)] w (WrV (IsN t k s) w):=by
 obtain ⟨w1,hw1⟩ : ∃ W,w.alloc (.cells #[.int .i64 0,.string ⟨#[]⟩] 125)=W:=⟨_,rfl⟩
 obtain ⟨m1,s1,b1⟩:=made hw1
 have HOF:=hI (of_r (c:=c) t k s w1 (hr.below b1) hn)
 have HIS:=hI (err_is (t:=t) (k:=k) (s:=s))
 have HM:=hI (show ∀ U,Below w1.heap.size w1 U→U.heap[w.heap.size]?=some (.cells #[.int .i64 0,.string ⟨#[]⟩] 125 (0,0)) from fun U hU=>(hU.block _ (Array.getElem?_eq_some_iff.1 m1).1).trans m1)
 have HB1:=hI b1
 obtain ⟨er,he⟩ : ∃ er,errN t k s=er:=⟨_,rfl⟩
 obtain ⟨nu,hnu⟩ : ∃ nu,ofN t k s=nu:=⟨_,rfl⟩
 rw [he] at HIS
 rw [he,hnu] at HOF
 clear m1 s1 b1 hr he hnu
 go_enter Tryz.func99,Tryz.ntmps99
 go_wp2_with fail
 refine HOF.out.mono ?_
 rintro e w2 ⟨rfl,hb⟩
 have HB2:=hI hb
 have HM2:=hI (HM.out w2 hb)
 clear hb
 by_cases h0 : er=0
 ·subst h0
  go_wp2_with fail
  refine (fine_r w2).mono ?_
  rintro e w3 ⟨rfl,hb⟩
  have HB3:=hI (HB2.out.trans (hb.mono HB2.out.size))
  have HM3:=hI (HM.out w3 HB3.out)
  obtain ⟨x0,x1,xf⟩:=cells2 HM3.out
  clear hb
  go_wp2_with fail
  refine ret_c (d:=_) (cs:=#[.int .i64 0,.string ⟨#[]⟩]) (t':=125) (fr:=(0,0)) (set2 HM3.out) rfl rfl Tryz.underlying125 rfl (by kernel_rfl) rfl ?_
  exact ⟨0,[],rfl,(fun _=>HIS.out (by trivial)),set2_below (HB1.out.trans (HB3.out.mono HB1.out.size)) (Nat.le_refl _)⟩
 ·have q : (er != 0)=true:=by simpa using h0
  have H0:=hI h0
  obtain ⟨x0,x1,xf⟩:=cells2 HM2.out
  clear h0
  go_wp2_with fail
  refine ret_c (d:=_) (cs:=#[.int .i64 er,.string (str s)]) (t':=125) (fr:=(0,0)) (set2 HM2.out) rfl rfl Tryz.underlying125 rfl (by kernel_rfl) rfl ?_
  exact ⟨er,s,rfl,(fun h=>absurd h H0.out),set2_below (HB1.out.trans (HB2.out.mono HB1.out.size)) (Nat.le_refl _)⟩
set_option maxRecDepth 100000 in
theorem has_c {A : Option Addr} {n c : Nat} (lo : List S) (s : S) (w : World) (hr : Sq.Rd sv w A n lo) (hn : n≤17592186043904) :
  Calls Tryz.prog 106 #[.slice A n c,.string (str s)] w (SomeB w):=by
 have HR:=hI hr
 clear hr
 go_enter Tryz.func106,Tryz.ntmps106
 go_wp2_with fail
 go_loop [5] (fun i=>∃ j : Nat,j≤n∧i=.int .i64 (j : Int)) (fun i=>n - (intOf i).toNat)
 case atStart=>exact ⟨0,Nat.zero_le _,rfl⟩
 case round=>
  obtain ⟨j,hj,rfl⟩:=hrel
  by_cases hlt : j < n
  ·obtain ⟨b,o,rfl,hb,hl,hc⟩:=HR.out.at_ hlt
   obtain ⟨y,hy⟩ : ∃ y,lo[j]=y:=⟨_,rfl⟩
   rw [hy] at hc
   unfold sv at hc
   have k0 : (0 : Int)≤(j : Int):=by omega
   have k1 : (j : Int) < (n : Int):=by omega
   clear hy hl hb
   by_cases hys : y=s
   ·subst hys
    have q:=eq_q (rfl : y=y)
    go_wp2_with fail
    go_ret
    exact ⟨_,rfl,rfl⟩
   ·have q:=ne_q hys
    go_wp2_with fail
    go_round
    case rel=>exact ⟨j + 1,by omega,by go_num⟩
    case measure=>simp [intOf];omega
  ·obtain rfl : n=j:=by omega
   go_wp2_with fail
   go_ret
   exact ⟨_,rfl,rfl⟩
set_option maxRecDepth 100000 in
theorem either_c {A1 A3 : Option Addr} {n1 c1 n3 c3 : Nat} (t : List Nm) (lo : List S) (th : Bool) (s : S) (w : World) (hr : Sk.Rd nmE w A1 n1 t) (hn : n1≤17592186043904) (hl : Sq.Rd sv w A3 n3 lo) (hn3 : n3≤17592186043904) :
  Calls Tryz.prog 123 #[.slice A1 n1 c1,.slice A3 n3 c3,.bool th,.string (str s)] w (WrV (s ∈ lo∨(hasN t s=true∧((getN t s).2.1=3∨(th=true∧(getN t s).2.1=4)))) w):=by
 obtain ⟨w1,hw1⟩ : ∃ W,w.alloc (.cells #[.int .i64 0,.string ⟨#[]⟩] 125)=W:=⟨_,rfl⟩
 obtain ⟨m1,s1,b1⟩:=made hw1
 have HM:=hI (show ∀ U,Below w1.heap.size w1 U→U.heap[w.heap.size]?=some (.cells #[.int .i64 0,.string ⟨#[]⟩] 125 (0,0)) from fun U hU=>(hU.block _ (Array.getElem?_eq_some_iff.1 m1).1).trans m1)
 have HB1:=hI b1
 have HL:=hI (hl.below b1)
 have HF:=hI (find_r (c:=c1) t s w1 (hr.below b1) hn)
 obtain ⟨P,hP⟩ : ∃ P,P=(s ∈ lo∨(hasN t s=true∧((getN t s).2.1=3∨(th=true∧(getN t s).2.1=4)))):=⟨_,rfl⟩
 have HP1:=hI (show s ∈ lo→P from fun h=>by rw [hP];exact .inl h)
 have HP2:=hI (show hasN t s=true→(getN t s).2.1=3∨(th=true∧(getN t s).2.1=4)→P from fun h1 h2=>by rw [hP];exact .inr ⟨h1,h2⟩)
 rw [← hP]
 obtain ⟨q,hq⟩ : ∃ q,hasN t s=q:=⟨_,rfl⟩
 obtain ⟨⟨g0,g1,g2⟩,hg⟩ : ∃ g,getN t s=g:=⟨_,rfl⟩
 rw [hq,hg] at HF HP2
 have HPW:=hI (show w.heap.size < w1.heap.size by omega)
 clear m1 s1 b1 hr hl hP hq hg
 obtain ⟨p,hp⟩ : ∃ p,w.heap.size=p:=⟨_,rfl⟩
 have HPP:=hI hp
 go_enter Tryz.func123,Tryz.ntmps123
 rw [hp] at HM
 go_wp2_with fail
 clear hp
 go_loop [9] (fun i=>∃ j : Nat,j≤n3∧i=.int .i64 (j : Int)) (fun i=>n3 - (intOf i).toNat)
 case atStart=>exact ⟨0,Nat.zero_le _,rfl⟩
 case round=>
  obtain ⟨j,hj,rfl⟩:=hrel
  by_cases hlt : j < n3
  ·obtain ⟨b,o,rfl,hb,hl,hc⟩:=HL.out.at_ hlt
   obtain ⟨y,hy⟩ : ∃ y,lo[j]=y:=⟨_,rfl⟩
   rw [hy] at hc
   unfold sv at hc
   have HLY:=hI (show y ∈ lo by rw [← hy];exact List.getElem_mem hl)
   have k0 : (0 : Int)≤(j : Int):=by omega
   have k1 : (j : Int) < (n3 : Int):=by omega
   clear hy hl hb
   by_cases hys : y=s
   ·subst hys
    have q:=eq_q (rfl : y=y)
    go_wp2_with fail
    refine (fine_r w1).mono ?_
    rintro e w3 ⟨rfl,hb⟩
    have HB3:=hI hb
    have HM3:=hI (HM.out w3 hb)
    obtain ⟨x0,x1,xf⟩:=cells2 HM3.out
    clear hb
    go_wp2_with fail
    refine ret_c (d:=_) (cs:=#[.int .i64 0,.string ⟨#[]⟩]) (t':=125) (fr:=(0,0)) (set2 HM3.out) rfl rfl Tryz.underlying125 rfl (by kernel_rfl) rfl ?_
    exact ⟨0,[],rfl,(fun _=>HP1.out HLY.out),set2_below (HB1.out.trans (HB3.out.mono HB1.out.size)) (Nat.le_of_eq HPP.out)⟩
   ·have q:=ne_q hys
    go_wp2_with fail
    go_round
    case rel=>exact ⟨j + 1,by omega,by go_num⟩
    case measure=>simp [intOf];omega
  ·obtain rfl : n3=j:=by omega
   have k1 : ¬ (n3 : Int) < (n3 : Int):=by omega
   cases q with
   | false=>
    go_wp2_with (go_at_call 54;refine HF.out.mono ?_;rintro e w2 ⟨rfl,hb⟩;have HB2:=hI hb;obtain ⟨x0,x1,xf⟩:=cells2 (HM.out (w2.alloc (.cells #[.string (str g0),.int .i64 g1,.int .i64 g2] 116)) (hb.alloc hb.size _));clear hb)
    refine ret_c (d:=_) (cs:=#[.int .i64 11,.string (str s)]) (t':=125) (fr:=(0,0)) (set2 (HM.out (w2.alloc (.cells #[.string (str g0),.int .i64 g1,.int .i64 g2] 116)) (HB2.out.alloc HB2.out.size _))) rfl rfl Tryz.underlying125 rfl (by kernel_rfl) rfl ?_
    exact ⟨11,s,rfl,(fun h=>absurd h (by decide)),set2_below (HB1.out.trans ((HB2.out.alloc HB2.out.size _).mono HB1.out.size)) (Nat.le_of_eq HPP.out)⟩
   | true=>
    by_cases h3 : g1=3
    ·have q3 : (g1 != 3)=false:=by simp [h3]
     have H3:=hI h3
     clear h3
     go_wp2_with (go_at_call 54;refine HF.out.mono ?_;rintro e w2 ⟨rfl,hb⟩;have HB2:=hI hb;obtain ⟨x0,x1,xf⟩:=cells2 (HM.out (w2.alloc (.cells #[.string (str g0),.int .i64 g1,.int .i64 g2] 116)) (hb.alloc hb.size _));clear hb)
     refine (fine_r _).mono ?_
     rintro e w3 ⟨rfl,hb⟩
     have HB3:=hI ((HB2.out.alloc HB2.out.size _).trans (hb.mono (HB2.out.alloc HB2.out.size _).size))
     have HM3:=hI (HM.out w3 HB3.out)
     obtain ⟨x0,x1,xf⟩:=cells2 HM3.out
     clear hb
     go_wp2_with fail
     refine ret_c (d:=_) (cs:=#[.int .i64 0,.string ⟨#[]⟩]) (t':=125) (fr:=(0,0)) (set2 HM3.out) rfl rfl Tryz.underlying125 rfl (by kernel_rfl) rfl ?_
     exact ⟨0,[],rfl,(fun _=>HP2.out (by trivial) (.inl H3.out)),set2_below (HB1.out.trans (HB3.out.mono HB1.out.size)) (Nat.le_of_eq HPP.out)⟩
    have q3 : (g1 != 3)=true:=by simp [h3]
    clear h3
    cases th with
    | false=>
     go_wp2_with (go_at_call 54;refine HF.out.mono ?_;rintro e w2 ⟨rfl,hb⟩;have HB2:=hI hb;obtain ⟨x0,x1,xf⟩:=cells2 (HM.out (w2.alloc (.cells #[.string (str g0),.int .i64 g1,.int .i64 g2] 116)) (hb.alloc hb.size _));clear hb)
     refine ret_c (d:=_) (cs:=#[.int .i64 12,.string (str s)]) (t':=125) (fr:=(0,0)) (set2 (HM.out (w2.alloc (.cells #[.string (str g0),.int .i64 g1,.int .i64 g2] 116)) (HB2.out.alloc HB2.out.size _))) rfl rfl Tryz.underlying125 rfl (by kernel_rfl) rfl ?_
     exact ⟨12,s,rfl,(fun h=>absurd h (by decide)),set2_below (HB1.out.trans ((HB2.out.alloc HB2.out.size _).mono HB1.out.size)) (Nat.le_of_eq HPP.out)⟩
    | true=>
     by_cases h4 : g1=4
     ·have q4 : (g1 != 4)=false:=by simp [h4]
      have H4:=hI h4
      clear h4
      go_wp2_with (go_at_call 54;refine HF.out.mono ?_;rintro e w2 ⟨rfl,hb⟩;have HB2:=hI hb;obtain ⟨x0,x1,xf⟩:=cells2 (HM.out (w2.alloc (.cells #[.string (str g0),.int .i64 g1,.int .i64 g2] 116)) (hb.alloc hb.size _));clear hb)
      refine (fine_r _).mono ?_
      rintro e w3 ⟨rfl,hb⟩
      have HB3:=hI ((HB2.out.alloc HB2.out.size _).trans (hb.mono (HB2.out.alloc HB2.out.size _).size))
      have HM3:=hI (HM.out w3 HB3.out)
      obtain ⟨x0,x1,xf⟩:=cells2 HM3.out
      clear hb
      go_wp2_with fail
      refine ret_c (d:=_) (cs:=#[.int .i64 0,.string ⟨#[]⟩]) (t':=125) (fr:=(0,0)) (set2 HM3.out) rfl rfl Tryz.underlying125 rfl (by kernel_rfl) rfl ?_
      exact ⟨0,[],rfl,(fun _=>HP2.out (by trivial) (.inr ⟨by trivial,H4.out⟩)),set2_below (HB1.out.trans (HB3.out.mono HB1.out.size)) (Nat.le_of_eq HPP.out)⟩
     ·have q4 : (g1 != 4)=true:=by simp [h4]
      clear h4
      go_wp2_with (go_at_call 54;refine HF.out.mono ?_;rintro e w2 ⟨rfl,hb⟩;have HB2:=hI hb;obtain ⟨x0,x1,xf⟩:=cells2 (HM.out (w2.alloc (.cells #[.string (str g0),.int .i64 g1,.int .i64 g2] 116)) (hb.alloc hb.size _));clear hb)
      refine ret_c (d:=_) (cs:=#[.int .i64 12,.string (str s)]) (t':=125) (fr:=(0,0)) (set2 (HM.out (w2.alloc (.cells #[.string (str g0),.int .i64 g1,.int .i64 g2] 116)) (HB2.out.alloc HB2.out.size _))) rfl rfl Tryz.underlying125 rfl (by kernel_rfl) rfl ?_
      exact ⟨12,s,rfl,(fun h=>absurd h (by decide)),set2_below (HB1.out.trans ((HB2.out.alloc HB2.out.size _).mono HB1.out.size)) (Nat.le_of_eq HPP.out)⟩
set_option maxRecDepth 100000 in
theorem fresh_c {A1 A3 : Option Addr} {n1 c1 n3 c3 : Nat} (t : List Nm) (lo : List S) (s : S) (mad : Int) (w : World) (hr : Sk.Rd nmE w A1 n1 t) (hn : n1≤17592186043904) (hl : Sq.Rd sv w A3 n3 lo) (hn3 : n3≤17592186043904) :
  Calls Tryz.prog 124 #[.slice A1 n1 c1,.slice A3 n3 c3,.string (str s),.int .i64 mad] w (WrV (mad≤16) w):=by
 obtain ⟨w1,hw1⟩ : ∃ W,w.alloc (.cells #[.int .i64 0,.string ⟨#[]⟩] 125)=W:=⟨_,rfl⟩
 obtain ⟨m1,s1,b1⟩:=made hw1
 have HM:=hI (show ∀ U,Below w1.heap.size w1 U→U.heap[w.heap.size]?=some (.cells #[.int .i64 0,.string ⟨#[]⟩] 125 (0,0)) from fun U hU=>(hU.block _ (Array.getElem?_eq_some_iff.1 m1).1).trans m1)
 have HB1:=hI b1
 have HL:=hI (hl.below b1)
 have HF:=hI (find_r (c:=c1) t s w1 (hr.below b1) hn)
 obtain ⟨q,hq⟩ : ∃ q,hasN t s=q:=⟨_,rfl⟩
 obtain ⟨⟨g0,g1,g2⟩,hg⟩ : ∃ g,getN t s=g:=⟨_,rfl⟩
 rw [hq,hg] at HF
 clear m1 s1 b1 hr hl hq hg
 obtain ⟨p,hp⟩ : ∃ p,w.heap.size=p:=⟨_,rfl⟩
 have HPP:=hI hp
 go_enter Tryz.func124,Tryz.ntmps124
 rw [hp] at HM
 cases q with
 | true=>
  go_wp2_with (go_at_call 54;refine HF.out.mono ?_;rintro e w2 ⟨rfl,hb⟩;have HB2:=hI hb;obtain ⟨x0,x1,xf⟩:=cells2 (HM.out (w2.alloc (.cells #[.string (str g0),.int .i64 g1,.int .i64 g2] 116)) (hb.alloc hb.size _));clear hb)
  clear hp
  refine ret_c (d:=_) (cs:=#[.int .i64 10,.string (str s)]) (t':=125) (fr:=(0,0)) (set2 (HM.out (w2.alloc (.cells #[.string (str g0),.int .i64 g1,.int .i64 g2] 116)) (HB2.out.alloc HB2.out.size _))) rfl rfl Tryz.underlying125 rfl (by kernel_rfl) rfl ?_
  exact ⟨10,s,rfl,(fun h=>absurd h (by decide)),set2_below (HB1.out.trans ((HB2.out.alloc HB2.out.size _).mono HB1.out.size)) (Nat.le_of_eq HPP.out)⟩
 | false=>
  obtain ⟨mq,hmq⟩ : ∃ mq,decide (16 < mad)=mq:=⟨_,rfl⟩
  have HMQ:=hI hmq
  go_wp2_with (go_at_call 54;refine HF.out.mono ?_;rintro e w2 ⟨rfl,hb⟩;have HB2:=hI hb;obtain ⟨x0,x1,xf⟩:=cells2 (HM.out (w2.alloc (.cells #[.string (str g0),.int .i64 g1,.int .i64 g2] 116)) (hb.alloc hb.size _));clear hb)
  refine (has_c lo s _ ((HL.out.below HB2.out).alloc _) hn3).mono ?_
  rintro e w3 ⟨b,rfl,rfl⟩
  cases b with
  | true=>
   go_wp2_with fail
   refine ret_c (d:=_) (cs:=#[.int .i64 10,.string (str s)]) (t':=125) (fr:=(0,0)) (set2 (HM.out (w2.alloc (.cells #[.string (str g0),.int .i64 g1,.int .i64 g2] 116)) (HB2.out.alloc HB2.out.size _))) rfl rfl Tryz.underlying125 rfl (by kernel_rfl) rfl ?_
   exact ⟨10,s,rfl,(fun h=>absurd h (by decide)),set2_below (HB1.out.trans ((HB2.out.alloc HB2.out.size _).mono HB1.out.size)) (Nat.le_of_eq HPP.out)⟩
  | false=>
   cases mq with
   | true=>
    go_wp2_with fail
    refine ret_c (d:=_) (cs:=#[.int .i64 7,.string (str s)]) (t':=125) (fr:=(0,0)) (set2 (HM.out (w2.alloc (.cells #[.string (str g0),.int .i64 g1,.int .i64 g2] 116)) (HB2.out.alloc HB2.out.size _))) rfl rfl Tryz.underlying125 rfl (by kernel_rfl) rfl ?_
    exact ⟨7,s,rfl,(fun h=>absurd h (by decide)),set2_below (HB1.out.trans ((HB2.out.alloc HB2.out.size _).mono HB1.out.size)) (Nat.le_of_eq HPP.out)⟩
   | false=>
    have hle : mad≤16:=by have:=of_decide_eq_false HMQ.out;omega
    have HLE:=hI hle
    clear hle
    go_wp2_with fail
    refine (fine_r _).mono ?_
    rintro e w3 ⟨rfl,hb⟩
    have HB3:=hI ((HB2.out.alloc HB2.out.size _).trans (hb.mono (HB2.out.alloc HB2.out.size _).size))
    have HM3:=hI (HM.out w3 HB3.out)
    obtain ⟨x0,x1,xf⟩:=cells2 HM3.out
    clear hb
    go_wp2_with fail
    refine ret_c (d:=_) (cs:=#[.int .i64 0,.string ⟨#[]⟩]) (t':=125) (fr:=(0,0)) (set2 HM3.out) rfl rfl Tryz.underlying125 rfl (by kernel_rfl) rfl ?_
    exact ⟨0,[],rfl,(fun _=>HLE.out),set2_below (HB1.out.trans (HB3.out.mono HB1.out.size)) (Nat.le_of_eq HPP.out)⟩
end Go.Proofs.YteibcfpepdbflaaGreat.CkA
