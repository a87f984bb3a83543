/- clewref04.IsWord: some truth value; clewref16.words, room, turned: what is wrong, without a panic. Conditions: sizes within the reach. -/
import Derived.Test.YteibcfpepdbflaaGreatCkE
open Go.Lib renaming hid → hI
namespace Go.Proofs.YteibcfpepdbflaaGreat.CkF
open Go Go.RowKit BindP BindD BindO BindW BindG BindX BindB BindT BindU TxA RtS RtX RtY RtD CkP CkA CkB CkC CkE
open Byt (str)
theorem great_o (c : Int) (w : World) : Calls Tryz.prog 132 #[.int .u8 c] w (SomeB w):=by
 obtain ⟨a,ha⟩ : ∃ a,decide (65≤c)=a:=⟨_,rfl⟩
 obtain ⟨b,hb⟩ : ∃ b,decide (c≤90)=b:=⟨_,rfl⟩
 cases a <;> cases b
 all_goals
  go_enter Tryz.func132,Tryz.ntmps132
  go_wp2_with fail
  go_ret
  exact ⟨_,rfl,rfl⟩
theorem row_o (c : Int) (w : World) : Calls Tryz.prog 131 #[.int .u8 c] w (SomeB w):=by
 obtain ⟨a,ha⟩ : ∃ a,(c == 45)=a:=⟨_,rfl⟩
 obtain ⟨b,hb⟩ : ∃ b,(c == 39)=b:=⟨_,rfl⟩
 cases a <;> cases b
 all_goals
  go_enter Tryz.func131,Tryz.ntmps131
  go_wp2_with (first | (go_at_call 96;refine (small_o _ _).mono ?_;rintro e w1 ⟨q1,rfl,rfl⟩;cases q1) | (go_at_call 97;refine (digit_o _ _).mono ?_;rintro e w1 ⟨q1,rfl,rfl⟩;cases q1) | (go_at_call 132;refine (great_o _ _).mono ?_;rintro e w1 ⟨q1,rfl,rfl⟩;cases q1))
  all_goals (go_ret;exact ⟨_,rfl,rfl⟩)
set_option maxRecDepth 100000 in
set_option maxHeartbeats 2000000 in
theorem isWord_o (s : ByteArray) (hs : s.size≤4194304) (w : World) : Calls Tryz.prog 122 #[.string s] w (SomeB w):=by
 by_cases h1 : s.size < 1
 ·have t0 : decide ((s.size : Int) < 1)=true:=decide_eq_true (by omega)
  go_enter Tryz.func122,Tryz.ntmps122
  go_wp2_with fail
  go_ret
  exact ⟨_,rfl,rfl⟩
 have t0 : decide ((s.size : Int) < 1)=false:=decide_eq_false (by omega)
 by_cases h2 : 9 < s.size
 ·have t1 : decide (9 < (s.size : Int))=true:=decide_eq_true (by omega)
  go_enter Tryz.func122,Tryz.ntmps122
  go_wp2_with fail
  go_ret
  exact ⟨_,rfl,rfl⟩
 have t1 : decide (9 < (s.size : Int))=false:=decide_eq_false (by omega)
 have z0 : 0 < s.size:=by omega
 go_enter Tryz.func122,Tryz.ntmps122
 go_wp2_with (first | (go_at_call 96;refine (small_o _ _).mono ?_;rintro e w1 ⟨q1,rfl,rfl⟩;cases q1) | (go_at_call 97;refine (digit_o _ _).mono ?_;rintro e w1 ⟨q1,rfl,rfl⟩;cases q1))
 all_goals first
  | (go_ret;exact ⟨_,rfl,rfl⟩)
  | (go_loop [3] (fun i=>∃ k : Nat,k≤s.size∧i=.int .i64 (k : Int)) (fun i=>s.size - (intOf i).toNat)
     case atStart=>exact ⟨0,Nat.zero_le _,rfl⟩
     case round=>
      obtain ⟨k,hk,rfl⟩:=hrel
      by_cases hlt : k < s.size
      ·go_wp2_with (first | (go_at_call 131;refine (row_o _ _).mono ?_;rintro e w1 ⟨q1,rfl,rfl⟩;cases q1) | (go_at_call 132;refine (great_o _ _).mono ?_;rintro e w1 ⟨q1,rfl,rfl⟩;cases q1))
       all_goals first
        | (go_round
           case rel=>exact ⟨k + 1,by omega,by go_num⟩
           case measure=>simp [intOf];omega)
        | (go_ret;exact ⟨_,rfl,rfl⟩)
      ·go_wp2_with fail
       go_ret
       exact ⟨_,rfl,rfl⟩)
set_option maxRecDepth 100000 in
theorem words_c (l : List S) (A : Option Addr) (c : Nat) (w : World) (hl : Lg svE Rt top w A c l) (hz : (l.map fun x=>x.length + 1).sum≤1048576) :
  Calls Tryz.prog 102 #[.slice A l.length c] w (WrV True w):=by
 have hn : l.length≤1048576:=Nat.le_trans (sum_len (m:=fun x : S=>x.length + 1) (fun _=>by omega) l) hz
 obtain ⟨m,hm⟩ : ∃ m,l.length=m:=⟨_,rfl⟩
 have HM:=hI hm
 have HZ:=hI hz
 rw [hm] at hn ⊢
 obtain ⟨V,hV⟩ : ∃ W,w.alloc (.cells #[.int .i64 0,.string ⟨#[]⟩] 125)=W:=⟨_,rfl⟩
 obtain ⟨m1,s1,b1⟩:=made hV
 have HO:=hI (show ∀ U,Below V.heap.size V U→U.heap[w.heap.size]?=some (.cells #[.int .i64 0,.string ⟨#[]⟩] 125 (0,0)) from fun U h=>(h.block _ (Array.getElem?_eq_some_iff.1 m1).1).trans m1)
 have HBV:=hI b1
 have HL:=hI (show Lg svE Rt top V A c l from Lg.keep stays_t (Keep.below b1) hl)
 obtain ⟨p1,hp1⟩ : ∃ p,w.heap.size=p:=⟨_,rfl⟩
 have HP:=hI (Nat.le_of_eq hp1)
 rw [hp1] at HO
 clear m1 s1 b1 hl hm hz
 obtain ⟨r0,r1,rf⟩:=cells2 (HO.out V (Below.refl _ _))
 go_enter Tryz.func102,Tryz.ntmps102
 go_wp2_with fail
 go_loop [3] (fun i=>∃ k : Nat,k≤m∧i=.int .i64 (k : Int)) (fun i=>m - (intOf i).toNat)
 case atStart=>exact ⟨0,Nat.zero_le _,rfl⟩
 case round=>
  obtain ⟨j,hj,rfl⟩:=hrel
  by_cases hlt : j < m
  ·have hjl : j < l.length:=by rw [HM.out];exact hlt
   obtain ⟨b,o,rfl,hb,hc⟩:=Lg.one (fun _=>rfl) HL.out hjl
   have hmem : l[j] ∈ l:=List.getElem_mem hjl
   obtain ⟨y,hy⟩ : ∃ y,l[j]=y:=⟨_,rfl⟩
   rw [hy] at hc hmem
   have HY:=hI (show (str y).size≤4194304 from str_len (by have:=sum_mem (m:=fun x : S=>x.length + 1) l y hmem;have:=HZ.out;omega))
   have c0 : V.cell? ⟨b,o + j,none⟩=some (.string (str y)):=hc _ rfl
   have k0 : (0 : Int)≤(j : Int):=by omega
   have k1 : (j : Int) < (m : Int):=by omega
   clear hc hy hmem hb
   go_wp2_with fail
   refine (isWord_o (str y) HY.out V).mono ?_
   rintro e w1 ⟨q1,rfl,rfl⟩
   cases q1
   ·clear r0 r1 rf
    obtain ⟨r0,r1,rf⟩:=cells2 (HO.out V (Below.refl _ _))
    obtain ⟨X,hX⟩ : ∃ X,(V.setCell ⟨p1,0,none⟩ (.int .i64 9)).setCell ⟨p1,1,none⟩ (.string (str y))=X:=⟨_,rfl⟩
    have HX:=hI (show X.heap[p1]?=some (.cells #[.int .i64 9,.string (str y)] 125 (0,0)) by rw [← hX];exact set2 (HO.out V (Below.refl _ _)))
    have HXB:=hI (show Below w.heap.size w X by rw [← hX];exact set2_below (HBV.out) HP.out)
    go_wp2_with ((with_reducible refine ret_w 2 p1 (.int .i64 9) (.string (str y)) ?_ ?_ ?_ ?_ ?_);exact HX.out;rfl;rfl;rfl;exact ⟨9,y,rfl,(fun h=>absurd h (by decide)),HXB.out⟩)
   ·go_wp2_with fail
    go_round
    case rel=>exact ⟨j + 1,by omega,by go_num⟩
    case measure=>simp [intOf];omega
  ·obtain rfl : m=j:=by omega
   go_wp2_with fail
   refine (fine_r V).mono ?_
   rintro e w1 ⟨rfl,hb⟩
   have HB1:=hI hb
   clear hb r0 r1 rf
   obtain ⟨r0,r1,rf⟩:=cells2 (HO.out w1 HB1.out)
   obtain ⟨X,hX⟩ : ∃ X,(w1.setCell ⟨p1,0,none⟩ (.int .i64 0)).setCell ⟨p1,1,none⟩ (.string ⟨#[]⟩)=X:=⟨_,rfl⟩
   have HX:=hI (show X.heap[p1]?=some (.cells #[.int .i64 0,.string ⟨#[]⟩] 125 (0,0)) by rw [← hX];exact set2 (HO.out w1 HB1.out))
   have HXB:=hI (show Below w.heap.size w X by rw [← hX];exact set2_below (HBV.out.trans (HB1.out.mono HBV.out.size)) HP.out)
   go_wp2_with ((with_reducible refine ret_w 2 p1 (.int .i64 0) (.string ⟨#[]⟩) ?_ ?_ ?_ ?_ ?_);exact HX.out;rfl;rfl;rfl;exact ⟨0,[],rfl,(fun _=>trivial),HXB.out⟩)
structure Cw (w : World) (A1 : Option Addr) (n1 : Nat) (t : List Nm) (oA : Option Addr) (oc : Nat) (ob : List Ob) (nA : Option Addr) (nc : Nat) (fn : List BindO.Fn) : Prop where
 cv : Cv w A1 n1 t nA nc fn
 o : Lg Ob.e Ob.R top w oA oc ob
 os : (ob.map Ob.m).sum≤1048576
 nb : ∀ k s,0≤ofN t k s∧ofN t k s≤2097152
theorem Cw.below {w w' : World} {A1 : Option Addr} {n1 : Nat} {t : List Nm} {oA : Option Addr} {oc : Nat} {ob : List Ob} {nA : Option Addr} {nc : Nat} {fn : List BindO.Fn} (h : Cw w A1 n1 t oA oc ob nA nc fn) (hb : Below w.heap.size w w') : Cw w' A1 n1 t oA oc ob nA nc fn:=⟨h.cv.below hb,Lg.keep Ob.stays (Keep.below hb) h.o,h.os,h.nb⟩
theorem Cw.ol {w : World} {A1 : Option Addr} {n1 : Nat} {t : List Nm} {oA : Option Addr} {oc : Nat} {ob : List Ob} {nA : Option Addr} {nc : Nat} {fn : List BindO.Fn} (h : Cw w A1 n1 t oA oc ob nA nc fn) : ob.length≤1048576:=Nat.le_trans (sum_len (m:=Ob.m) (fun _=>by unfold Ob.m;omega) ob) h.os
set_option maxRecDepth 100000 in
set_option maxHeartbeats 8000000 in
theorem room_c (t : List Nm) (A1 oA nA : Option Addr) (n1 c1 oc nc : Nat) (ob : List Ob) (fn : List BindO.Fn) (a0 a1 a2 a3 a4 a5 a6 a7 a9 a10 a12 : Value) (s : S) (w : World) (hcw : Cw w A1 n1 t oA oc ob nA nc fn) :
  Calls Tryz.prog 58 #[.slice A1 n1 c1,.agg #[a0,a1,a2,a3,a4,a5,a6,a7,.slice oA ob.length oc,a9,a10,.slice nA fn.length nc,a12],.string (str s)] w (WrV True w):=by
 obtain ⟨V1,hV1⟩ : ∃ W,w.alloc (.cells #[a0,a1,a2,a3,a4,a5,a6,a7,.slice oA ob.length oc,a9,a10,.slice nA fn.length nc,a12] 29)=W:=⟨_,rfl⟩
 obtain ⟨V,hV⟩ : ∃ W,V1.alloc (.cells #[.int .i64 0,.string ⟨#[]⟩] 125)=W:=⟨_,rfl⟩
 obtain ⟨m1,s1,b1⟩:=made hV1
 obtain ⟨m2,s2,b2⟩:=made hV
 have m1':=(b2.block w.heap.size (by omega)).trans m1
 have HO0:=hI (show ∀ U,Below V.heap.size V U→U.heap[w.heap.size]?=some (.cells #[a0,a1,a2,a3,a4,a5,a6,a7,.slice oA ob.length oc,a9,a10,.slice nA fn.length nc,a12] 29 (0,0)) from fun U h=>(h.block _ (Array.getElem?_eq_some_iff.1 m1').1).trans m1')
 have HO1:=hI (show ∀ U,Below V.heap.size V U→U.heap[V1.heap.size]?=some (.cells #[.int .i64 0,.string ⟨#[]⟩] 125 (0,0)) from fun U h=>(h.block _ (Array.getElem?_eq_some_iff.1 m2).1).trans m2)
 have HBV:=hI (b1.trans (b2.mono b1.size))
 have HPV:=hI (show w.heap.size≤V1.heap.size by omega)
 have HC:=hI hcw
 have HZO:=hI hcw.ol
 have hzo:=hcw.ol
 have hz:=hcw.nb 4 s
 have HOF:=hI (fun U (hU : Below w.heap.size w U)=>of_r (c:=c1) t 4 s U (HC.out.below hU).cv.t HC.out.cv.n1)
 have HOC:=hI (fun U (hU : Below w.heap.size w U)=>of_c (c:=c1) t 4 s U (HC.out.below hU).cv.t HC.out.cv.n1)
 obtain ⟨nu,hnu⟩ : ∃ nu,ofN t 4 s=nu:=⟨_,rfl⟩
 obtain ⟨ee,hee⟩ : ∃ ee,errN t 4 s=ee:=⟨_,rfl⟩
 rw [hnu,hee] at HOF
 rw [hnu] at hz
 obtain ⟨hz1,hz2⟩:=hz
 obtain ⟨p0,hp0⟩ : ∃ p,w.heap.size=p:=⟨_,rfl⟩
 obtain ⟨p1,hp1⟩ : ∃ p,V1.heap.size=p:=⟨_,rfl⟩
 rw [hp0] at HO0
 rw [hp1] at HO1 HPV
 clear m1' m1 m2 s1 s2 b1 b2 hcw hnu hee
 go_enter Tryz.func58,Tryz.ntmps58
 go_wp2_with fail
 clear hV1 hV hp0 hp1
 refine (HOC.out V HBV.out).mono ?_
 rintro e w3 ⟨er,s3,rfl,hp,hb⟩
 obtain ⟨V3,hV3⟩ : ∃ W,w3.alloc (.cells #[.int .i64 er,.string (str s3)] 125)=W:=⟨_,rfl⟩
 obtain ⟨m3,s3_,b3⟩:=made hV3
 have HB3:=hI (hb.trans (b3.mono hb.size))
 have HM3:=hI (show ∀ U,Below V3.heap.size V3 U→U.heap[w3.heap.size]?=some (.cells #[.int .i64 er,.string (str s3)] 125 (0,0)) from fun U h=>(h.block _ (Array.getElem?_eq_some_iff.1 m3).1).trans m3)
 clear hp hb m3 s3_ b3
 go_wp2_with fail
 clear hV3
 refine (HOF.out V3 (HBV.out.trans (HB3.out.mono HBV.out.size))).mono ?_
 rintro e w4 ⟨rfl,hb⟩
 have HB4:=hI (HB3.out.trans (hb.mono HB3.out.size))
 obtain ⟨g0,g1,gf⟩:=cells2 (HM3.out w4 hb)
 obtain ⟨x0,x1,x2,x3,x4,x5,x6,x7,x8,x9,x10,x11,x12,xf⟩:=cellz13 (HO0.out w4 HB4.out)
 clear hb
 by_cases he : er=0
 ·subst he
  by_cases h2 : nu < 2
  ·have q2 : decide (nu < 2)=true:=decide_eq_true h2
   clear h2
   obtain ⟨r0,r1,rf⟩:=cells2 (HO1.out w4 HB4.out)
   obtain ⟨X,hX⟩ : ∃ X,(w4.setCell ⟨p1,0,none⟩ (.int .i64 12)).setCell ⟨p1,1,none⟩ (.string (str s))=X:=⟨_,rfl⟩
   have HX:=hI (show X.heap[p1]?=some (.cells #[.int .i64 12,.string (str s)] 125 (0,0)) by rw [← hX];exact set2 (HO1.out w4 HB4.out))
   have HXB:=hI (show Below w.heap.size w X by rw [← hX];exact set2_below (HBV.out.trans (HB4.out.mono HBV.out.size)) HPV.out)
   go_wp2_with ((with_reducible refine ret_w 6 p1 (.int .i64 12) (.string (str s)) ?_ ?_ ?_ ?_ ?_);exact HX.out;rfl;rfl;rfl;exact ⟨12,s,rfl,(fun h=>absurd h (by decide)),HXB.out⟩)
  have q2 : decide (nu < 2)=false:=decide_eq_false h2
  obtain ⟨i,hi⟩ : ∃ i : Nat,nu=(i : Int) + 2:=⟨(nu - 2).toNat,by omega⟩
  subst hi
  have hw2 : (i : Int) + 2 - 2=(i : Int):=by omega
  by_cases h3 : i < ob.length
  ·have q3 : decide (ob.length≤i)=false:=decide_eq_false (by omega)
   obtain ⟨b,o,he,hbz,hc⟩:=Lg.at_ Ob.len (HC.out.below (HBV.out.trans (HB4.out.mono HBV.out.size))).o h3
   subst he
   obtain ⟨y,hy⟩ : ∃ y,ob[i]=y:=⟨_,rfl⟩
   rw [hy] at hc
   obtain ⟨rm,hrm⟩ : ∃ r,y.room=r:=⟨_,rfl⟩
   have c4 : w4.cell? ⟨b,o + i * 10 + 4,none⟩=some (.bool rm):=by rw [← hrm];exact hc 4 _ rfl
   have i0 : (0 : Int)≤(i : Int):=by omega
   have i1 : (i : Int) < (ob.length : Int):=by omega
   clear hc hy hrm hbz
   cases rm
   ·skip
    obtain ⟨r0,r1,rf⟩:=cells2 (HO1.out w4 HB4.out)
    obtain ⟨X,hX⟩ : ∃ X,(w4.setCell ⟨p1,0,none⟩ (.int .i64 12)).setCell ⟨p1,1,none⟩ (.string (str s))=X:=⟨_,rfl⟩
    have HX:=hI (show X.heap[p1]?=some (.cells #[.int .i64 12,.string (str s)] 125 (0,0)) by rw [← hX];exact set2 (HO1.out w4 HB4.out))
    have HXB:=hI (show Below w.heap.size w X by rw [← hX];exact set2_below (HBV.out.trans (HB4.out.mono HBV.out.size)) HPV.out)
    go_wp2_with ((with_reducible refine ret_w 6 p1 (.int .i64 12) (.string (str s)) ?_ ?_ ?_ ?_ ?_);exact HX.out;rfl;rfl;rfl;exact ⟨12,s,rfl,(fun h=>absurd h (by decide)),HXB.out⟩)
   ·skip
    obtain ⟨r0,r1,rf⟩:=cells2 (HO1.out w4 HB4.out)
    obtain ⟨X,hX⟩ : ∃ X,(w4.setCell ⟨p1,0,none⟩ (.int .i64 0)).setCell ⟨p1,1,none⟩ (.string (str s3))=X:=⟨_,rfl⟩
    have HX:=hI (show X.heap[p1]?=some (.cells #[.int .i64 0,.string (str s3)] 125 (0,0)) by rw [← hX];exact set2 (HO1.out w4 HB4.out))
    have HXB:=hI (show Below w.heap.size w X by rw [← hX];exact set2_below (HBV.out.trans (HB4.out.mono HBV.out.size)) HPV.out)
    go_wp2_with ((with_reducible refine ret_w 6 p1 (.int .i64 0) (.string (str s3)) ?_ ?_ ?_ ?_ ?_);exact HX.out;rfl;rfl;rfl;exact ⟨0,s3,rfl,(fun _=>trivial),HXB.out⟩)
  ·have q3 : decide (ob.length≤i)=true:=decide_eq_true (by omega)
   obtain ⟨r0,r1,rf⟩:=cells2 (HO1.out w4 HB4.out)
   obtain ⟨X,hX⟩ : ∃ X,(w4.setCell ⟨p1,0,none⟩ (.int .i64 12)).setCell ⟨p1,1,none⟩ (.string (str s))=X:=⟨_,rfl⟩
   have HX:=hI (show X.heap[p1]?=some (.cells #[.int .i64 12,.string (str s)] 125 (0,0)) by rw [← hX];exact set2 (HO1.out w4 HB4.out))
   have HXB:=hI (show Below w.heap.size w X by rw [← hX];exact set2_below (HBV.out.trans (HB4.out.mono HBV.out.size)) HPV.out)
   go_wp2_with ((with_reducible refine ret_w 6 p1 (.int .i64 12) (.string (str s)) ?_ ?_ ?_ ?_ ?_);exact HX.out;rfl;rfl;rfl;exact ⟨12,s,rfl,(fun h=>absurd h (by decide)),HXB.out⟩)
 ·have qe : (er == 0)=false:=beq_eq_false_iff_ne.2 he
  obtain ⟨r0,r1,rf⟩:=cells2 (HO1.out w4 HB4.out)
  obtain ⟨X,hX⟩ : ∃ X,(w4.setCell ⟨p1,0,none⟩ (.int .i64 er)).setCell ⟨p1,1,none⟩ (.string (str s3))=X:=⟨_,rfl⟩
  have HX:=hI (show X.heap[p1]?=some (.cells #[.int .i64 er,.string (str s3)] 125 (0,0)) by rw [← hX];exact set2 (HO1.out w4 HB4.out))
  have HXB:=hI (show Below w.heap.size w X by rw [← hX];exact set2_below (HBV.out.trans (HB4.out.mono HBV.out.size)) HPV.out)
  go_wp2_with ((with_reducible refine ret_w 6 p1 (.int .i64 er) (.string (str s3)) ?_ ?_ ?_ ?_ ?_);exact HX.out;rfl;rfl;rfl;exact ⟨er,s3,rfl,(fun _=>trivial),HXB.out⟩)
set_option maxRecDepth 100000 in
set_option maxHeartbeats 8000000 in
theorem turned_c (t : List Nm) (A1 oA nA : Option Addr) (n1 c1 oc nc : Nat) (ob : List Ob) (fn : List BindO.Fn) (a0 a1 a2 a3 a4 a5 a6 a7 a9 a10 a12 : Value) (i0 : Nat) (w : World) (hcw : Cw w A1 n1 t oA oc ob nA nc fn) (hi0 : i0 < ob.length) :
  Calls Tryz.prog 101 #[.slice A1 n1 c1,.agg #[a0,a1,a2,a3,a4,a5,a6,a7,.slice oA ob.length oc,a9,a10,.slice nA fn.length nc,a12],.int .i64 (i0 : Int)] w (SomeX True w):=by
 obtain ⟨V,hV⟩ : ∃ W,w.alloc (.cells #[a0,a1,a2,a3,a4,a5,a6,a7,.slice oA ob.length oc,a9,a10,.slice nA fn.length nc,a12] 29)=W:=⟨_,rfl⟩
 obtain ⟨m1,s1,b1⟩:=made hV
 have HO0:=hI (show ∀ U,Below V.heap.size V U→U.heap[w.heap.size]?=some (.cells #[a0,a1,a2,a3,a4,a5,a6,a7,.slice oA ob.length oc,a9,a10,.slice nA fn.length nc,a12] 29 (0,0)) from fun U h=>(h.block _ (Array.getElem?_eq_some_iff.1 m1).1).trans m1)
 have HBV:=hI b1
 have HC:=hI hcw
 have hzo:=hcw.ol
 have HOF:=hI (fun s U (hU : Below w.heap.size w U)=>of_r (c:=c1) t 4 s U (HC.out.below hU).cv.t HC.out.cv.n1)
 obtain ⟨p0,hp0⟩ : ∃ p,w.heap.size=p:=⟨_,rfl⟩
 rw [hp0] at HO0
 clear m1 s1 b1 hcw
 go_enter Tryz.func101,Tryz.ntmps101
 go_wp2_with fail
 clear hV hp0
 go_loopw [7,8] (fun av iv wr=>∃ (k a : Nat),k≤ob.length + 1∧a < ob.length∧av=.int .i64 (a : Int)∧iv=.int .i64 (k : Int)∧Below V.heap.size V wr) (fun _ iv _=>ob.length + 1 - (intOf iv).toNat)
 case atStart=>exact ⟨0,i0,by omega,hi0,rfl,rfl,Below.refl _ _⟩
 case round=>
  obtain ⟨k,a,hk,ha,rfl,rfl,hb⟩:=hrel
  have HB:=hI hb
  clear hb
  obtain ⟨x0,x1,x2,x3,x4,x5,x6,x7,x8,x9,x10,x11,x12,xf⟩:=cellz13 (HO0.out wr HB.out)
  by_cases hlt : k≤ob.length
  ·obtain ⟨b,o,he,hbz,hc⟩:=Lg.at_ Ob.len (HC.out.below (HBV.out.trans (HB.out.mono HBV.out.size))).o ha
   subst he
   obtain ⟨y,hy⟩ : ∃ y,ob[a]=y:=⟨_,rfl⟩
   rw [hy] at hc
   obtain ⟨yi,hyi⟩ : ∃ s,y.inn=s:=⟨_,rfl⟩
   have c2 : wr.cell? ⟨b,o + a * 10 + 2,none⟩=some (.string (str yi)):=by rw [← hyi];exact hc 2 _ rfl
   have HC2:=hI (show ∀ U,Below wr.heap.size wr U→U.cell? ⟨b,o + a * 10 + 2,none⟩=some (.string (str yi)) from fun U hU=>(hU.cell (p:=⟨b,_,none⟩) hbz).trans c2)
   have j0 : (0 : Int)≤(a : Int):=by omega
   have j1 : (a : Int) < (ob.length : Int):=by omega
   have q0 : decide (k≤ob.length)=true:=decide_eq_true hlt
   clear hc hy hyi hbz
   have hz:=HC.out.nb 4 yi
   have HOG:=hI (HOF.out yi wr (HBV.out.trans (HB.out.mono HBV.out.size)))
   obtain ⟨nu,hnu⟩ : ∃ nu,ofN t 4 yi=nu:=⟨_,rfl⟩
   obtain ⟨ee,hee⟩ : ∃ ee,errN t 4 yi=ee:=⟨_,rfl⟩
   rw [hnu,hee] at HOG
   rw [hnu] at hz
   obtain ⟨hz1,hz2⟩:=hz
   clear hnu hee
   go_wp2_with fail
   refine HOG.out.mono ?_
   rintro e w3 ⟨rfl,hb⟩
   have HB3:=hI (HB.out.trans (hb.mono HB.out.size))
   have d2:=HC2.out w3 hb
   clear hb x0 x1 x2 x3 x4 x5 x6 x7 x8 x9 x10 x11 x12 xf c2
   obtain ⟨x0,x1,x2,x3,x4,x5,x6,x7,x8,x9,x10,x11,x12,xf⟩:=cellz13 (HO0.out w3 HB3.out)
   have HBT:=hI (HBV.out.trans (HB3.out.mono HBV.out.size))
   by_cases he : yi=[]
   ·have qe:=emp_e (s:=yi) (b:=true) (by simpa using he)
    clear he
    go_wp2_with fail
    go_ret
    exact ⟨_,rfl,(fun _=>trivial),HBT.out⟩
   have qe:=emp_e (s:=yi) (b:=false) (by simpa using he)
   clear he
   by_cases h5 : ee=0
   ·subst h5
    by_cases h2 : nu < 2
    ·have q2 : decide (nu < 2)=true:=decide_eq_true h2
     clear h2
     go_wp2_with fail
     go_ret
     exact ⟨_,rfl,(fun _=>trivial),HBT.out⟩
    have q2 : decide (nu < 2)=false:=decide_eq_false h2
    obtain ⟨i,hi⟩ : ∃ i : Nat,nu=(i : Int) + 2:=⟨(nu - 2).toNat,by omega⟩
    subst hi
    have hw2 : (i : Int) + 2 - 2=(i : Int):=by omega
    by_cases h3 : i < ob.length
    ·have q3 : decide (ob.length≤i)=false:=decide_eq_false (by omega)
     by_cases h4 : i=i0
     ·have q4 : ((i : Int) == (i0 : Int))=true:=by rw [h4];simp
      clear h4
      go_wp2_with fail
      go_ret
      exact ⟨_,rfl,(fun _=>trivial),HBT.out⟩
     ·have q4 : ((i : Int) == (i0 : Int))=false:=beq_eq_false_iff_ne.2 (by omega)
      clear h4
      go_wp2_with fail
      go_roundw
      case rel=>exact ⟨k + 1,i,by omega,h3,rfl,by go_num,HB3.out⟩
      case measure=>simp [intOf];omega
    ·have q3 : decide (ob.length≤i)=true:=decide_eq_true (by omega)
     go_wp2_with fail
     go_ret
     exact ⟨_,rfl,(fun _=>trivial),HBT.out⟩
   ·have q5 : (ee != 0)=true:=by simpa using h5
    clear h5
    go_wp2_with fail
    go_ret
    exact ⟨_,rfl,(fun _=>trivial),HBT.out⟩
  ·have q0 : decide (k≤ob.length)=false:=decide_eq_false hlt
   go_wp2_with fail
   go_ret
   exact ⟨_,rfl,(fun _=>trivial),HBV.out.trans (HB.out.mono HBV.out.size)⟩
end Go.Proofs.YteibcfpepdbflaaGreat.CkF
