/- clewref10.Depth, Right: how deep an expression is; some truth value, without a panic; true: what a right expression says. Conditions: sizes within the reach. -/
import Derived.Test.YteibcfpepdbflaaGreatBindN
import Derived.Outline
import Derived.Deep.DeepCutAuto
import Derived.IntWalk
import Derived.Deep.QuietTactic
import Derived.BigQuiet
import Derived.Test.YteibcfpepdbflaaGreatBindX
open Go.Lib renaming hid → hI
namespace Go.Proofs.YteibcfpepdbflaaGreat.RtS
open Go Go.RowKit BindP BindD BindO BindW
open Byt (str)
def SomeB (w : World) (e : Ending) (w' : World) : Prop:=∃ b : Bool,e=.returned (.bool b)∧w=w'
def SomeQ (p : Prop) (w : World) (e : Ending) (w' : World) : Prop:=∃ b : Bool,e=.returned (.bool b)∧(b=true→p)∧w=w'
theorem small_o (c : Int) (w : World) : Calls Tryz.prog 96 #[.int .u8 c] w (SomeB w):=by
 obtain ⟨a,ha⟩ : ∃ a,decide (97≤c)=a:=⟨_,rfl⟩
 obtain ⟨b,hb⟩ : ∃ b,decide (c≤122)=b:=⟨_,rfl⟩
 cases a <;> cases b
 all_goals
  go_enter Tryz.func96,Tryz.ntmps96
  go_wp2_with fail
  go_ret
  exact ⟨_,rfl,rfl⟩
theorem digit_o (c : Int) (w : World) : Calls Tryz.prog 97 #[.int .u8 c] w (SomeB w):=by
 obtain ⟨a,ha⟩ : ∃ a,decide (48≤c)=a:=⟨_,rfl⟩
 obtain ⟨b,hb⟩ : ∃ b,decide (c≤57)=b:=⟨_,rfl⟩
 cases a <;> cases b
 all_goals
  go_enter Tryz.func97,Tryz.ntmps97
  go_wp2_with fail
  go_ret
  exact ⟨_,rfl,rfl⟩
set_option maxRecDepth 100000 in
set_option maxHeartbeats 1000000 in
theorem isText_o (s : ByteArray) (hs : s.size≤4194304) (w : World) : Calls Tryz.prog 45 #[.string s] w (SomeB w):=by
 obtain ⟨a,ha⟩ : ∃ a,decide ((s.size : Int)≤1024)=a:=⟨_,rfl⟩
 go_enter Tryz.func45,Tryz.ntmps45
 go_wp2_with fail
 go_loop [3] (fun i=>∃ k : Nat,k≤s.size∧i=.int .i64 (k : Int)) (fun i=>s.size - (intOf i).toNat)
 case atStart=>exact ⟨0,Nat.zero_le _,rfl⟩
 case round=>
  obtain ⟨k,hk,rfl⟩:=hrel
  by_cases hlt : k < s.size
  ·go_wp2_with fail
   all_goals first
    | (go_round
       case rel=>exact ⟨k + 1,by omega,by go_num⟩
       case measure=>simp [intOf];omega)
    | (go_ret;exact ⟨_,rfl,rfl⟩)
  ·go_wp2_with fail
   go_ret
   exact ⟨_,rfl,rfl⟩
set_option maxRecDepth 100000 in
set_option maxHeartbeats 2000000 in
theorem isName_o (s : ByteArray) (hs : s.size≤4194304) (w : World) : Calls Tryz.prog 55 #[.string s] w (SomeQ (0 < s.size) w):=by
 by_cases h1 : s.size < 1
 ·have t0 : decide ((s.size : Int) < 1)=true:=decide_eq_true (by omega)
  go_enter Tryz.func55,Tryz.ntmps55
  go_wp2_with fail
  go_ret
  exact ⟨_,rfl,(fun h=>by cases h),rfl⟩
 have t0 : decide ((s.size : Int) < 1)=false:=decide_eq_false (by omega)
 by_cases h2 : 24 < s.size
 ·have t1 : decide (24 < (s.size : Int))=true:=decide_eq_true (by omega)
  go_enter Tryz.func55,Tryz.ntmps55
  go_wp2_with fail
  go_ret
  exact ⟨_,rfl,(fun h=>by cases h),rfl⟩
 have t1 : decide (24 < (s.size : Int))=false:=decide_eq_false (by omega)
 have z0 : 0 < s.size:=by omega
 go_enter Tryz.func55,Tryz.ntmps55
 go_wp2_with (go_at_call 96;refine (small_o _ _).mono ?_;rintro e w1 ⟨q1,rfl,rfl⟩;cases q1)
 all_goals first
  | (go_ret;exact ⟨_,rfl,(fun h=>by cases h),rfl⟩)
  | (go_loop [3] (fun i=>∃ k : Nat,k≤s.size∧i=.int .i64 (k : Int)) (fun i=>s.size - (intOf i).toNat)
     case atStart=>exact ⟨0,Nat.zero_le _,rfl⟩
     case round=>
      obtain ⟨k,hk,rfl⟩:=hrel
      by_cases hlt : k < s.size
      ·go_wp2_with (first | (go_at_call 96;refine (small_o _ _).mono ?_;rintro e w1 ⟨q1,rfl,rfl⟩;cases q1) | (go_at_call 97;refine (digit_o _ _).mono ?_;rintro e w1 ⟨q1,rfl,rfl⟩;cases q1))
       all_goals first
        | (go_round
           case rel=>exact ⟨k + 1,by omega,by go_num⟩
           case measure=>simp [intOf];omega)
        | (go_ret;exact ⟨_,rfl,(fun h=>by cases h),rfl⟩)
      ·go_wp2_with fail
       go_ret
       exact ⟨_,rfl,(fun _=>by first | trivial | exact z0),rfl⟩)
theorem slice_str (s : ByteArray) (i j : Nat) (J : Int) (hJ : J=(j : Int)) (h : i≤j) (hj : j≤s.size) (w : World) :
  (Instr.slice 9 (.string s) (some (.int .i64 (i : Int))) (some (.int .i64 J)) none).run Tryz.prog w=.ok (.string (s.extract i j)) w:=by
 subst hJ
 have h1 : (0 : Int)≤(j : Int)∧(j : Int)≤(s.size : Int):=by omega
 have h2 : (0 : Int)≤(i : Int)∧(i : Int)≤(j : Int):=by omega
 simp [Instr.slice,Instr.sliceBounds,Instr.sliceBound,asIntOf,run_underlying Tryz.underlying9]
 rw [if_pos hj]
 simp only [Result.andThen]
 rw [if_pos h]
def HoldV (w : World) (e : Ending) (w' : World) : Prop:=∃ (n : Int) (b : Bool),e=.returned (.tuple #[.int .i64 n,.bool b])∧w=w'
set_option maxRecDepth 100000 in
set_option maxHeartbeats 2000000 in
theorem holds_o (r s : ByteArray) (hr : r.size≤4096) (w : World) : Calls Tryz.prog 98 #[.string r,.string s] w (HoldV w):=by
 go_enter Tryz.func98,Tryz.ntmps98
 go_wp2_with fail
 go_loop [6,7,8] (fun n o i=>∃ (k m : Nat) (x : ByteArray),m≤k∧k≤r.size + 1∧x.size≤k∧n=.int .i64 (m : Int)∧o=.string x∧i=.int .i64 (k : Int)) (fun _ _ i=>r.size - (intOf i).toNat)
 case atStart=>exact ⟨1,0,_,by omega,by omega,by decide,rfl,rfl,rfl⟩
 case round=>
  obtain ⟨k,m,x,hm,hk,hx,rfl,rfl,rfl⟩:=hrel
  by_cases hlt : k < r.size
  ·have hsl:=slice_str r k (k + 1) ((k : Int) + 1) (by omega) (by omega) (by omega) w
   have hes : (r.extract k (k + 1)).size≤1:=by rw [ByteArray.size_extract];omega
   obtain ⟨y,hy⟩ : ∃ y,r.extract k (k + 1)=y:=⟨_,rfl⟩
   rw [hy] at hsl hes
   have HAP:=hI (show (x ++ y).size≤k + 1 by rw [ByteArray.size_append];omega)
   clear hy
   go_wp2_with fail
   all_goals first
    | (go_round
       case rel=>first | exact ⟨k + 1,m,_,by omega,by omega,HAP.out,rfl,rfl,by go_num⟩ | exact ⟨k + 1,m + 1,_,by omega,by omega,Nat.zero_le _,by go_num,rfl,by go_num⟩
       case measure=>simp [intOf];omega)
    | (go_ret2;exact ⟨_,_,rfl,rfl⟩)
  ·go_wp2_with fail
   go_ret2
   exact ⟨_,_,rfl,rfl⟩
set_option maxRecDepth 100000 in
theorem key_o (s : ByteArray) (w : World) : Calls Tryz.prog 56 #[.string s] w (SomeB w):=by
 go_enter Tryz.func56,Tryz.ntmps56
 go_wp2_with (go_at_call 98;refine (holds_o _ s (by decide +kernel) w).mono ?_;rintro e w1 ⟨n1,b1,rfl,rfl⟩;cases b1)
 all_goals go_ret
 all_goals exact ⟨_,rfl,rfl⟩
theorem name10_o (s : ByteArray) (hs : s.size≤4194304) (w : World) : Calls Tryz.prog 129 #[.string s] w (SomeQ (0 < s.size) w):=by
 go_enter Tryz.func129,Tryz.ntmps129
 go_wp2_with (first | (go_at_call 55;refine (isName_o s hs w).mono ?_;rintro e w1 ⟨b1,rfl,h1,rfl⟩;have H1:=hI h1;clear h1;cases b1) | (go_at_call 56;refine (key_o s w).mono ?_;rintro e w1 ⟨b1,rfl,rfl⟩;cases b1))
 all_goals go_ret
 all_goals first | exact ⟨_,rfl,(fun _=>H1.out trivial),rfl⟩ | exact ⟨_,rfl,(fun h=>by cases h),rfl⟩
theorem name14_o (s : ByteArray) (hs : s.size≤4194304) (w : World) : Calls Tryz.prog 46 #[.string s] w (SomeQ (0 < s.size) w):=by
 go_enter Tryz.func46,Tryz.ntmps46
 go_wp2_with (first | (go_at_call 55;refine (isName_o s hs w).mono ?_;rintro e w1 ⟨b1,rfl,h1,rfl⟩;have H1:=hI h1;clear h1;cases b1) | (go_at_call 56;refine (key_o s w).mono ?_;rintro e w1 ⟨b1,rfl,rfl⟩;cases b1))
 all_goals go_ret
 all_goals first | exact ⟨_,rfl,(fun _=>H1.out trivial),rfl⟩ | exact ⟨_,rfl,(fun h=>by cases h),rfl⟩
end Go.Proofs.YteibcfpepdbflaaGreat.RtS
namespace Go.Proofs.YteibcfpepdbflaaGreat.RtX
open Go Go.RowKit BindP BindD BindO BindW BindG BindX RtS
open Byt (str)
mutual
def dE : Nat→Pe→Nat
 | most,.mk _ _ _ _ ar=>(if 1 < most then dEs (most - 1) ar else 0) + 1
def dEs : Nat→List Pe→Nat
 | _,[]=>0
 | most,a :: l=>max (dE most a) (dEs most l)
end
theorem dEs_snoc (m : Nat) : ∀ (l : List Pe) (a : Pe),dEs m (l ++ [a])=max (dEs m l) (dE m a)
 | [],a=>by simp [dEs]
 | x :: l,a=>by simp only [List.cons_append,dEs,dEs_snoc m l a,Nat.max_assoc]
mutual
theorem dE_le : ∀ (m : Nat) (p : Pe),1≤m→dE m p≤m
 | m,.mk _ _ _ _ ar,h=>by
  unfold dE
  split
  ·have:=dEs_le (m - 1) ar (by omega)
   omega
  ·omega
theorem dEs_le : ∀ (m : Nat) (l : List Pe),1≤m→dEs m l≤m
 | m,[],_=>by simp [dEs]
 | m,a :: l,h=>by
  have h1:=dE_le m a h
  have h2:=dEs_le m l h
  unfold dEs
  omega
end
structure Bz (w : World) (cs : Array Value) (T : TypeId) (wr : World) : Prop where
 box : wr.heap[w.heap.size]?=some (.cells cs T (0,0))
 low : Below w.heap.size w wr
theorem Bz.new (w : World) (cs : Array Value) (T : TypeId) : Bz w cs T (w.alloc (.cells cs T)):=⟨heap_alloc_new w _,(Below.refl _ _).alloc (Nat.le_refl _) _⟩
theorem Bz.on {w : World} {cs : Array Value} {T : TypeId} {wr w' : World} (h : Bz w cs T wr) (hb : Below wr.heap.size wr w') : Bz w cs T w':=
 ⟨(hb.block _ (Array.getElem?_eq_some_iff.1 h.box).1).trans h.box,h.low.trans (hb.mono h.low.size)⟩
def DepV (n : Nat) (w : World) (e : Ending) (w' : World) : Prop:=e=.returned (.int .i64 (n : Int))∧Below w.heap.size w w'
set_option maxRecDepth 100000 in
set_option maxHeartbeats 4000000 in
theorem deep_o : ∀ (x : Ex) (most : Nat) (w : World),1≤most→most≤65→RdX top w x→nE x.p≤1048576 →
  Calls Tryz.prog 88 #[.agg (exE x).toArray,.int .i64 (most : Int)] w (DepV (dE most x.p) w):=by
 intro x
 induction x using Ex.ind with
 | _ k o n s A c ar ih=>
  intro most w hm1 hm2 hx hn
  have HX:=hI hx.open_
  have HIH:=hI ih
  simp only [Ex.p,nE] at hn
  have har : ar.length≤nEs (exPs ar):=by
   have h1:=sum_len (m:=fun x : Ex=>nE x.p) (fun x=>nE_pos x.p) ar
   rw [← nEs_sum] at h1
   exact h1
  have zar : ar.length≤1048576:=by omega
  have HN:=hI (show nEs (exPs ar)≤1048576 by omega)
  clear hx ih hn har
  show Calls Tryz.prog 88 #[.agg #[.int .i64 k,.int .i64 o,.int .i64 n,.string (str s),.slice A ar.length c],.int .i64 (most : Int)] w _
  go_enter Tryz.func88,Tryz.ntmps88
  obtain ⟨w1,hw1⟩ : ∃ W,w.alloc (.cells #[.int .i64 k,.int .i64 o,.int .i64 n,.string (str s),.slice A ar.length c] 68)=W:=⟨_,rfl⟩
  obtain ⟨m1,s1,b1⟩:=made hw1
  have HB1:=hI b1
  obtain ⟨x0,x1,x2,x3,x4,xf⟩:=cells5 m1
  clear m1 s1 b1
  by_cases h1 : 1 < most
  ·have HD:=hI (show dE most (Ex.mk k o n s A c ar).p=dEs (most - 1) (exPs ar) + 1 by simp only [Ex.p];unfold dE;rw [if_pos h1])
   obtain ⟨mo,hmo⟩ : ∃ mo,most - 1=mo:=⟨_,rfl⟩
   rw [hmo] at HD
   have HMO:=hI hmo
   have hmo1 : 1≤mo:=by omega
   have hmo2 : mo≤64:=by omega
   have t0 : decide ((1 : Int) < (most : Int))=true:=decide_eq_true (by omega)
   have b0 : (1 : Int)≤(most : Int):=by omega
   have b65 : (most : Int)≤65:=by omega
   have HE1:=hI (show (most : Int) - 1=(mo : Int) by omega)
   clear hmo
   go_wp2_with fail
   go_loopw [5,14] (fun nv iv wr=>∃ j : Nat,j≤ar.length∧iv=.int .i64 (j : Int)∧nv=.int .i64 ((dEs mo (exPs (ar.take j)) : Nat) : Int)∧Below w.heap.size w wr) (fun _ iv _=>ar.length - (intOf iv).toNat)
   case atStart=>exact ⟨0,Nat.zero_le _,rfl,by simp [exPs,dEs],HB1.out⟩
   case round=>
    clear x0 x1 x2 x3 x4 xf
    obtain ⟨j,hj,rfl,rfl,hb⟩:=hrel
    have HB:=hI hb
    clear hb
    by_cases hlt : j < ar.length
    ·obtain ⟨b2,o2,rfl,hb2,hc⟩:=Lg.at_ exE_len (show Lx top wr A c ar from Lg.keep stays_x (Keep.below HB.out) HX.out) hlt
     obtain ⟨⟨ek,ep,en,es,eA,ec,er⟩,hy⟩ : ∃ y,ar[j]=y:=⟨_,rfl⟩
     have HNY:=hI (show dEs mo (exPs (ar.take (j + 1)))=max (dEs mo (exPs (ar.take j))) (dE mo (Ex.mk ek ep en es eA ec er).p) by
      rw [List.take_succ_eq_append_getElem hlt,exPs_map,List.map_append,← exPs_map,hy];exact dEs_snoc _ _ _)
     have hmem : ar[j] ∈ ar:=List.getElem_mem hlt
     rw [hy] at hc hmem
     have HME:=hI (And.intro hmem (And.intro (HX.out.2 _ hmem) (show nE (Ex.mk ek ep en es eA ec er).p≤1048576 by
      have h1:=sum_mem (m:=fun x : Ex=>nE x.p) ar _ hmem
      rw [← nEs_sum] at h1
      have:=HN.out
      omega)))
     have hd1:=dEs_le mo (exPs (ar.take j)) (by omega)
     have hd2:=dE_le mo (Ex.mk ek ep en es eA ec er).p (by omega)
     obtain ⟨q1,hq1⟩ : ∃ q,dEs mo (exPs (ar.take j))=q:=⟨_,rfl⟩
     obtain ⟨q2,hq2⟩ : ∃ q,dE mo (Ex.mk ek ep en es eA ec er).p=q:=⟨_,rfl⟩
     rw [hq1] at hd1 HNY ⊢
     rw [hq2] at hd2 HNY
     have HQ2:=hI hq2
     have c0 : wr.cell? ⟨b2,o2 + j * 5,none⟩=some (.int .i64 ek):=hc 0 _ rfl
     have c1 : wr.cell? ⟨b2,o2 + j * 5 + 1,none⟩=some (.int .i64 ep):=hc 1 _ rfl
     have c2 : wr.cell? ⟨b2,o2 + j * 5 + 2,none⟩=some (.int .i64 en):=hc 2 _ rfl
     have c3 : wr.cell? ⟨b2,o2 + j * 5 + 3,none⟩=some (.string (str es)):=hc 3 _ rfl
     have c4 : wr.cell? ⟨b2,o2 + j * 5 + 4,none⟩=some (.slice eA er.length ec):=hc 4 _ rfl
     have i0 : (0 : Int)≤(j : Int):=by omega
     have i1 : (j : Int) < (ar.length : Int):=by omega
     obtain ⟨wa,hwa⟩ : ∃ W1,wr.alloc (.cells #[.int .i64 ek,.int .i64 ep,.int .i64 en,.string (str es),.slice eA er.length ec] 68)=W1:=⟨_,rfl⟩
     obtain ⟨m2,s2,b2'⟩:=made hwa
     have HBA:=hI (HB.out.trans (b2'.mono HB.out.size))
     obtain ⟨pb,hpb⟩ : ∃ q,wr.heap.size=q:=⟨_,rfl⟩
     rw [hpb] at m2
     obtain ⟨y0,y1,y2,y3,y4,yf⟩:=cells5 m2
     have z0 : (0 : Int)≤(q1 : Int):=by omega
     have z2 : (0 : Int)≤(q2 : Int):=by omega
     clear hc hy hmem hq1 hq2 s2 b2' m2
     go_wp2_with fail
     rw [HE1.out]
     refine (HIH.out _ HME.out.1 mo wa (by omega) (by omega) (RdX.keep (Keep.below HBA.out) HME.out.2.1) HME.out.2.2).mono ?_
     rintro e w2 ⟨rfl,hb⟩
     rw [HQ2.out]
     have HB2:=hI (HBA.out.trans (hb.mono HBA.out.size))
     clear hb y0 y1 y2 y3 y4 yf
     by_cases hg : q1 < q2
     ·have t1 : decide (q1 < q2)=true:=decide_eq_true hg
      have HMX:=hI (HNY.out.trans (show max q1 q2=q2 by omega))
      clear hg
      go_wp2_with fail
      go_roundw
      case rel=>exact ⟨j + 1,by omega,by go_num,by rw [HMX.out],HB2.out⟩
      case measure=>simp [intOf];omega
     ·have t1 : decide (q1 < q2)=false:=decide_eq_false hg
      have HMX:=hI (HNY.out.trans (show max q1 q2=q1 by omega))
      clear hg
      go_wp2_with fail
      go_roundw
      case rel=>exact ⟨j + 1,by omega,by go_num,by rw [HMX.out],HB2.out⟩
      case measure=>simp [intOf];omega
    ·obtain rfl : j=ar.length:=by omega
     have hd1:=dEs_le mo (exPs ar) (by omega)
     have HTK:=hI (show dEs mo (exPs (ar.take ar.length))=dEs mo (exPs ar) by rw [List.take_length])
     obtain ⟨q1,hq1⟩ : ∃ q,dEs mo (exPs (ar.take ar.length))=q:=⟨_,rfl⟩
     rw [hq1] at HTK ⊢
     have z1 : (0 : Int)≤(q1 : Int):=by omega
     have z2 : (q1 : Int)≤65:=by have:=HTK.out;omega
     have HDD:=hI (HD.out.trans (show dEs mo (exPs ar) + 1=q1 + 1 by rw [HTK.out]))
     clear hq1 hd1
     go_wp2_with fail
     go_ret
     exact ⟨by rw [HDD.out];go_num,HB.out⟩
  ·have HD:=hI (show dE most (Ex.mk k o n s A c ar).p=1 by simp only [Ex.p];unfold dE;rw [if_neg h1])
   have m1 : decide ((1 : Int) < (most : Int))=false:=decide_eq_false (by omega)
   clear h1
   go_wp2_with fail
   go_ret
   exact ⟨by rw [HD.out];rfl,HB1.out⟩
theorem among_o (n lo hi : Int) (w : World) : Calls Tryz.prog 116 #[.int .i64 n,.int .i64 lo,.int .i64 hi] w (SomeQ (lo≤n∧n≤hi) w):=by
 by_cases h1 : lo≤n
 ·have q1 : decide (n≥lo)=true:=decide_eq_true h1
  by_cases h2 : n≤hi
  ·have q2 : decide (n≤hi)=true:=decide_eq_true h2
   have HP:=hI (And.intro h1 h2)
   go_enter Tryz.func116,Tryz.ntmps116
   go_wp2_with fail
   go_ret
   exact ⟨_,rfl,fun _=>HP.out,rfl⟩
  ·have q2 : decide (n≤hi)=false:=decide_eq_false h2
   go_enter Tryz.func116,Tryz.ntmps116
   go_wp2_with fail
   go_ret
   exact ⟨_,rfl,(fun h=>by cases h),rfl⟩
 ·have q1 : decide (n≥lo)=false:=decide_eq_false h1
  go_enter Tryz.func116,Tryz.ntmps116
  go_wp2_with fail
  go_ret
  exact ⟨_,rfl,(fun h=>by cases h),rfl⟩
end Go.Proofs.YteibcfpepdbflaaGreat.RtX
