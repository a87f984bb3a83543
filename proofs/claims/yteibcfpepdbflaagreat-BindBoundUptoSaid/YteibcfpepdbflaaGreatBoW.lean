/- clewref10.among, bare, has, shape, params, there, bound: true where what they ask holds. Conditions: sizes within the reach. -/
import Derived.Test.YteibcfpepdbflaaGreatRtD
import Derived.Test.YteibcfpepdbflaaGreatBkB
import Derived.Deep.DeepCutAuto
import Derived.IntWalk
import Derived.BigQuiet
open Go.Lib renaming hid → hI
open Go.Proofs.YteibcfpepdbflaaGreat.RgD renaming tk → tK, sA → zA, s0 → zB, s1 → zC
namespace Go.Proofs.YteibcfpepdbflaaGreat.BoW
open Go Go.RowKit BindP BindD BindO BindW BindG BindX BindB BindT BindU RtS RtX RtY RtZ RtB RtC RtD BkB BoD
open Byt (str)
def TrueV (w : World) (e : Ending) (w' : World) : Prop:=e=.returned (.bool true)∧Below w.heap.size w w'
theorem among_t (n lo hi : Int) (h1 : lo≤n) (h2 : n≤hi) (w : World) : Calls Tryz.prog 116 #[.int .i64 n,.int .i64 lo,.int .i64 hi] w fun e w'=>e=.returned (.bool true)∧w=w':=by
 have q1 : decide (n≥lo)=true:=decide_eq_true h1
 have q2 : decide (n≤hi)=true:=decide_eq_true h2
 clear h1 h2
 go_enter Tryz.func116,Tryz.ntmps116
 go_wp2_with fail
 go_ret
 exact ⟨rfl,rfl⟩
theorem isn_t (n : Int) (h1 : -32768≤n) (h2 : n≤32767) (w : World) : Calls Tryz.prog 118 #[.int .i64 n] w fun e w'=>e=.returned (.bool true)∧w=w':=by
 have q1 : decide (n≥-32768)=true:=decide_eq_true h1
 have q2 : decide (n≤32767)=true:=decide_eq_true h2
 clear h1 h2
 go_enter Tryz.func118,Tryz.ntmps118
 go_wp2_with fail
 go_ret
 exact ⟨rfl,rfl⟩
set_option maxRecDepth 100000 in
set_option maxHeartbeats 4000000 in
theorem bare_t (k o n : Int) (s : S) (A : Option Addr) (m c : Nat) (a : Int) (op num : Bool) (w : World) (h : BareP m o n s a op num false) :
  Calls Tryz.prog 117 #[.agg #[.int .i64 k,.int .i64 o,.int .i64 n,.string (str s),.slice A m c],.int .i64 a,.bool op,.bool num,.bool false] w (TrueV w):=by
 obtain ⟨w1,hw1⟩ : ∃ W,w.alloc (.cells #[.int .i64 k,.int .i64 o,.int .i64 n,.string (str s),.slice A m c] 68)=W:=⟨_,rfl⟩
 obtain ⟨m1,s1,b1⟩:=made hw1
 have HB1:=hI b1
 obtain ⟨x0,x1,x2,x3,x4,xf⟩:=cells5 m1
 clear m1 s1 b1
 obtain ⟨h1,h2,h3,h4⟩:=h
 obtain rfl:=h4.resolve_left (by simp)
 have q1 : ((m : Int) == a)=true:=by simpa using h1
 have e:=emp_e (s:=([] : S)) (b:=true) (by simp)
 clear h1 h4
 cases op <;> cases num
 ·obtain rfl:=h2.resolve_left (by simp)
  obtain rfl:=h3.resolve_left (by simp)
  clear h2 h3
  go_enter Tryz.func117,Tryz.ntmps117
  go_wp2_with fail
  go_ret
  exact ⟨rfl,HB1.out⟩
 ·obtain rfl:=h2.resolve_left (by simp)
  clear h2 h3
  go_enter Tryz.func117,Tryz.ntmps117
  go_wp2_with fail
  go_ret
  exact ⟨rfl,HB1.out⟩
 ·obtain rfl:=h3.resolve_left (by simp)
  clear h2 h3
  go_enter Tryz.func117,Tryz.ntmps117
  go_wp2_with fail
  go_ret
  exact ⟨rfl,HB1.out⟩
 ·clear h2 h3
  go_enter Tryz.func117,Tryz.ntmps117
  go_wp2_with fail
  go_ret
  exact ⟨rfl,HB1.out⟩
set_option maxRecDepth 100000 in
set_option maxHeartbeats 8000000 in
theorem has_t (k n : Int) (s : S) (Aa Ab Ae : Option Addr) (m nb ne ca cb ce : Nat) (named : Bool) (a : Int) (body other : Bool) (w : World) (h : HasP n s m nb ne a named body other) :
  Calls Tryz.prog 115 #[.agg #[.int .i64 k,.int .i64 n,.string (str s),.slice Aa m ca,.slice Ab nb cb,.slice Ae ne ce],.bool named,.int .i64 a,.bool body,.bool other] w (TrueV w):=by
 obtain ⟨w1,hw1⟩ : ∃ W,w.alloc (.cells #[.int .i64 k,.int .i64 n,.string (str s),.slice Aa m ca,.slice Ab nb cb,.slice Ae ne ce] 65)=W:=⟨_,rfl⟩
 obtain ⟨m1,s1,b1⟩:=made hw1
 have HB1:=hI b1
 obtain ⟨x0,x1,x2,x3,x4,x5,xf⟩:=cells6 m1
 clear m1 s1 b1
 obtain ⟨h1,h2,h3,h4⟩:=h
 have q1 : ((m : Int) == a)=true:=by simpa using h1
 clear h1
 cases body <;> cases other <;> cases named
 ·obtain rfl:=h2.resolve_left (by simp)
  obtain rfl:=h3.resolve_left (by simp)
  obtain ⟨rfl,rfl⟩:=h4.resolve_left (by simp)
  have e:=emp_e (s:=([] : S)) (b:=true) (by simp)
  clear h2 h3 h4
  go_enter Tryz.func115,Tryz.ntmps115
  go_wp2_with fail
  go_ret
  exact ⟨rfl,HB1.out⟩
 ·obtain rfl:=h2.resolve_left (by simp)
  obtain rfl:=h3.resolve_left (by simp)
  clear h2 h3 h4
  go_enter Tryz.func115,Tryz.ntmps115
  go_wp2_with fail
  go_ret
  exact ⟨rfl,HB1.out⟩
 ·obtain rfl:=h2.resolve_left (by simp)
  obtain ⟨rfl,rfl⟩:=h4.resolve_left (by simp)
  have e:=emp_e (s:=([] : S)) (b:=true) (by simp)
  clear h2 h3 h4
  go_enter Tryz.func115,Tryz.ntmps115
  go_wp2_with fail
  go_ret
  exact ⟨rfl,HB1.out⟩
 ·obtain rfl:=h2.resolve_left (by simp)
  clear h2 h3 h4
  go_enter Tryz.func115,Tryz.ntmps115
  go_wp2_with fail
  go_ret
  exact ⟨rfl,HB1.out⟩
 ·obtain rfl:=h3.resolve_left (by simp)
  obtain ⟨rfl,rfl⟩:=h4.resolve_left (by simp)
  have e:=emp_e (s:=([] : S)) (b:=true) (by simp)
  clear h2 h3 h4
  go_enter Tryz.func115,Tryz.ntmps115
  go_wp2_with fail
  go_ret
  exact ⟨rfl,HB1.out⟩
 ·obtain rfl:=h3.resolve_left (by simp)
  clear h2 h3 h4
  go_enter Tryz.func115,Tryz.ntmps115
  go_wp2_with fail
  go_ret
  exact ⟨rfl,HB1.out⟩
 ·obtain ⟨rfl,rfl⟩:=h4.resolve_left (by simp)
  have e:=emp_e (s:=([] : S)) (b:=true) (by simp)
  clear h2 h3 h4
  go_enter Tryz.func115,Tryz.ntmps115
  go_wp2_with fail
  go_ret
  exact ⟨rfl,HB1.out⟩
 ·clear h2 h3 h4
  go_enter Tryz.func115,Tryz.ntmps115
  go_wp2_with fail
  go_ret
  exact ⟨rfl,HB1.out⟩
set_option maxRecDepth 100000 in
set_option maxHeartbeats 16000000 in
theorem shape_t (k n : Int) (s : S) (Aa Ab Ae : Option Addr) (m nb ne ca cb ce : Nat) (nm : Bool) (w : World) (h : ShOk k n s m nb ne nm) :
  Calls Tryz.prog 90 #[.agg #[.int .i64 k,.int .i64 n,.string (str s),.slice Aa m ca,.slice Ab nb cb,.slice Ae ne ce]] w fun e w'=>∃ b : Bool,e=.returned (.tuple #[.bool true,.bool b])∧Below w.heap.size w w':=by
 obtain ⟨w1,hw1⟩ : ∃ W,w.alloc (.cells #[.int .i64 k,.int .i64 n,.string (str s),.slice Aa m ca,.slice Ab nb cb,.slice Ae ne ce] 65)=W:=⟨_,rfl⟩
 have HBX:=hI (show Bz w #[.int .i64 k,.int .i64 n,.string (str s),.slice Aa m ca,.slice Ab nb cb,.slice Ae ne ce] 65 w1 by rw [← hw1];exact Bz.new _ _ _)
 have FB:=hI (fun (u : World) (hu : Bz w #[.int .i64 k,.int .i64 n,.string (str s),.slice Aa m ca,.slice Ab nb cb,.slice Ae ne ce] 65 u) (named : Bool) (a : Int) (body other : Bool) (hp : HasP n s m nb ne a named body other)=>(has_t k n s Aa Ab Ae m nb ne ca cb ce named a body other u hp).mono (R':=fun e w'=>e=.returned (.bool true)∧Bz w #[.int .i64 k,.int .i64 n,.string (str s),.slice Aa m ca,.slice Ab nb cb,.slice Ae ne ce] 65 w') (by rintro e w' ⟨rfl,hb⟩;exact ⟨rfl,hu.on hb⟩))
 have HM:=hI h
 clear HM
 cases h
 case' named h=>rcases h with rfl | rfl | rfl | rfl | rfl | rfl
 case' one h=>rcases h with rfl | rfl | rfl | rfl | rfl | rfl
 case' none h=>rcases h with rfl | rfl | rfl | rfl
 all_goals
  obtain ⟨x0,x1,x2,x3,x4,x5,xf⟩:=cells6 HBX.out.box
  go_enter Tryz.func90,Tryz.ntmps90
  go_wp2_with (first | (go_at_call 115;refine (FB.out _ HBX.out _ _ _ _ (by refine ⟨?_,?_,?_,?_⟩ <;> simp)).mono ?_;rintro e w2 ⟨rfl,hz2⟩;have HZ2:=hI hz2;clear x0 x1 x2 x3 x4 x5 xf;obtain ⟨x0,x1,x2,x3,x4,x5,xf⟩:=cells6 hz2.box;clear hz2) | (go_at_call 116;refine (among_t _ _ _ (by omega) (by omega) _).mono ?_;rintro e w3 ⟨rfl,rfl⟩))
  go_ret2
  exact ⟨_,rfl,HZ2.out.low⟩
structure TbH (Q : Tn) (fA qA : Option Addr) (fc qc nF nP : Nat) (w : World) : Prop where
 f : Lg inE RtI top w fA fc Q.fu
 p : Lg inE RtI top w qA qc Q.pa
 nf : Q.fu.length=nF
 np : Q.pa.length=nP
 lf : nF≤2097152
 lp : nP≤4194304
 lo : Q.tx≤4194304∧Q.pr≤4194304∧Q.gl≤4194304∧Q.da≤4194304
theorem TbH.below {Q : Tn} {fA qA : Option Addr} {fc qc nF nP : Nat} {w w' : World} (h : TbH Q fA qA fc qc nF nP w) (hb : Below w.heap.size w w') : TbH Q fA qA fc qc nF nP w':=⟨Lg.below stays_i hb h.f,Lg.below stays_i hb h.p,h.nf,h.np,h.lf,h.lp,h.lo⟩
theorem cells15 {w : World} {g : Nat} {x0 x1 x2 x3 x4 x5 x6 x7 x8 x9 x10 x11 x12 x13 x14 : Value} {t : TypeId} (h : w.heap[g]?=some (.cells #[x0,x1,x2,x3,x4,x5,x6,x7,x8,x9,x10,x11,x12,x13,x14] t (0,0))) : w.cell? ⟨g,0,none⟩=some x0∧w.cell? ⟨g,1,none⟩=some x1∧w.cell? ⟨g,2,none⟩=some x2∧w.cell? ⟨g,3,none⟩=some x3∧w.cell? ⟨g,4,none⟩=some x4∧w.cell? ⟨g,5,none⟩=some x5∧w.cell? ⟨g,6,none⟩=some x6∧w.cell? ⟨g,7,none⟩=some x7∧w.cell? ⟨g,8,none⟩=some x8∧w.cell? ⟨g,9,none⟩=some x9∧w.cell? ⟨g,10,none⟩=some x10∧w.cell? ⟨g,11,none⟩=some x11∧w.cell? ⟨g,12,none⟩=some x12∧w.cell? ⟨g,13,none⟩=some x13∧w.cell? ⟨g,14,none⟩=some x14∧∀ o,w.frozen? ⟨g,o,none⟩=false:=by
 refine ⟨by simp [World.cell?,h],by simp [World.cell?,h],by simp [World.cell?,h],by simp [World.cell?,h],by simp [World.cell?,h],by simp [World.cell?,h],by simp [World.cell?,h],by simp [World.cell?,h],by simp [World.cell?,h],by simp [World.cell?,h],by simp [World.cell?,h],by simp [World.cell?,h],by simp [World.cell?,h],by simp [World.cell?,h],by simp [World.cell?,h],fun o=>by simp [World.frozen?,h]⟩
set_option maxRecDepth 100000 in
set_option maxHeartbeats 16000000 in
theorem params_t (Q : Tn) (y0 y1 y2 y3 y8 y9 y10 y14 : Value) (tA pA gA fA dA qA : Option Addr) (tc pc gc fc dc qc nF nP : Nat) (f : Int) (m : Nat) (w : World) (hT : TbH Q fA qA fc qc nF nP w) (h : parP Q f m) :
  Calls Tryz.prog 119 #[.agg #[y0,y1,y2,y3,.slice tA Q.tx tc,.int .i64 Q.fl,.slice pA Q.pr pc,.slice gA Q.gl gc,y8,y9,y10,.slice fA nF fc,.slice dA Q.da dc,.slice qA nP qc,y14],.int .i64 f] w fun e w'=>e=.returned (.int .i64 (m : Int))∧Below w.heap.size w w':=by
 obtain ⟨i,k,rfl,h1,h2⟩:=h
 have hi : i < Q.fu.length:=(List.getElem?_eq_some_iff.1 h1).1
 have hk : k < Q.pa.length:=(List.getElem?_eq_some_iff.1 h2).1
 obtain ⟨bf,of_,rfl,hbf,hcf⟩:=RtD.Lg.one (fun _=>rfl) hT.f hi
 obtain ⟨bp,op,rfl,hbp,hcp⟩:=RtD.Lg.one (fun _=>rfl) hT.p hk
 rw [(List.getElem?_eq_some_iff.1 h1).2] at hcf
 rw [(List.getElem?_eq_some_iff.1 h2).2] at hcp
 have hnf:=hT.nf
 have hnp:=hT.np
 have hlf:=hT.lf
 have hlp:=hT.lp
 have i0 : (0 : Int)≤(i : Int):=by omega
 have i1 : (i : Int) < (nF : Int):=by omega
 have k0 : (0 : Int)≤(k : Int):=by omega
 have k1 : (k : Int) < (nP : Int):=by omega
 have zw1 : IntKind.i64.wrap ((nF : Int) - 1)=(nF : Int) - 1:=by rw [IntKind.wrap_i64];omega
 have zw2 : IntKind.i64.wrap ((nP : Int) - 1)=(nP : Int) - 1:=by rw [IntKind.wrap_i64];omega
 have HL:=hI (show (0 : Int)≤(i : Int)∧(i : Int)≤(nF : Int) - 1∧(0 : Int)≤(k : Int)∧(k : Int)≤(nP : Int) - 1 from ⟨by omega,by omega,by omega,by omega⟩)
 obtain ⟨w1,hw1⟩ : ∃ W,w.alloc (.cells #[y0,y1,y2,y3,.slice tA Q.tx tc,.int .i64 Q.fl,.slice pA Q.pr pc,.slice gA Q.gl gc,y8,y9,y10,.slice (some ⟨bf,of_,none⟩) nF fc,.slice dA Q.da dc,.slice (some ⟨bp,op,none⟩) nP qc,y14] 39)=W:=⟨_,rfl⟩
 obtain ⟨m1,s1,b1⟩:=made hw1
 have HC0:=hI (show ∀ U,Below w1.heap.size w1 U→U.cell? ⟨bf,of_ + i,none⟩=some (.int .i64 (k : Int)) from fun U h=>((b1.trans (h.mono b1.size)).cell (p:=⟨bf,of_ + i,none⟩) hbf).trans (hcf _ rfl))
 have HC1:=hI (show ∀ U,Below w1.heap.size w1 U→U.cell? ⟨bp,op + k,none⟩=some (.int .i64 (m : Int)) from fun U h=>((b1.trans (h.mono b1.size)).cell (p:=⟨bp,op + k,none⟩) hbp).trans (hcp _ rfl))
 have HB1:=hI b1
 have HX:=hI (show ∀ U,Below w1.heap.size w1 U→U.heap[w.heap.size]?=some (.cells #[y0,y1,y2,y3,.slice tA Q.tx tc,.int .i64 Q.fl,.slice pA Q.pr pc,.slice gA Q.gl gc,y8,y9,y10,.slice (some ⟨bf,of_,none⟩) nF fc,.slice dA Q.da dc,.slice (some ⟨bp,op,none⟩) nP qc,y14] 39 (0,0)) from fun U h=>(h.block _ (Array.getElem?_eq_some_iff.1 m1).1).trans m1)
 have HA1:=hI (fun u=>among_t (i : Int) 0 ((nF : Int) - 1) HL.out.1 HL.out.2.1 u)
 have HA2:=hI (fun u=>among_t (k : Int) 0 ((nP : Int) - 1) HL.out.2.2.1 HL.out.2.2.2 u)
 obtain ⟨p0,hp0⟩ : ∃ p,w.heap.size=p:=⟨_,rfl⟩
 rw [hp0] at HX
 clear m1 s1 b1 hcf hcp h1 h2 hi hk hT hnf hnp hbf hbp
 go_enter Tryz.func119,Tryz.ntmps119
 go_upto_region 1 with fail
 clear hw1 hp0
 have hS0 : Below w1.heap.size w1 w1.drew:=Below.drew (Below.refl _ _)
 refine RgD.begin_ [] (fun U=>Below w1.heap.size w1 U) (by kernel_rfl) hS0 (fun hHeld=>?_)
 refine tK 0 5 (h:=?_)
 simp only [zA,zB,zC]
 refine tK 1 6 (h:=?_)
 simp only [zA,zB,zC]
 refine tK 2 7 (v:=.slice (some ⟨bf,of_,none⟩) nF fc) (hy:=by intro w0 hSw;obtain ⟨t0,t1,t2,t3,t4,t5,t6,t7,t8,t9,t10,t11,t12,t13,t14,tf⟩:=cells15 (HX.out _ hSw);first | (go_simp;done) | (go_simp;with_reducible rfl) | (go_simp;intro hc;exfalso;omega)) (h:=?_)
 simp only [zA,zB,zC]
 refine tK 3 8 (h:=?_)
 simp only [zA,zB,zC]
 refine tK 4 9 (h:=?_)
 simp only [zA,zB,zC]
 refine RgD.one (i:=5) (by kernel_rfl) ?_
 refine RgD.call (i:=5) (t:=10) rfl rfl (by rfl) (by go_simp;exact ⟨rfl,rfl⟩) ?_
 refine (HA1.out w1.drew).mono ?_
 rintro r_ u3 ⟨rfl,rfl⟩
 refine ⟨_,rfl,hS0,?_⟩
 simp only [zA,zB,zC]
 refine tK 6 11 (h:=?_)
 simp only [zA,zB,zC]
 refine tK 7 12 (h:=?_)
 simp only [zA,zB,zC]
 refine tK 8 13 (h:=?_)
 simp only [zA,zB,zC]
 refine tK 9 14 (v:=.slice (some ⟨bf,of_,none⟩) nF fc) (hy:=by intro w0 hSw;obtain ⟨t0,t1,t2,t3,t4,t5,t6,t7,t8,t9,t10,t11,t12,t13,t14,tf⟩:=cells15 (HX.out _ hSw);first | (go_simp;done) | (go_simp;with_reducible rfl) | (go_simp;intro hc;exfalso;omega)) (h:=?_)
 simp only [zA,zB,zC]
 refine tK 10 15 (h:=?_)
 simp only [zA,zB,zC]
 refine tK 11 16 (h:=?_)
 simp only [zA,zB,zC]
 refine tK 12 17 (v:=.int .i64 (k : Int)) (hy:=by intro w0 hSw;have d0:=HC0.out _ hSw;first | (go_simp;done) | (go_simp;with_reducible rfl) | (go_simp;intro hc;exfalso;omega)) (h:=?_)
 simp only [zA,zB,zC]
 refine tK 13 18 (h:=?_)
 simp only [zA,zB,zC]
 refine tK 14 19 (v:=.slice (some ⟨bp,op,none⟩) nP qc) (hy:=by intro w0 hSw;obtain ⟨t0,t1,t2,t3,t4,t5,t6,t7,t8,t9,t10,t11,t12,t13,t14,tf⟩:=cells15 (HX.out _ hSw);first | (go_simp;done) | (go_simp;with_reducible rfl) | (go_simp;intro hc;exfalso;omega)) (h:=?_)
 simp only [zA,zB,zC]
 refine tK 15 20 (h:=?_)
 simp only [zA,zB,zC]
 refine tK 16 21 (h:=?_)
 simp only [zA,zB,zC]
 refine RgD.one (i:=17) (by kernel_rfl) ?_
 refine RgD.call (i:=17) (t:=22) rfl rfl (by rfl) (by go_simp;exact ⟨rfl,rfl⟩) ?_
 refine (HA2.out w1.drew).mono ?_
 rintro r_ u3 ⟨rfl,rfl⟩
 refine ⟨_,rfl,hS0,?_⟩
 simp only [zA,zB,zC]
 refine tK 18 23 (h:=?_)
 simp only [zA,zB,zC]
 refine tK 19 24 (h:=?_)
 simp only [zA,zB,zC]
 refine RgD.done (by kernel_rfl) ?_ _
 obtain ⟨w5,hw5⟩ : ∃ W,w1.drew=W:=⟨_,rfl⟩
 have HS5:=hI (hw5 ▸ hS0)
 rw [hw5]
 clear hw5 hS0
 have d0:=HC0.out _ HS5.out
 have d1:=HC1.out _ HS5.out
 obtain ⟨t0,t1,t2,t3,t4,t5,t6,t7,t8,t9,t10,t11,t12,t13,t14,tf⟩:=cells15 (HX.out _ HS5.out)
 go_wp2_with fail
 go_quiet (fail)
 go_wp2_with fail
 go_ret
 exact ⟨rfl,HB1.out.trans ((Sq.belowN HS5.out _).mono HB1.out.size)⟩
structure B2 (w : World) (p0 p1 : Nat) (cs1 : Array Value) (T1 : TypeId) (cs2 : Array Value) (T2 : TypeId) (wr : World) : Prop where
 b1 : wr.heap[p0]?=some (.cells cs1 T1 (0,0))
 b2 : wr.heap[p1]?=some (.cells cs2 T2 (0,0))
 low : Below w.heap.size w wr
theorem B2.on {w : World} {p0 p1 : Nat} {cs1 cs2 : Array Value} {T1 T2 : TypeId} {wr w2 : World} (h : B2 w p0 p1 cs1 T1 cs2 T2 wr) (hb : Below wr.heap.size wr w2) : B2 w p0 p1 cs1 T1 cs2 T2 w2:=
 ⟨(hb.block _ (Array.getElem?_eq_some_iff.1 h.b1).1).trans h.b1,(hb.block _ (Array.getElem?_eq_some_iff.1 h.b2).1).trans h.b2,h.low.trans (hb.mono h.low.size)⟩
set_option maxRecDepth 100000 in
set_option maxHeartbeats 32000000 in
theorem there_t (Q : Tn) (L : Nat) (y0 y1 y2 y3 y8 y9 y10 y14 : Value) (tA pA gA fA dA qA : Option Addr) (tc pc gc fc dc qc nF nP : Nat) (k n : Int) (Aa Ab Ae : Option Addr) (m nb ne ca cb ce : Nat) (w : World) (hL : L≤1000) (hlo : Q.tx≤4194304∧Q.pr≤4194304∧Q.gl≤4194304∧Q.da≤4194304) (h : ThB Q L k n) :
  Calls Tryz.prog 91 #[.agg #[y0,y1,y2,y3,.slice tA Q.tx tc,.int .i64 Q.fl,.slice pA Q.pr pc,.slice gA Q.gl gc,y8,y9,y10,.slice fA nF fc,.slice dA Q.da dc,.slice qA nP qc,y14],.agg #[.int .i64 k,.int .i64 n,.string (str []),.slice Aa m ca,.slice Ab nb cb,.slice Ae ne ce],.int .i64 (L : Int)] w (TrueV w):=by
 obtain ⟨V1,hV1⟩ : ∃ W,w.alloc (.cells #[y0,y1,y2,y3,.slice tA Q.tx tc,.int .i64 Q.fl,.slice pA Q.pr pc,.slice gA Q.gl gc,y8,y9,y10,.slice fA nF fc,.slice dA Q.da dc,.slice qA nP qc,y14] 39)=W:=⟨_,rfl⟩
 obtain ⟨m1,s1,b1⟩:=made hV1
 obtain ⟨V2,hV2⟩ : ∃ W,V1.alloc (.cells #[.int .i64 k,.int .i64 n,.string (str []),.slice Aa m ca,.slice Ab nb cb,.slice Ae ne ce] 65)=W:=⟨_,rfl⟩
 obtain ⟨m2,s2,b2⟩:=made hV2
 have hb12:=(b2.block w.heap.size (by omega)).trans m1
 have hlow:=b1.trans (b2.mono b1.size)
 obtain ⟨p0,hp0⟩ : ∃ p,w.heap.size=p:=⟨_,rfl⟩
 obtain ⟨p1,hp1⟩ : ∃ p,V1.heap.size=p:=⟨_,rfl⟩
 rw [hp0] at hb12
 rw [hp1] at m2
 have HB2:=hI (show B2 w p0 p1 #[y0,y1,y2,y3,.slice tA Q.tx tc,.int .i64 Q.fl,.slice pA Q.pr pc,.slice gA Q.gl gc,y8,y9,y10,.slice fA nF fc,.slice dA Q.da dc,.slice qA nP qc,y14] 39 #[.int .i64 k,.int .i64 n,.string (str []),.slice Aa m ca,.slice Ab nb cb,.slice Ae ne ce] 65 V2 from ⟨hb12,m2,hlow⟩)
 clear m1 m2 s1 s2 b1 b2 hb12 hlow
 obtain ⟨t0,t1,t2,t3,t4,t5,t6,t7,t8,t9,t10,t11,t12,t13,t14,tf⟩:=cells15 HB2.out.b1
 obtain ⟨x0,x1,x2,x3,x4,x5,xf⟩:=cells6 HB2.out.b2
 have e:=emp_e (s:=([] : S)) (b:=true) (by simp)
 obtain ⟨z1,z2,z3,z4⟩:=hlo
 obtain ⟨r2,r11,r23,r4,r5,r17⟩:=h
 by_cases hk2 : k=2
 ·subst hk2
  have hg:=r2 (by omega)
  have g1 : decide (n≥0)=true:=decide_eq_true hg.1
  have g2 : decide (n < (L : Int))=true:=decide_eq_true hg.2
  clear hg
  clear r2 r11 r23 r4 r5 r17
  go_enter Tryz.func91,Tryz.ntmps91
  go_wp2_with fail
  go_ret
  exact ⟨rfl,HB2.out.low⟩
 have q2 : (k == 2)=false:=beq_eq_false_iff_ne.2 hk2
 by_cases hk3 : k=3
 ·subst hk3
  have hg:=r2 (by omega)
  have g1 : decide (n≥0)=true:=decide_eq_true hg.1
  have g2 : decide (n < (L : Int))=true:=decide_eq_true hg.2
  clear hg
  clear r2 r11 r23 r4 r5 r17
  go_enter Tryz.func91,Tryz.ntmps91
  go_wp2_with fail
  go_ret
  exact ⟨rfl,HB2.out.low⟩
 have q3 : (k == 3)=false:=beq_eq_false_iff_ne.2 hk3
 by_cases hk11 : k=11
 ·subst hk11
  have hg:=r11 (by omega)
  have g1 : decide (n≥0)=true:=decide_eq_true hg.1
  have g2 : decide (n < (L : Int) - 1)=true:=decide_eq_true (by omega)
  have g3 : decide ((L : Int) > 1)=true:=decide_eq_true (by omega)
  clear hg
  clear r2 r11 r23 r4 r5 r17
  go_enter Tryz.func91,Tryz.ntmps91
  go_wp2_with fail
  go_ret
  exact ⟨rfl,HB2.out.low⟩
 have q11 : (k == 11)=false:=beq_eq_false_iff_ne.2 hk11
 by_cases hk23 : k=23
 ·subst hk23
  have hg:=r23 (by omega)
  clear r2 r11 r23 r4 r5 r17
  go_enter Tryz.func91,Tryz.ntmps91
  have HG:=hI hg
  clear hg
  go_wp2_with (go_at_call 116;refine (among_t _ _ _ HG.out.1 (by have:=HG.out.2;omega) _).mono ?_;rintro e2 w3 ⟨rfl,rfl⟩)
  go_ret
  exact ⟨rfl,HB2.out.low⟩
 have q23 : (k == 23)=false:=beq_eq_false_iff_ne.2 hk23
 by_cases hk4 : k=4
 ·subst hk4
  have hg:=r4 (by omega)
  clear r2 r11 r23 r4 r5 r17
  go_enter Tryz.func91,Tryz.ntmps91
  have HG:=hI hg
  clear hg
  go_wp2_with (go_at_call 116;refine (among_t _ _ _ HG.out.1 (by have:=HG.out.2;omega) _).mono ?_;rintro e2 w3 ⟨rfl,rfl⟩)
  go_ret
  exact ⟨rfl,HB2.out.low⟩
 have q4 : (k == 4)=false:=beq_eq_false_iff_ne.2 hk4
 by_cases hk5 : k=5
 ·subst hk5
  have hg:=r5 (by omega)
  have g1 : decide (n≥0)=true:=decide_eq_true hg.1
  have g2 : decide (n < Q.fl)=true:=decide_eq_true hg.2
  clear hg
  clear r2 r11 r23 r4 r5 r17
  go_enter Tryz.func91,Tryz.ntmps91
  go_wp2_with fail
  go_ret
  exact ⟨rfl,HB2.out.low⟩
 have q5 : (k == 5)=false:=beq_eq_false_iff_ne.2 hk5
 by_cases hk6 : k=6
 ·subst hk6
  have hg:=r5 (by omega)
  have g1 : decide (n≥0)=true:=decide_eq_true hg.1
  have g2 : decide (n < Q.fl)=true:=decide_eq_true hg.2
  clear hg
  clear r2 r11 r23 r4 r5 r17
  go_enter Tryz.func91,Tryz.ntmps91
  go_wp2_with fail
  go_ret
  exact ⟨rfl,HB2.out.low⟩
 have q6 : (k == 6)=false:=beq_eq_false_iff_ne.2 hk6
 by_cases hk17 : k=17
 ·subst hk17
  have hg:=r17 (by omega)
  clear r2 r11 r23 r4 r5 r17
  go_enter Tryz.func91,Tryz.ntmps91
  have HG:=hI hg
  clear hg
  go_wp2_with (go_at_call 116;refine (among_t _ _ _ HG.out.1 (by have:=HG.out.2;omega) _).mono ?_;rintro e2 w3 ⟨rfl,rfl⟩)
  go_ret
  exact ⟨rfl,HB2.out.low⟩
 have q17 : (k == 17)=false:=beq_eq_false_iff_ne.2 hk17
 by_cases hk18 : k=18
 ·subst hk18
  have hg:=r17 (by omega)
  clear r2 r11 r23 r4 r5 r17
  go_enter Tryz.func91,Tryz.ntmps91
  have HG:=hI hg
  clear hg
  go_wp2_with (go_at_call 116;refine (among_t _ _ _ HG.out.1 (by have:=HG.out.2;omega) _).mono ?_;rintro e2 w3 ⟨rfl,rfl⟩)
  go_ret
  exact ⟨rfl,HB2.out.low⟩
 have q18 : (k == 18)=false:=beq_eq_false_iff_ne.2 hk18
 clear r2 r11 r23 r4 r5 r17 hk2 hk3 hk11 hk23 hk4 hk5 hk6 hk17 hk18
 go_enter Tryz.func91,Tryz.ntmps91
 go_wp2_with fail
 go_ret
 exact ⟨rfl,HB2.out.low⟩
set_option maxRecDepth 100000 in
set_option maxHeartbeats 64000000 in
theorem bound_t (Q : Tn) (L : Nat) (y0 y1 y2 y3 y8 y9 y10 y14 : Value) (tA pA gA fA dA qA : Option Addr) (tc pc gc fc dc qc nF nP : Nat) (_hL : L≤1000) : ∀ (x : Ex) (sd : Bool) (w : World),TbH Q fA qA fc qc nF nP w→RdX top w x→nE x.p≤1048576→xBd Q L sd x.p →
  Calls Tryz.prog 92 #[.agg #[y0,y1,y2,y3,.slice tA Q.tx tc,.int .i64 Q.fl,.slice pA Q.pr pc,.slice gA Q.gl gc,y8,y9,y10,.slice fA nF fc,.slice dA Q.da dc,.slice qA nP qc,y14],.agg (exE x).toArray,.int .i64 (L : Int),.bool sd] w (TrueV w):=by
 intro x
 induction x using Ex.ind with
 | _ k o n s A c ar ih=>
  intro sd w hT hx hn hbd
  have HX:=hI hx.open_
  have HIH:=hI ih
  have HT:=hI hT
  simp only [Ex.p,nE] at hn
  have har : ar.length≤nEs (exPs ar):=by
   have h1:=sum_len (m:=fun x : Ex=>nE x.p) (fun x=>nE_pos x.p) ar
   rw [← nEs_sum] at h1
   exact h1
  have HN:=hI (show nEs (exPs ar)≤1048576 by omega)
  simp only [Ex.p,xBd] at hbd
  rw [exPs_map,List.length_map,← exPs_map] at hbd
  obtain ⟨rfl,hk,hbs⟩:=hbd
  have HBS:=hI hbs
  obtain ⟨z1,z2,z3,z4⟩:=hT.lo
  obtain ⟨m,hm⟩ : ∃ m,ar.length=m:=⟨_,rfl⟩
  have HM:=hI hm
  have zar : m≤1048576:=by omega
  rw [hm] at hk
  clear hx ih hn har hT hbs
  show Calls Tryz.prog 92 #[.agg #[y0,y1,y2,y3,.slice tA Q.tx tc,.int .i64 Q.fl,.slice pA Q.pr pc,.slice gA Q.gl gc,y8,y9,y10,.slice fA nF fc,.slice dA Q.da dc,.slice qA nP qc,y14],.agg #[.int .i64 k,.int .i64 o,.int .i64 n,.string (str []),.slice A ar.length c],.int .i64 (L : Int),.bool sd] w _
  rw [hm]
  clear hm
  obtain ⟨V1,hV1⟩ : ∃ W,w.alloc (.cells #[y0,y1,y2,y3,.slice tA Q.tx tc,.int .i64 Q.fl,.slice pA Q.pr pc,.slice gA Q.gl gc,y8,y9,y10,.slice fA nF fc,.slice dA Q.da dc,.slice qA nP qc,y14] 39)=W:=⟨_,rfl⟩
  obtain ⟨m1,s1,b1⟩:=made hV1
  obtain ⟨V2,hV2⟩ : ∃ W,V1.alloc (.cells #[.int .i64 k,.int .i64 o,.int .i64 n,.string (str []),.slice A m c] 68)=W:=⟨_,rfl⟩
  obtain ⟨m2,s2,b2⟩:=made hV2
  have hb12:=(b2.block w.heap.size (by omega)).trans m1
  have hlow:=b1.trans (b2.mono b1.size)
  obtain ⟨p0,hp0⟩ : ∃ p,w.heap.size=p:=⟨_,rfl⟩
  obtain ⟨p1,hp1⟩ : ∃ p,V1.heap.size=p:=⟨_,rfl⟩
  rw [hp0] at hb12
  rw [hp1] at m2
  have HB2:=hI (show B2 w p0 p1 #[y0,y1,y2,y3,.slice tA Q.tx tc,.int .i64 Q.fl,.slice pA Q.pr pc,.slice gA Q.gl gc,y8,y9,y10,.slice fA nF fc,.slice dA Q.da dc,.slice qA nP qc,y14] 39 #[.int .i64 k,.int .i64 o,.int .i64 n,.string (str []),.slice A m c] 68 V2 from ⟨hb12,m2,hlow⟩)
  clear m1 m2 s1 s2 b1 b2 hb12 hlow
  go_enter Tryz.func92,Tryz.ntmps92
  obtain ⟨t0,t1,t2,t3,t4,t5,t6,t7,t8,t9,t10,t11,t12,t13,t14,tf⟩:=cells15 HB2.out.b1
  obtain ⟨x0,x1,x2,x3,x4,xf⟩:=cells5 HB2.out.b2
  go_upto_block 0 with fail
  go_cut [9] (fun v wx=>v=.bool true∧B2 w p0 p1 #[y0,y1,y2,y3,.slice tA Q.tx tc,.int .i64 Q.fl,.slice pA Q.pr pc,.slice gA Q.gl gc,y8,y9,y10,.slice fA nF fc,.slice dA Q.da dc,.slice qA nP qc,y14] 39 #[.int .i64 k,.int .i64 o,.int .i64 n,.string (str []),.slice A m c] 68 wx)
  case first=>
   have FB:=hI (fun (u : World) (hu : B2 w p0 p1 #[y0,y1,y2,y3,.slice tA Q.tx tc,.int .i64 Q.fl,.slice pA Q.pr pc,.slice gA Q.gl gc,y8,y9,y10,.slice fA nF fc,.slice dA Q.da dc,.slice qA nP qc,y14] 39 #[.int .i64 k,.int .i64 o,.int .i64 n,.string (str []),.slice A m c] 68 u) (a : Int) (op num : Bool) (hp : BareP m o n [] a op num false)=>(bare_t k o n [] A m c a op num u hp).mono (R':=fun e w'=>e=.returned (.bool true)∧B2 w p0 p1 #[y0,y1,y2,y3,.slice tA Q.tx tc,.int .i64 Q.fl,.slice pA Q.pr pc,.slice gA Q.gl gc,y8,y9,y10,.slice fA nF fc,.slice dA Q.da dc,.slice qA nP qc,y14] 39 #[.int .i64 k,.int .i64 o,.int .i64 n,.string (str []),.slice A m c] 68 w') (by rintro e w' ⟨rfl,hb⟩;exact ⟨rfl,hu.on hb⟩))
   have FP:=hI (fun (u : World) (hu : B2 w p0 p1 #[y0,y1,y2,y3,.slice tA Q.tx tc,.int .i64 Q.fl,.slice pA Q.pr pc,.slice gA Q.gl gc,y8,y9,y10,.slice fA nF fc,.slice dA Q.da dc,.slice qA nP qc,y14] 39 #[.int .i64 k,.int .i64 o,.int .i64 n,.string (str []),.slice A m c] 68 u) (f : Int) (a : Nat) (hp : parP Q f a)=>(params_t Q y0 y1 y2 y3 y8 y9 y10 y14 tA pA gA fA dA qA tc pc gc fc dc qc nF nP f a u (HT.out.below hu.low) hp).mono (R':=fun e w'=>e=.returned (.int .i64 (a : Int))∧B2 w p0 p1 #[y0,y1,y2,y3,.slice tA Q.tx tc,.int .i64 Q.fl,.slice pA Q.pr pc,.slice gA Q.gl gc,y8,y9,y10,.slice fA nF fc,.slice dA Q.da dc,.slice qA nP qc,y14] 39 #[.int .i64 k,.int .i64 o,.int .i64 n,.string (str []),.slice A m c] 68 w') (by rintro e w' ⟨rfl,hb⟩;exact ⟨rfl,hu.on hb⟩))
   clear hV1 hV2 hp0 hp1
   cases hk with
   | num a b | glob a b | text a b | bin a b | prop a b | tree a b | self a b | neg | not | random | title=>
    go_wp2_with (first | (go_at_call 117;refine (FB.out _ HB2.out _ _ _ (by refine ⟨?_,?_,?_,?_⟩ <;> simp)).mono ?_;rintro e w2 ⟨rfl,hz2⟩;have HZ2:=hI hz2;clear t0 t1 t2 t3 t4 t5 t6 t7 t8 t9 t10 t11 t12 t13 t14 tf x0 x1 x2 x3 x4 xf;obtain ⟨t0,t1,t2,t3,t4,t5,t6,t7,t8,t9,t10,t11,t12,t13,t14,tf⟩:=cells15 hz2.b1;obtain ⟨x0,x1,x2,x3,x4,xf⟩:=cells5 hz2.b2;clear hz2) | (go_at_call 116;refine (among_t _ _ _ (by omega) (by omega) _).mono ?_;rintro e w3 ⟨rfl,rfl⟩) | (go_at_call 118;refine (isn_t _ (by omega) (by omega) _).mono ?_;rintro e w3 ⟨rfl,rfl⟩))
    go_meet
    exact ⟨rfl,HZ2.out⟩
   | loc a b=>
    have g1 : decide (n≥0)=true:=decide_eq_true a
    have g2 : decide (n < (L : Int))=true:=decide_eq_true b
    go_wp2_with (first | (go_at_call 117;refine (FB.out _ HB2.out _ _ _ (by refine ⟨?_,?_,?_,?_⟩ <;> simp)).mono ?_;rintro e w2 ⟨rfl,hz2⟩;have HZ2:=hI hz2;clear t0 t1 t2 t3 t4 t5 t6 t7 t8 t9 t10 t11 t12 t13 t14 tf x0 x1 x2 x3 x4 xf;obtain ⟨t0,t1,t2,t3,t4,t5,t6,t7,t8,t9,t10,t11,t12,t13,t14,tf⟩:=cells15 hz2.b1;obtain ⟨x0,x1,x2,x3,x4,xf⟩:=cells5 hz2.b2;clear hz2) | (go_at_call 116;refine (among_t _ _ _ (by omega) (by omega) _).mono ?_;rintro e w3 ⟨rfl,rfl⟩) | (go_at_call 118;refine (isn_t _ (by omega) (by omega) _).mono ?_;rintro e w3 ⟨rfl,rfl⟩))
    go_meet
    exact ⟨rfl,HZ2.out⟩
   | has a b=>
    have g1 : decide (n≥0)=true:=decide_eq_true a
    have g2 : decide (n < Q.fl)=true:=decide_eq_true b
    go_wp2_with (first | (go_at_call 117;refine (FB.out _ HB2.out _ _ _ (by refine ⟨?_,?_,?_,?_⟩ <;> simp)).mono ?_;rintro e w2 ⟨rfl,hz2⟩;have HZ2:=hI hz2;clear t0 t1 t2 t3 t4 t5 t6 t7 t8 t9 t10 t11 t12 t13 t14 tf x0 x1 x2 x3 x4 xf;obtain ⟨t0,t1,t2,t3,t4,t5,t6,t7,t8,t9,t10,t11,t12,t13,t14,tf⟩:=cells15 hz2.b1;obtain ⟨x0,x1,x2,x3,x4,xf⟩:=cells5 hz2.b2;clear hz2) | (go_at_call 116;refine (among_t _ _ _ (by omega) (by omega) _).mono ?_;rintro e w3 ⟨rfl,rfl⟩) | (go_at_call 118;refine (isn_t _ (by omega) (by omega) _).mono ?_;rintro e w3 ⟨rfl,rfl⟩))
    go_meet
    exact ⟨rfl,HZ2.out⟩
   | call a=>
    have HPP:=hI a
    clear a
    clear t0 t1 t2 t3 t4 t5 t6 t7 t8 t9 t10 t11 t12 t13 t14 tf x0 x1 x2 x3 x4 xf
    obtain ⟨x0,x1,x2,x3,x4,xf⟩:=cells5 HB2.out.b2
    go_upto_region 24 with fail
    clear x0 x1 x2 x3 x4 xf
    have hS0 : B2 w p0 p1 #[y0,y1,y2,y3,.slice tA Q.tx tc,.int .i64 Q.fl,.slice pA Q.pr pc,.slice gA Q.gl gc,y8,y9,y10,.slice fA nF fc,.slice dA Q.da dc,.slice qA nP qc,y14] 39 #[.int .i64 18,.int .i64 0,.int .i64 n,.string (str []),.slice A m c] 68 V2.drew:=HB2.out.on (Below.drew (Below.refl _ _))
    refine RgD.begin_ [] (fun U=>B2 w p0 p1 #[y0,y1,y2,y3,.slice tA Q.tx tc,.int .i64 Q.fl,.slice pA Q.pr pc,.slice gA Q.gl gc,y8,y9,y10,.slice fA nF fc,.slice dA Q.da dc,.slice qA nP qc,y14] 39 #[.int .i64 18,.int .i64 0,.int .i64 n,.string (str []),.slice A m c] 68 U) (by kernel_rfl) hS0 (fun hHeld=>?_)
    refine tK 0 120 (v:=.agg #[.int .i64 18,.int .i64 0,.int .i64 n,.string (str []),.slice A m c]) (hy:=by intro w0 hSw;obtain ⟨x0,x1,x2,x3,x4,xf⟩:=cells5 hSw.b2;first | (go_simp;done) | (go_simp;with_reducible rfl) | (go_simp;intro hc;exfalso;omega)) (h:=?_)
    simp only [zA,zB,zC]
    refine tK 1 121 (h:=?_)
    simp only [zA,zB,zC]
    refine tK 2 122 (v:=.slice A m c) (hy:=by intro w0 hSw;obtain ⟨x0,x1,x2,x3,x4,xf⟩:=cells5 hSw.b2;first | (go_simp;done) | (go_simp;with_reducible rfl) | (go_simp;intro hc;exfalso;omega)) (h:=?_)
    simp only [zA,zB,zC]
    refine tK 3 123 (h:=?_)
    simp only [zA,zB,zC]
    refine RgD.one (i:=4) (by kernel_rfl) ?_
    refine RgD.call (i:=4) (t:=124) rfl rfl (by rfl) (by go_simp;exact ⟨rfl,rfl⟩) ?_
    refine (FB.out V2.drew hS0 (m : Int) false true (by refine ⟨?_,?_,?_,?_⟩ <;> simp)).mono ?_
    rintro r_ u1 ⟨rfl,hsu1⟩
    have HSu1:=hI hsu1
    refine ⟨_,rfl,hsu1,?_⟩
    simp only [zA,zB,zC]
    refine tK 5 125 (h:=?_)
    simp only [zA,zB,zC]
    refine tK 6 126 (v:=.agg #[y0,y1,y2,y3,.slice tA Q.tx tc,.int .i64 Q.fl,.slice pA Q.pr pc,.slice gA Q.gl gc,y8,y9,y10,.slice fA nF fc,.slice dA Q.da dc,.slice qA nP qc,y14]) (hy:=by intro w0 hSw;obtain ⟨t0,t1,t2,t3,t4,t5,t6,t7,t8,t9,t10,t11,t12,t13,t14,tf⟩:=cells15 hSw.b1;first | (go_simp;done) | (go_simp;with_reducible rfl) | (go_simp;intro hc;exfalso;omega)) (h:=?_)
    simp only [zA,zB,zC]
    refine tK 7 127 (h:=?_)
    simp only [zA,zB,zC]
    refine tK 8 128 (v:=.int .i64 n) (hy:=by intro w0 hSw;obtain ⟨x0,x1,x2,x3,x4,xf⟩:=cells5 hSw.b2;first | (go_simp;done) | (go_simp;with_reducible rfl) | (go_simp;intro hc;exfalso;omega)) (h:=?_)
    simp only [zA,zB,zC]
    refine tK 10 130 (h:=?_)
    simp only [zA,zB,zC]
    refine tK 11 131 (v:=.slice A m c) (hy:=by intro w0 hSw;obtain ⟨x0,x1,x2,x3,x4,xf⟩:=cells5 hSw.b2;first | (go_simp;done) | (go_simp;with_reducible rfl) | (go_simp;intro hc;exfalso;omega)) (h:=?_)
    simp only [zA,zB,zC]
    refine tK 12 132 (h:=?_)
    simp only [zA,zB,zC]
    refine RgD.one (i:=9) (by kernel_rfl) ?_
    refine RgD.call (i:=9) (t:=129) rfl rfl (by rfl) (by go_simp;exact ⟨rfl,rfl⟩) ?_
    refine (FP.out u1 HSu1.out n m HPP.out).mono ?_
    rintro r_ u2 ⟨rfl,hsu2⟩
    have HSu2:=hI hsu2
    refine ⟨_,rfl,hsu2,?_⟩
    simp only [zA,zB,zC]
    refine tK 13 133 (h:=?_)
    simp only [zA,zB,zC]
    refine tK 14 134 (h:=?_)
    simp only [zA,zB,zC]
    refine tK 15 9 (h:=?_)
    simp only [zA,zB,zC]
    refine RgD.done (by kernel_rfl) ?_ _
    go_wp2_with fail
    go_meet
    exact ⟨rfl,HSu2.out⟩
  case rest=>
   obtain ⟨rfl,hz⟩:=hcut
   have HZ:=hI hz
   clear hz hk hV1 hV2 hp0 hp1 t0 t1 t2 t3 t4 t5 t6 t7 t8 t9 t10 t11 t12 t13 t14 tf x0 x1 x2 x3 x4 xf
   obtain ⟨t0,t1,t2,t3,t4,t5,t6,t7,t8,t9,t10,t11,t12,t13,t14,tf⟩:=cells15 HZ.out.b1
   obtain ⟨x0,x1,x2,x3,x4,xf⟩:=cells5 HZ.out.b2
   go_wp2_with fail
   go_loopw [9,156] (fun v iv wr=>∃ j : Nat,j≤m∧iv=.int .i64 (j : Int)∧v=.bool true∧B2 w p0 p1 #[y0,y1,y2,y3,.slice tA Q.tx tc,.int .i64 Q.fl,.slice pA Q.pr pc,.slice gA Q.gl gc,y8,y9,y10,.slice fA nF fc,.slice dA Q.da dc,.slice qA nP qc,y14] 39 #[.int .i64 k,.int .i64 o,.int .i64 n,.string (str []),.slice A m c] 68 wr) (fun _ iv _=>m - (intOf iv).toNat)
   case atStart=>exact ⟨0,Nat.zero_le _,rfl,rfl,HZ.out⟩
   case round=>
    clear t0 t1 t2 t3 t4 t5 t6 t7 t8 t9 t10 t11 t12 t13 t14 tf x0 x1 x2 x3 x4 xf
    obtain ⟨j,hj,rfl,rfl,hb⟩:=hrel
    have HB:=hI hb
    clear hb
    obtain ⟨t0,t1,t2,t3,t4,t5,t6,t7,t8,t9,t10,t11,t12,t13,t14,tf⟩:=cells15 HB.out.b1
    obtain ⟨x0,x1,x2,x3,x4,xf⟩:=cells5 HB.out.b2
    by_cases hlt : j < m
    ·have hjl : j < ar.length:=by rw [HM.out];exact hlt
     obtain ⟨b2,o2,rfl,-,hc⟩:=Lg.at_ exE_len (show Lx top wr A c ar from Lg.keep stays_x (Keep.below HB.out.low) HX.out) hjl
     obtain ⟨⟨ek,ep,en,es,eA,ec,er⟩,hy⟩ : ∃ y,ar[j]=y:=⟨_,rfl⟩
     have hmem : ar[j] ∈ ar:=List.getElem_mem hjl
     rw [hy] at hc hmem
     have HME:=hI (And.intro hmem (And.intro (HX.out.2 _ hmem) (And.intro (show nE (Ex.mk ek ep en es eA ec er).p≤1048576 by
      have h1:=sum_mem (m:=fun x : Ex=>nE x.p) ar _ hmem
      rw [← nEs_sum] at h1
      have:=HN.out
      omega) (xsBd_mem _ HBS.out (Ex.mk ek ep en es eA ec er).p (by rw [exPs_map];exact List.mem_map.2 ⟨_,hmem,rfl⟩)))))
     have c0 : wr.cell? ⟨b2,o2 + j * 5,none⟩=some (.int .i64 ek):=hc 0 _ rfl
     have c1 : wr.cell? ⟨b2,o2 + j * 5 + 1,none⟩=some (.int .i64 ep):=hc 1 _ rfl
     have c2 : wr.cell? ⟨b2,o2 + j * 5 + 2,none⟩=some (.int .i64 en):=hc 2 _ rfl
     have c3 : wr.cell? ⟨b2,o2 + j * 5 + 3,none⟩=some (.string (str es)):=hc 3 _ rfl
     have c4 : wr.cell? ⟨b2,o2 + j * 5 + 4,none⟩=some (.slice eA er.length ec):=hc 4 _ rfl
     have i0 : (0 : Int)≤(j : Int):=by omega
     have i1 : (j : Int) < (m : Int):=by omega
     obtain ⟨wa,hwa⟩ : ∃ W1,wr.alloc (.cells #[.int .i64 ek,.int .i64 ep,.int .i64 en,.string (str es),.slice eA er.length ec] 68)=W1:=⟨_,rfl⟩
     obtain ⟨m2,s2,b2'⟩:=made hwa
     have HBA:=hI (HB.out.on b2')
     obtain ⟨pb,hpb⟩ : ∃ q,wr.heap.size=q:=⟨_,rfl⟩
     rw [hpb] at m2
     obtain ⟨y0',y1',y2',y3',y4',yf⟩:=cells5 m2
     clear hc hy hmem s2 b2' m2 hjl t0 t1 t2 t3 t4 t5 t6 t7 t8 t9 t10 t11 t12 t13 t14 tf x0 x1 x2 x3 x4 xf
     obtain ⟨t0,t1,t2,t3,t4,t5,t6,t7,t8,t9,t10,t11,t12,t13,t14,tf⟩:=cells15 HBA.out.b1
     go_wp2_with fail
     refine (HIH.out _ HME.out.1 false wa (HT.out.below HBA.out.low) (RdX.keep (Keep.below HBA.out.low) HME.out.2.1) HME.out.2.2.1 HME.out.2.2.2).mono ?_
     rintro e w2 ⟨rfl,hb⟩
     have HB3:=hI (HBA.out.on hb)
     clear hb y0' y1' y2' y3' y4' yf t0 t1 t2 t3 t4 t5 t6 t7 t8 t9 t10 t11 t12 t13 t14 tf
     go_wp2_with fail
     go_roundw
     case rel=>exact ⟨j + 1,by omega,by go_num,rfl,HB3.out⟩
     case measure=>simp [intOf];omega
    ·obtain rfl : j=m:=by omega
     go_wp2_with fail
     go_ret
     exact ⟨rfl,HB.out.low⟩
end Go.Proofs.YteibcfpepdbflaaGreat.BoW
