/- clewref10.SizeBlock: how many statements there are. Conditions: sizes within the reach. -/
import Derived.Test.YteibcfpepdbflaaBnP
import Derived.Test.YteibcfpepdbflaaCkM
import Derived.Test.YteibcfpepdbflaaBkM
import Derived.Test.YteibcfpepdbflaaBindL
import Derived.Test.YteibcfpepdbflaaBindR
import Derived.Test.YteibcfpepdbflaaRtX
namespace Go.Proofs.Yteibcfpepdbflaa.BnQ
open Go Go.RowKit BindP BindD BindO BindW BindN BindG BindX BindB BindT BindU TxA RtS RtX RtD MkA MkB MkP CkP CkM BnP
open Byt (str)
theorem up_inj {T : List Nm} (h : Up T) {x y : Nm} (hx : x ∈ T) (hy : y ∈ T) (e : x.1=y.1) : x=y:=by
 obtain ⟨i,hi,rfl⟩:=List.getElem_of_mem hx
 obtain ⟨j,hj,rfl⟩:=List.getElem_of_mem hy
 rcases Nat.lt_trichotomy i j with h1 | h1 | h1
 ·have h2:=h i j _ _ h1 (List.getElem?_eq_getElem hi) (List.getElem?_eq_getElem hj)
  rw [e,lt_eq] at h2
  exact absurd (of_decide_eq_true h2) (List.lt_irrefl _)
 ·subst h1;rfl
 ·have h2:=h j i _ _ h1 (List.getElem?_eq_getElem hj) (List.getElem?_eq_getElem hi)
  rw [e,lt_eq] at h2
  exact absurd (of_decide_eq_true h2) (List.lt_irrefl _)
theorem mk_find {l : List En} {T : List Nm} (h : Mk l T) {y : En} (hy : y ∈ l) : findN T y.nm=some (y.nm,y.ki,y.nu):=by
 have hm : (y.nm,y.ki,y.nu) ∈ T:=(h.mem _).2 (.inr ⟨y,hy,rfl⟩)
 cases hf : findN T y.nm with
 | none=>
  unfold findN at hf
  rw [List.find?_eq_none] at hf
  exact absurd (decide_eq_true (rfl : y.nm=y.nm)) (hf _ hm)
 | some x=>
  have hx : x ∈ T:=List.mem_of_find?_eq_some hf
  have he : x.1=y.nm:=by simpa using List.find?_some hf
  rw [up_inj h.up hx hm he]
theorem mk_of {l : List En} {T : List Nm} (h : Mk l T) {y : En} (hy : y ∈ l) : ofN T y.ki y.nm=y.nu∧errN T y.ki y.nm=0:=by
 have hf:=mk_find h hy
 refine ⟨?_,?_⟩
 ·unfold ofN;rw [hf];simp
 ·unfold errN hasN getN;rw [hf];simp
theorem ens1_mem {α : Type} (f : α→S) (ki pa fr mo : Int) {l : List α} {j : Nat} (h : j < l.length) : (⟨f l[j],ki,pa,(j : Nat),(j : Nat) + fr,mo⟩ : En) ∈ ens1 ki pa fr mo (l.map f):=by
 unfold ens1
 rw [List.mem_mapIdx]
 exact ⟨j,by rw [List.length_map];exact h,by rw [List.getElem_map]⟩
theorem ob_of {so : So} {T : List Nm} (h : Mk (ens so) T) {j : Nat} (hj : j < so.ob.l.length) : ofN T 4 so.ob.l[j].nm=(j : Int) + 2∧errN T 4 so.ob.l[j].nm=0:=
 mk_of h (y:=⟨so.ob.l[j].nm,4,5,(j : Nat),(j : Nat) + 2,126⟩) (by unfold ens;simp only [List.mem_append];exact .inl (.inl (.inl (.inr (ens1_mem Ob.nm 4 5 2 126 hj)))))
theorem fn_of {so : So} {T : List Nm} (h : Mk (ens so) T) {j : Nat} (hj : j < so.fn.l.length) : ofN T 6 so.fn.l[j].nm=(j : Int) + 0∧errN T 6 so.fn.l[j].nm=0:=
 mk_of h (y:=⟨so.fn.l[j].nm,6,8,(j : Nat),(j : Nat) + 0,64⟩) (by unfold ens;simp only [List.mem_append];exact .inl (.inr (ens1_mem BindO.Fn.nm 6 8 0 64 hj)))
theorem num_in {so : So} {T : List Nm} (h : Mk (ens so) T) {s : S} (hs : IsN T 2 s) : 0≤ofN T 2 s∧ofN T 2 s < (so.pr.l.length : Int):=by
 obtain ⟨h1,h2⟩:=hs
 unfold hasN at h1
 cases hf : findN T s with
 | none=>rw [hf] at h1;cases h1
 | some x=>
  unfold getN at h2
  rw [hf] at h2
  simp only [Option.getD_some] at h2
  have hx : x ∈ T:=List.mem_of_find?_eq_some hf
  have e : ofN T 2 s=x.2.2:=by unfold ofN;rw [hf];simp [h2]
  rw [e]
  rcases (h.mem x).1 hx with hb | ⟨y,hy,rfl⟩
  ·simp only [base,List.mem_cons,List.not_mem_nil,or_false] at hb
   rcases hb with rfl | rfl | rfl | rfl <;> simp at h2
  ·simp only at h2 ⊢
   unfold ens ens1 at hy
   simp only [List.mem_append,List.mem_mapIdx,List.length_map] at hy
   rcases hy with (((((⟨i,hi,rfl⟩ | ⟨i,hi,rfl⟩) | ⟨i,hi,rfl⟩) | ⟨i,hi,rfl⟩) | ⟨i,hi,rfl⟩) | ⟨i,hi,rfl⟩) | ⟨i,hi,rfl⟩
   all_goals simp only at h2 ⊢
   all_goals first | omega | (exfalso;omega)
end Go.Proofs.Yteibcfpepdbflaa.BnQ
namespace Go.Proofs.Yteibcfpepdbflaa.BnR
open Go Go.RowKit BindP BindD BindO BindW BindN BindG BindX BindB BindT BindU BkB BkD BkE BkF BkG BkI BkK BkM TxA RtS RtX RtD MkA MkB MkP CkP CkH CkM BnP BnQ
open Byt (str)
section
variable {so : So} {T : List Nm} {tx : List S} {b : Bo} (hb : Bo.p b=bookI T tx so)
include hb
theorem book_lens : b.th.l.length=so.ob.l.length + 2∧b.fu.l.length=so.fn.l.length∧b.da.l.length=so.dm.l.length:=by
 have h1:=congrArg (fun p : Bp=>p.th.length) hb
 have h2:=congrArg (fun p : Bp=>p.fu.length) hb
 have h3:=congrArg (fun p : Bp=>p.da.length) hb
 simp only [Bo.p,bookI,List.length_map,obsI_len,fnsI_len,dmsI_len,th2,List.length_cons,List.length_nil] at h1 h2 h3
 omega
theorem book_tx : b.tx.l=tx:=congrArg Bp.tx hb
theorem book_ob (htx : tx=(adds so).foldl wth []) {j : Nat} (hj : j < so.ob.l.length) : ∃ (x : Th) (i : Nat),b.th.l[j + 2]?=some x∧x.ti=(i : Int)∧b.tx.l[i]?=some so.ob.l[j].ti∧x.ro=so.ob.l[j].room∧x.pa=(if so.ob.l[j].inn=[] then 0 else ofN T 4 so.ob.l[j].inn)∧x.wy.l.length=so.ob.l[j].xt.l.length:=by
 have h1 : b.th.l.map Th.p=(obsI T tx (prl so) (m0,th2 T tx (prl so) so.st) so.ob.l).2:=congrArg Bp.th hb
 obtain ⟨m,hm⟩:=obs_at (t:=T) (tx:=tx) (pl:=prl so) so.ob.l (m0,th2 T tx (prl so) so.st) j hj
 have e : (m0,th2 T tx (prl so) so.st).2.length + j=j + 2:=by simp [th2];omega
 rw [e,← h1,List.getElem?_map] at hm
 obtain ⟨x,hx,hxp⟩:=Option.map_eq_some_iff.1 hm
 obtain ⟨i,hi,hti⟩:=place_at tx so.ob.l[j].ti (by rw [htx];exact title_in (List.getElem_mem hj))
 refine ⟨x,i,hx,?_,by rw [book_tx hb];exact hti,?_,?_,?_⟩
 ·have:=congrArg Tp.ti hxp;simp only [Th.p,objI] at this;rw [this,hi]
 ·have:=congrArg Tp.ro hxp;simpa only [Th.p,objI] using this
 ·have:=congrArg Tp.pa hxp;simpa only [Th.p,objI] using this
 ·have:=congrArg (fun q : Tp=>q.wy.length) hxp;simp only [Th.p,objI,wysI_len] at this;exact this
theorem book_fn {j : Nat} (hj : j < so.fn.l.length) : ∃ k : Nat,b.fu.l[j]?=some (k : Int)∧b.pa.l[k]?=some (so.fn.l[j].ps.l.length : Int):=by
 have hf : b.fu.l=_:=congrArg Bp.fu hb
 have hp : b.pa.l=_:=congrArg (fun p : Bp=>p.m.ps) hb
 have he : Even (desI T tx ((obsI T tx (prl so) (m0,th2 T tx (prl so) so.st) so.ob.l).1,[]) so.ru.l).1:=des_even _ _ (obs_even _ _ ⟨rfl,rfl⟩)
 obtain ⟨k,h1,h2⟩:=fns_at (t:=T) (tx:=tx) so.fn.l ((desI T tx ((obsI T tx (prl so) (m0,th2 T tx (prl so) so.st) so.ob.l).1,[]) so.ru.l).1,[]) j hj he
 refine ⟨k,?_,?_⟩
 ·rw [hf]
  unfold bookI
  simpa using h1
 ·rw [hp]
  exact (dms_more (t:=T) (tx:=tx) so.dm.l (_,[])).at_ h2
end
theorem props_in {so : So} {T : List Nm} (hm : Mk (ens so) T) (hc : SoC T so) : ∀ o ∈ so.ob.l,∀ p ∈ o.pr.l,0≤ofN T 2 p.nm∧ofN T 2 p.nm < (so.pr.l.length : Int):=fun o ho p hp=>num_in hm ((hc.1 o ho).2.2.1 p hp)
theorem in_ok {so : So} {T : List Nm} (hc : SoC T so) {o : Ob} (ho : o ∈ so.ob.l) (hi : o.inn ≠ []) : errN T 4 o.inn=0:=by
 rcases (hc.1 o ho).1 with h | ⟨h1,h2⟩
 ·exact absurd h hi
 ·unfold errN
  rw [h1,if_pos rfl,if_pos h2]
end Go.Proofs.Yteibcfpepdbflaa.BnR
namespace Go.Proofs.Yteibcfpepdbflaa.CkD
open Go Go.RowKit BindP BindD BindO BindW BindN BindG BindX BindB BindS BindK BindT BindV BindL RtX
open Byt (str)
mutual
def cnt1 : Ps→Nat
 | .mk _ _ _ _ b e=>1 + cnt b + cnt e
def cnt : List Ps→Nat
 | []=>0
 | a :: l=>cnt1 a + cnt l
end
theorem cnt_app : ∀ (l1 l2 : List Ps),cnt (l1 ++ l2)=cnt l1 + cnt l2
 | [],l2=>by simp [cnt]
 | a :: l1,l2=>by simp only [List.cons_append,cnt,cnt_app l1 l2,Nat.add_assoc]
theorem cnt_take {l : List St} {j : Nat} (h : j < l.length) : cnt (stPs (l.take (j + 1)))=cnt (stPs (l.take j)) + cnt1 l[j].p:=by
 rw [List.take_succ_eq_append_getElem h,stPs_app,cnt_app]
 simp only [stPs,cnt,Nat.add_zero]
mutual
theorem cnt1_le : ∀ p : Ps,cnt1 p≤nS p
 | .mk _ _ _ _ b e=>by
  have h1:=cnt_le b
  have h2:=cnt_le e
  unfold cnt1 nS
  omega
theorem cnt_le : ∀ l : List Ps,cnt l≤nB l
 | []=>by simp [cnt]
 | a :: l=>by
  have h1:=cnt1_le a
  have h2:=cnt_le l
  unfold cnt nB
  omega
end
def SizC (l : List St) : Prop:=∀ (A : Option Addr) (c : Nat) (w : World),Ls top w A c l→Calls Try.prog 35 #[.slice A l.length c] w fun e w'=>e=.returned (.int .i64 (cnt (stPs l) : Int))∧Below w.heap.size w w'
set_option maxRecDepth 100000 in
set_option maxHeartbeats 8000000 in
theorem size_r : ∀ (N : Nat) (l : List St),nB (stPs l)≤N→nB (stPs l)≤1048576→SizC l:=by
 intro N
 induction N using Nat.strongRecOn with
 | _ N ihN=>
  intro l hlN hnB A c w hl
  have HL:=Lib.hid hl
  have HIH:=Lib.hid (show ∀ l' : List St,nB (stPs l') < N∧nB (stPs l')≤1048576→SizC l' from fun l' h=>ihN _ h.1 l' (Nat.le_refl _) h.2)
  have hll : l.length≤1048576:=by
   have h1:=sum_len (m:=fun x : St=>nS x.p) (fun x=>by cases x;unfold St.p nS;omega) l
   rw [← nB_sum] at h1
   omega
  have HTOT:=Lib.hid (show ∀ j,cnt (stPs (l.take j))≤nB (stPs l) from fun j=>by
   have h1:=cnt_le (stPs (l.take j))
   have e : l=l.take j ++ l.drop j:=(List.take_append_drop _ _).symm
   have h2 : nB (stPs l)=nB (stPs (l.take j)) + nB (stPs (l.drop j)):=by rw [← nB_app,← stPs_app,← e]
   omega)
  obtain ⟨m,hm⟩ : ∃ m,l.length=m:=⟨_,rfl⟩
  have HM:=Lib.hid hm
  have HNN:=Lib.hid (And.intro hlN hnB)
  rw [hm] at hll ⊢
  clear hm ihN hlN hl hnB
  go_enter Try.func35,Try.ntmps35
  go_wp2_with fail
  go_loopw [3,8] (fun nv iv wr=>∃ (j z : Nat),j≤m∧nv=.int .i64 (z : Int)∧iv=.int .i64 (j : Int)∧Hid (cnt (stPs (l.take j))=z)∧Below w.heap.size w wr) (fun _ iv _=>m - (intOf iv).toNat)
  case atStart=>exact ⟨0,0,Nat.zero_le _,rfl,rfl,Lib.hid (by simp [stPs,cnt]),Below.refl _ _⟩
  case round=>
   obtain ⟨j,n0,hj,rfl,rfl,HQ,hb⟩:=hrel
   have HB:=Lib.hid hb
   clear hb
   by_cases hlt : j < m
   ·have hjl : j < l.length:=by rw [HM.out];exact hlt
    obtain ⟨b_,o_,rfl,hbl,hc⟩:=Lg.at_ stE_len HL.out hjl
    obtain ⟨⟨k,n,s,Aa,ca,ar,Ab,cb,b,Ae,ce,e⟩,hy⟩ : ∃ y,l[j]=y:=⟨_,rfl⟩
    have hmem : l[j] ∈ l:=List.getElem_mem hjl
    have htk:=take_nB hjl
    have hlk:=cnt_take hjl
    have hbd:=HTOT.out (j + 1)
    rw [hy] at hc hmem htk hlk
    have HOP:=Lib.hid ((HL.out.2 _ hmem).open_)
    have hcell : ∀ U,Below w.heap.size w U→∀ p,U.cell? ⟨b_,p,none⟩=w.cell? ⟨b_,p,none⟩:=fun U hU p=>hU.cell (p:=⟨b_,p,none⟩) hbl
    have c0 : wr.cell? ⟨b_,o_ + j * 6,none⟩=some (.int .i64 k):=(hcell wr HB.out _).trans (hc 0 _ rfl)
    have c1 : wr.cell? ⟨b_,o_ + j * 6 + 1,none⟩=some (.int .i64 n):=(hcell wr HB.out _).trans (hc 1 _ rfl)
    have c2 : wr.cell? ⟨b_,o_ + j * 6 + 2,none⟩=some (.string (str s)):=(hcell wr HB.out _).trans (hc 2 _ rfl)
    have c3 : wr.cell? ⟨b_,o_ + j * 6 + 3,none⟩=some (.slice Aa ar.length ca):=(hcell wr HB.out _).trans (hc 3 _ rfl)
    have c4 : wr.cell? ⟨b_,o_ + j * 6 + 4,none⟩=some (.slice Ab b.length cb):=(hcell wr HB.out _).trans (hc 4 _ rfl)
    have c5 : wr.cell? ⟨b_,o_ + j * 6 + 5,none⟩=some (.slice Ae e.length ce):=(hcell wr HB.out _).trans (hc 5 _ rfl)
    have k0 : (0 : Int)≤(j : Int):=by omega
    have k1 : (j : Int) < (m : Int):=by omega
    unfold St.p nS at htk
    unfold St.p cnt1 at hlk
    have hnn:=HNN.out
    have HZ:=Lib.hid (show (nB (stPs b) < N∧nB (stPs b)≤1048576)∧(nB (stPs e) < N∧nB (stPs e)≤1048576) by omega)
    obtain ⟨lb,hlb⟩ : ∃ x,cnt (stPs b)=x:=⟨_,rfl⟩
    obtain ⟨le,hle⟩ : ∃ x,cnt (stPs e)=x:=⟨_,rfl⟩
    have HLB:=Lib.hid (And.intro hlb hle)
    have hq:=HQ.out
    have HNX:=Lib.hid hlk
    rw [hlk,hq,hlb,hle] at hbd
    have hbd2 : n0 + (1 + lb + le)≤1048576:=by omega
    clear hc hy hmem htk hlk hcell hjl hlb hle hq hnn hbd
    go_upto_region 5 with fail
    clear c0 c1 c2 c3 c4 c5
    obtain ⟨wa,hwa⟩ : ∃ W1,wr.alloc (.cells #[.int .i64 k,.int .i64 n,.string (str s),.slice Aa ar.length ca,.slice Ab b.length cb,.slice Ae e.length ce] 46)=W1:=⟨_,rfl⟩
    rw [hwa]
    obtain ⟨m2,s2,b2'⟩:=made hwa
    have HBA:=Lib.hid (HB.out.trans (b2'.mono HB.out.size))
    obtain ⟨pb,hpb⟩ : ∃ q,wr.heap.size=q:=⟨_,rfl⟩
    rw [hpb] at m2 ⊢
    have HSB:=Lib.hid (show ∀ U,Below wa.heap.size wa U→U.cell? ⟨pb,4,none⟩=some (.slice Ab b.length cb)∧U.cell? ⟨pb,5,none⟩=some (.slice Ae e.length ce) from fun U hU=>by
     have h9:=cells6 ((hU.block _ (Array.getElem?_eq_some_iff.1 m2).1).trans m2)
     exact ⟨h9.2.2.2.2.1,h9.2.2.2.2.2.1⟩)
    clear m2 s2 b2' hwa hpb
    have zw1 : IntKind.i64.wrap (1 + (lb : Int))=1 + (lb : Int):=by rw [IntKind.wrap_i64];omega
    have zw2 : IntKind.i64.wrap (1 + (lb : Int) + (le : Int))=1 + (lb : Int) + (le : Int):=by rw [IntKind.wrap_i64];omega
    have zw3 : IntKind.i64.wrap ((n0 : Int) + (1 + (lb : Int) + (le : Int)))=(n0 : Int) + (1 + (lb : Int) + (le : Int)):=by rw [IntKind.wrap_i64];omega
    have hS0 : wa.drew.cell? ⟨pb,4,none⟩=some (.slice Ab b.length cb)∧wa.drew.cell? ⟨pb,5,none⟩=some (.slice Ae e.length ce):=HSB.out _ (Below.drew (Below.refl _ _))
    refine RgD.begin_ [] (fun U=>U.cell? ⟨pb,4,none⟩=some (.slice Ab b.length cb)∧U.cell? ⟨pb,5,none⟩=some (.slice Ae e.length ce)) (by kernel_rfl) hS0 (fun hHeld=>?_)
    refine RgD.tk 0 12 (v:=.int .i64 (n0 : Int)) (h:=?_)
    simp only [RgD.sA,RgD.s0,RgD.s1]
    refine RgD.tk 1 13 (h:=?_)
    simp only [RgD.sA,RgD.s0,RgD.s1]
    refine RgD.tk 2 14 (v:=.slice Ab b.length cb) (hy:=by intro w0 hSw;have z4:=hSw.1;first | (go_simp;done) | (go_simp;with_reducible rfl) | (go_simp;intro hc;exfalso;omega)) (h:=?_)
    simp only [RgD.sA,RgD.s0,RgD.s1]
    refine RgD.tk 5 17 (h:=?_)
    simp only [RgD.sA,RgD.s0,RgD.s1]
    refine RgD.tk 6 18 (v:=.slice Ae e.length ce) (hy:=by intro w0 hSw;have z5:=hSw.2;first | (go_simp;done) | (go_simp;with_reducible rfl) | (go_simp;intro hc;exfalso;omega)) (h:=?_)
    simp only [RgD.sA,RgD.s0,RgD.s1]
    refine RgD.one (i:=3) (by kernel_rfl) ?_
    refine RgD.call (i:=3) (t:=15) rfl rfl (by rfl) (by go_simp;exact ⟨rfl,rfl⟩) ?_
    refine (HIH.out b HZ.out.1 Ab cb wa.drew (Lg.keep stays_s (Keep.below (Below.drew HBA.out)) HOP.out.2.1)).mono ?_
    rintro r w2 ⟨rfl,hb⟩
    rw [HLB.out.1]
    have HB2:=Lib.hid ((Below.drew (Below.refl _ wa)).trans (hb.mono (Nat.le_refl _)))
    have gS2:=HSB.out _ HB2.out
    clear hb
    refine ⟨_,rfl,gS2,?_⟩
    simp only [RgD.sA,RgD.s0,RgD.s1]
    refine RgD.tk 4 16 (v:=.int .i64 (1 + (lb : Int))) (h:=?_)
    simp only [RgD.sA,RgD.s0,RgD.s1]
    refine RgD.one (i:=7) (by kernel_rfl) ?_
    refine RgD.call (i:=7) (t:=19) rfl rfl (by rfl) (by go_simp;exact ⟨rfl,rfl⟩) ?_
    refine (HIH.out e HZ.out.2 Ae ce w2 (Lg.keep stays_s (Keep.below (HBA.out.trans (HB2.out.mono HBA.out.size))) HOP.out.2.2)).mono ?_
    rintro r w3 ⟨rfl,hb⟩
    rw [HLB.out.2]
    have HB3:=Lib.hid (HB2.out.trans (hb.mono HB2.out.size))
    have gS3:=HSB.out _ HB3.out
    clear hb
    refine ⟨_,rfl,gS3,?_⟩
    simp only [RgD.sA,RgD.s0,RgD.s1]
    refine RgD.tk 8 20 (v:=.int .i64 (1 + (lb : Int) + (le : Int))) (h:=?_)
    simp only [RgD.sA,RgD.s0,RgD.s1]
    refine RgD.tk 9 21 (v:=.int .i64 ((n0 : Int) + (1 + (lb : Int) + (le : Int)))) (h:=?_)
    simp only [RgD.sA,RgD.s0,RgD.s1]
    refine RgD.tk 10 3 (v:=.int .i64 ((n0 : Int) + (1 + (lb : Int) + (le : Int)))) (h:=?_)
    simp only [RgD.sA,RgD.s0,RgD.s1]
    refine RgD.done (by kernel_rfl) ?_ _
    clear gS2 gS3 hS0
    go_wp2_with fail
    go_roundw
    case rel=>exact ⟨j + 1,n0 + (1 + lb + le),by omega,by go_num,by go_num,Lib.hid (by have h0:=HNX.out;have h1:=HQ.out;have h2:=HLB.out;omega),HBA.out.trans (HB3.out.mono HBA.out.size)⟩
    case measure=>simp [intOf];omega
   ·obtain rfl : m=j:=by omega
    have HTK:=Lib.hid (show l.take m=l from List.take_of_length_le (by rw [HM.out];exact Nat.le_refl _))
    go_wp2_with fail
    go_ret
    have h:=HQ.out
    rw [HTK.out] at h
    exact ⟨by rw [h] <;> rfl,HB.out⟩
end Go.Proofs.Yteibcfpepdbflaa.CkD
