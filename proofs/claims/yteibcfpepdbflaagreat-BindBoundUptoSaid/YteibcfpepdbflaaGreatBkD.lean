/- A maker's numbers of things and texts, and the routine of a condition. Conditions: sizes within the reach. -/
import Derived.Test.YteibcfpepdbflaaGreatBkB
import Derived.Test.YteibcfpepdbflaaGreatRows
import Derived.WalkKit
import Derived.ProofKit
import Derived.OpenShut
import Derived.Handy
import Derived.Lib.Hide
open Go.Lib renaming hid → hI
open Go.Proofs.YteibcfpepdbflaaGreat.RgD renaming tk → tK, sA → zA, s0 → zB, s1 → zC
namespace Go.Proofs.YteibcfpepdbflaaGreat.BkC
open Go Go.RowKit BindP BindD BindO BindW BindN BindG BindX BindB BindS BindK BindT BindA BkA BkB
open Byt (str)
theorem rd_k {K : Nat→Prop} {w : World} {A : Option Addr} {c : Nat} {l : List S} (h : Lg svE Rt K w A c l) : Sq.Rd sv w A l.length l:=by
 refine ⟨rfl,fun hn=>?_⟩
 obtain ⟨b,o,e,hb,hc⟩:=h.1.rd.2 hn
 refine ⟨b,o,e,hb,fun i x hx=>hc i (sv x) ?_⟩
 have h1:=Sk.flat_at (enc:=svE) (k:=1) (fun _=>rfl) l i 0 x hx (by omega)
 rw [Nat.mul_one,Nat.add_zero] at h1
 exact h1
structure Bs (w0 : World) (A1 : Option Addr) (n1 : Nat) (t : List Nm) (A2 : Option Addr) (n2 : Nat) (tx : List S) : Prop where
 up : Up t
 t : Sk.Rd nmE w0 A1 n1 t
 x : Sq.Rd sv w0 A2 n2 tx
 n1 : n1≤17592186043904
 n2 : n2≤17592186043904
def RtV (X : Nat→Prop) (w0 : World) (tv xv : Value) (y : Nat→Value) (w : World) (vp vl vr : Value) (m : Ms) (np nl : Nat) (row : List Ps) (e : Ending) (w' : World) : Prop:=
 ∃ vp' vl' vr' s,e=.returned (.int .i64 (m.rs.length : Int))∧stPs s.l=row∧Mb X w0 tv xv y w' vp' vl' vr' ⟨m.ps ++ [(np : Int)],m.ls ++ [(nl : Int)],m.rs ++ [s]⟩∧Ft (Dm w0 vp vl vr) (Dm w0 vp' vl' vr') w w'
theorem ft_set {D D' : Nat→Prop} {w wa u : World} (h : Ft D D' wa u) (hb : Below w.heap.size w wa) : Ft D D' w u:=(Ft.below hb).trans h
set_option maxRecDepth 100000 in
set_option maxHeartbeats 16000000 in
theorem routine_w (X : Nat→Prop) (w0 : World) (A1 A2 : Option Addr) (n1 c1 n2 c2 : Nat) (t : List Nm) (tx : List S) (hbs : Bs w0 A1 n1 t A2 n2 tx) (y : Nat→Value) (w : World) (vp vl vr : Value) (m : Ms) (hM : Mb X w0 (.slice A1 n1 c1) (.slice A2 n2 c2) y w vp vl vr m) (hm : m.le 2097152)
  (pa : List S) (Ap : Option Addr) (cp : Nat) (hp : Lg svE Rt (fun b=>¬ Dm w0 vp vl vr b) w Ap cp pa) (l : List St) (A : Option Addr) (c : Nat) (hl : Ls (fun b=>¬ Dm w0 vp vl vr b) w A c l) (hn : nB (stPs l)≤1048576) (hpn : pa.length≤1048576) :
  Calls Tryz.prog 27 #[.pointer (some ⟨w0.heap.size,0,none⟩),.slice Ap pa.length cp,.slice A l.length c] w (RtV X w0 (.slice A1 n1 c1) (.slice A2 n2 c2) y w vp vl vr m pa.length (pa.length + locs (stPs l)) (rowI t tx pa (stPs l)).1):=by
 have HBS:=hI hbs
 obtain ⟨Ap0,cp0,rfl,_,_⟩:=hM.op.shape
 obtain ⟨Al0,cl0,rfl,_,_⟩:=hM.ol.shape
 obtain ⟨Ar0,cr0,rfl,_,_⟩:=hM.or.shape
 obtain ⟨np0,hnp⟩ : ∃ q,m.ps.length=q:=⟨_,rfl⟩
 obtain ⟨nl0,hnl⟩ : ∃ q,m.ls.length=q:=⟨_,rfl⟩
 obtain ⟨nr0,hnr⟩ : ∃ q,m.rs.length=q:=⟨_,rfl⟩
 obtain ⟨q,hq⟩ : ∃ q,pa.length=q:=⟨_,rfl⟩
 obtain ⟨nn,hnn⟩ : ∃ q,l.length=q:=⟨_,rfl⟩
 obtain ⟨ll,hll⟩ : ∃ q,locs (stPs l)=q:=⟨_,rfl⟩
 have hlb : ll≤2097152:=by have:=locs_le.2 (stPs l);omega
 have hml : np0≤2097152∧nl0≤2097152∧nr0≤2097152:=by rw [← hnp,← hnl,← hnr];exact hm
 obtain ⟨RW,hRW⟩ : ∃ r,(rowI t tx pa (stPs l)).1=r:=⟨_,rfl⟩
 have HLN:=hI (And.intro hnp (And.intro hnl (And.intro hnr (And.intro hq (And.intro hnn hll)))))
 have HRW:=hI hRW
 unfold RtV
 rw [hnp,hnl,hnr] at hM hp hl ⊢
 rw [hq,hll,hnn,hRW]
 rw [hq] at hpn
 have HML:=hI hml
 have HLC:=hI (show ∀ U,Ls top U A c l→Calls Tryz.prog 74 #[.slice A nn c] U (fun e w'=>e=.returned (.int .i64 (ll : Int))∧Below U.heap.size U w') from fun U hU=>by
  have h:=locals_i _ l (Nat.le_refl _) hn A c U hU
  rw [hnn,hll] at h
  exact h)
 have HBC:=hI (show ∀ U,Below w0.heap.size w0 U→Sq.Rd sv U Ap q pa→Ls top U A c l→Calls Tryz.prog 17 #[.slice A1 n1 c1,.slice A2 n2 c2,.slice Ap q cp,.slice A nn c] U (StV RW U) from fun U hb hU hL=>by
  have h:=block_i t hbs.up tx pa A1 A2 Ap A n1 c1 n2 c2 q cp c l U ⟨hbs.t.below hb,hbs.x.below hb,hU,hbs.n1,hbs.n2,by omega⟩ hL hn (by omega)
  rw [hnn,hRW] at h
  exact h)
 have HQN:=hI (And.intro hpn (And.intro hlb hn))
 have HWL:=hI hM.lt
 have HPL:=hI hp
 have HLL:=hI hl
 obtain ⟨wa,hwa⟩ : ∃ W,w.alloc (.cells #[.int .i64 (q : Int)] 3)=W:=⟨_,rfl⟩
 have hba:=(made hwa).2.2
 have HBA:=hI hba
 have HWA:=hI hwa
 have HZA:=hI (show Sk.Rd inE wa (some ⟨w.heap.size,0,none⟩) 1 [(q : Int)] by rw [← hwa];exact Sk.rd_lit (enc:=inE) _ 3 [(q : Int)] _ rfl 1 rfl)
 have HMA:=hI (hM.below hba)
 have HSA:=hI (show w.heap.size + 1=wa.heap.size by rw [← hwa];simp)
 have HM:=hI hM
 obtain ⟨x0,x1,x2,x3,x4,x5,x6,x7,x8,x9,x10,x11,x12,x13,x14,x15,x16,x17,xf⟩:=cells18 hM.box
 clear hp hl hM hn hpn hlb hm hml hnp hnl hnr hq hnn hll hRW hba hwa
 go_enter Tryz.func27,Tryz.ntmps27
 go_upto_region 3 with (at_builtin;rw [HWA.out];refine Sk.wpList_append elI rfl _ _ rfl rfl HMA.out.op (some ⟨w.heap.size,0,none⟩) 1 1 [(q : Int)] rfl HZA.out (by have h1:=HLN.out.1;have h2:=HML.out.1;unfold maxLen;omega) (by have h1:=HLN.out.1;have h2:=HML.out.1;omega) (by have h1:=HWL.out;have h2:=HSA.out;omega) ?_;intro v1 w1 ho hb hg _ hv;have HA1:=hI (HMA.out.appP ho hg hb hv);obtain ⟨x0,x1,x2,x3,x4,x5,x6,x7,x8,x9,x10,x11,x12,x13,x14,x15,x16,x17,xf⟩:=cells18 ((hg.block _ HMA.out.lt (Ne.symm HMA.out.pW)).trans HMA.out.box);obtain ⟨A7,c7,rfl,_,_⟩:=ho.shape;obtain ⟨q7,hq7⟩ : ∃ z,(m.ps ++ [(q : Int)]).length=z:=⟨_,rfl⟩;rw [hq7] at HA1 ⊢;clear hq7 ho hb hg hv)
 obtain ⟨w2,hw2⟩ : ∃ W,w1.setCell ⟨w0.heap.size,15,none⟩ (.slice A7 q7 c7)=W:=⟨_,rfl⟩
 rw [hw2] at HA1 ⊢
 have HM2:=hI HA1.out.1
 have HF2:=hI (ft_set HA1.out.2 HBA.out)
 clear hw2 x0 x1 x2 x3 x4 x5 x6 x7 x8 x9 x10 x11 x12 x13 x14 x15 x16 x17 xf
 have zw : IntKind.i64.wrap ((q : Int) + (ll : Int))=(q : Int) + (ll : Int):=by have:=HQN.out;rw [IntKind.wrap_i64];omega
 refine RgD.begin_ [12,13,14] (fun U=>U.heap[w0.heap.size]?=some (.cells #[.slice A1 n1 c1,.slice A2 n2 c2,y 0,y 1,y 2,y 3,y 4,y 5,y 6,y 7,y 8,y 9,y 10,y 11,y 12,.slice A7 q7 c7,.slice Al0 nl0 cl0,.slice Ar0 nr0 cr0] 73 (0,0))) (by kernel_rfl) HM2.out.box (fun hHeld=>?_)
 refine tK 0 23 (h:=?_)
 simp only [zA,zB,zC]
 refine tK 1 24 (h:=?_)
 simp only [zA,zB,zC]
 refine tK 2 25 (h:=?_)
 simp only [zA,zB,zC]
 refine tK 3 26 (h:=?_)
 simp only [zA,zB,zC]
 refine tK 4 27 (v:=.slice Al0 nl0 cl0) (hy:=by intro w0 hSw;obtain ⟨z0,z1,z2,z3,z4,z5,z6,z7,z8,z9,z10,z11,z12,z13,z14,z15,z16,z17,zf⟩:=cells18 hSw;first | (go_simp;done) | (go_simp;with_reducible rfl) | (go_simp;intro hc;exfalso;omega)) (h:=?_)
 simp only [zA,zB,zC]
 refine tK 5 28 (h:=?_)
 simp only [zA,zB,zC]
 refine tK 6 29 (v:=.int .i64 (q : Int)) (h:=?_)
 simp only [zA,zB,zC]
 refine tK 7 30 (h:=?_)
 simp only [zA,zB,zC]
 refine RgD.one (i:=8) (by kernel_rfl) ?_
 refine RgD.call (i:=8) (t:=31) rfl rfl (by rfl) (by go_simp;exact ⟨rfl,rfl⟩) ?_
 have hM0:=HM2.out.below (Below.drew (Below.refl w2.heap.size w2))
 have hF0:=HF2.out.trans (Ft.below (Below.drew (Below.refl w2.heap.size w2)))
 refine (HLC.out w2.drew (Lg.keep stays_s (hF0.keep.trans (Keep.weak fun _ _ _=>trivial)) HLL.out)).mono ?_
 rintro r w9 ⟨rfl,hb⟩
 have HM9:=hI (hM0.below hb)
 have HF9:=hI (hF0.trans (Ft.below hb))
 have gS9:=HM9.out.box
 clear hb hM0 hF0
 refine ⟨_,rfl,gS9,?_⟩
 simp only [zA,zB,zC]
 refine tK 9 32 (v:=.int .i64 ((q : Int) + (ll : Int))) (h:=?_)
 simp only [zA,zB,zC]
 refine RgD.one (i:=10) (by kernel_rfl) ?_
 obtain ⟨w10,hw⟩ : ∃ W,w9.alloc (.cells #[.int .i64 ((q : Int) + (ll : Int))] 3)=W:=⟨_,rfl⟩
 have hb:=(made hw).2.2
 have HM10:=hI (HM9.out.below hb)
 have HF10:=hI (HF9.out.trans (Ft.below hb))
 have hz : Sk.Rd inE w10 (some ⟨w9.heap.size,0,none⟩) 1 [((q : Int) + (ll : Int))]:=by rw [← hw];exact Sk.rd_lit (enc:=inE) _ 3 [((q : Int) + (ll : Int))] _ rfl 1 rfl
 have gS10:=HM10.out.box
 refine RgD.eff (i:=10) (t:=33) (v:=.slice (some ⟨w9.heap.size,0,none⟩) 1 1) (w1:=w10) rfl rfl (by rfl) (by first | (go_simp;done) | (go_simp;with_reducible rfl) | (go_simp;rw [hw];rfl)) gS10 ?_
 simp only [zA,zB,zC]
 clear hb hw
 refine RgD.one (i:=11) (by kernel_rfl) ?_
 refine RgD.app elI (i:=11) (t:=34) (.tmp 27) (.tmp 33) rfl rfl (by rfl) rfl rfl HM10.out.ol (some ⟨w9.heap.size,0,none⟩) 1 1 [((q : Int) + (ll : Int))] rfl hz (by have h1:=HLN.out.2.1;have h2:=HML.out.2.1;unfold maxLen;show m.ls.length + 1≤_;omega) (by have h1:=HLN.out.2.1;have h2:=HML.out.2.1;show (m.ls.length + 1) * 8≤_;omega) (Nat.le_of_lt HM10.out.lt) ?_
 intro v11 w11 ho hb hg hv
 have HA:=hI (HM10.out.appL ho hg hb hv)
 have gS11:=(hg.block _ HM10.out.lt (Ne.symm HM10.out.lW)).trans HM10.out.box
 refine ⟨gS11,?_⟩
 simp only [zA,zB,zC]
 obtain ⟨A11,c11,rfl,_,_⟩:=ho.shape
 obtain ⟨q8,hq⟩ : ∃ z,(m.ls ++ [((q : Int) + (ll : Int))]).length=z:=⟨_,rfl⟩
 rw [hq] at HA ⊢
 have HQq8:=hI hq
 clear hq ho hb hg hv hz
 obtain ⟨x0,x1,x2,x3,x4,x5,x6,x7,x8,x9,x10,x11,x12,x13,x14,x15,x16,x17,xf⟩:=cells18 gS11
 refine RgD.tk0 12 35 (h:=?_)
 simp only [zA,zB,zC]
 refine RgD.tk0 13 36 (h:=?_)
 simp only [zA,zB,zC]
 refine RgD.one (i:=14) (by kernel_rfl) ?_
 obtain ⟨w12,hw⟩ : ∃ W,w11.setCell ⟨w0.heap.size,16,none⟩ (.slice A11 q8 c11)=W:=⟨_,rfl⟩
 rw [hw] at HA
 refine RgD.store (i:=14) (w1:=w12) rfl rfl (by rfl) (by kernel_rfl) (by first | (go_simp;done) | (go_simp;exact hw) | (go_simp;rw [hw])) ?_
 refine RgD.done (by kernel_rfl) ?_ _
 clear x0 x1 x2 x3 x4 x5 x6 x7 x8 x9 x10 x11 x12 x13 x14 x15 x16 x17 xf hw gS9 gS10 gS11
 have HM3:=hI HA.out.1
 have HF3:=hI (HF10.out.trans HA.out.2)
 clear HM9 HF9 HM10 HF10 HA
 obtain ⟨w3,hw3⟩ : ∃ W,W=w12:=⟨_,rfl⟩
 rw [← hw3] at HM3 HF3 ⊢
 clear hw3 w12
 go_upto_region 4 with fail
 refine RgD.begin_ [19,20,21,22] (fun U=>U.heap[w0.heap.size]?=some (.cells #[.slice A1 n1 c1,.slice A2 n2 c2,y 0,y 1,y 2,y 3,y 4,y 5,y 6,y 7,y 8,y 9,y 10,y 11,y 12,.slice A7 q7 c7,.slice A11 q8 c11,.slice Ar0 nr0 cr0] 73 (0,0))) (by kernel_rfl) HM3.out.box (fun hHeld=>?_)
 refine tK 0 37 (h:=?_)
 simp only [zA,zB,zC]
 refine tK 1 38 (h:=?_)
 simp only [zA,zB,zC]
 refine tK 2 39 (h:=?_)
 simp only [zA,zB,zC]
 refine tK 3 40 (h:=?_)
 simp only [zA,zB,zC]
 refine tK 4 41 (h:=?_)
 simp only [zA,zB,zC]
 refine tK 5 42 (v:=.slice Ar0 nr0 cr0) (hy:=by intro w0 hSw;obtain ⟨z0,z1,z2,z3,z4,z5,z6,z7,z8,z9,z10,z11,z12,z13,z14,z15,z16,z17,zf⟩:=cells18 hSw;first | (go_simp;done) | (go_simp;with_reducible rfl) | (go_simp;intro hc;exfalso;omega)) (h:=?_)
 simp only [zA,zB,zC]
 refine tK 6 43 (h:=?_)
 simp only [zA,zB,zC]
 refine tK 7 44 (h:=?_)
 simp only [zA,zB,zC]
 refine tK 8 45 (h:=?_)
 simp only [zA,zB,zC]
 refine tK 9 46 (v:=.slice A1 n1 c1) (hy:=by intro w0 hSw;obtain ⟨z0,z1,z2,z3,z4,z5,z6,z7,z8,z9,z10,z11,z12,z13,z14,z15,z16,z17,zf⟩:=cells18 hSw;first | (go_simp;done) | (go_simp;with_reducible rfl) | (go_simp;intro hc;exfalso;omega)) (h:=?_)
 simp only [zA,zB,zC]
 refine tK 10 47 (h:=?_)
 simp only [zA,zB,zC]
 refine tK 11 48 (h:=?_)
 simp only [zA,zB,zC]
 refine tK 12 49 (h:=?_)
 simp only [zA,zB,zC]
 refine tK 13 50 (v:=.slice A2 n2 c2) (hy:=by intro w0 hSw;obtain ⟨z0,z1,z2,z3,z4,z5,z6,z7,z8,z9,z10,z11,z12,z13,z14,z15,z16,z17,zf⟩:=cells18 hSw;first | (go_simp;done) | (go_simp;with_reducible rfl) | (go_simp;intro hc;exfalso;omega)) (h:=?_)
 simp only [zA,zB,zC]
 refine tK 14 51 (v:=.slice Ap q cp) (h:=?_)
 simp only [zA,zB,zC]
 refine tK 15 52 (v:=.slice A nn c) (h:=?_)
 simp only [zA,zB,zC]
 refine RgD.one (i:=16) (by kernel_rfl) ?_
 refine RgD.call (i:=16) (t:=53) rfl rfl (by rfl) (by go_simp;exact ⟨rfl,rfl⟩) ?_
 have hM0:=HM3.out.below (Below.drew (Below.refl w3.heap.size w3))
 have hF0:=HF3.out.trans (Ft.below (Below.drew (Below.refl w3.heap.size w3)))
 refine (HBC.out w3.drew hM0.low (by have h:=rd_k (Lg.keep stays_t hF0.keep HPL.out);rw [HLN.out.2.2.2.1] at h;exact h) (Lg.keep stays_s (hF0.keep.trans (Keep.weak fun _ _ _=>trivial)) HLL.out)).mono ?_
 rintro r w9 ⟨As,cs,ss,rfl,hps,hls,hb⟩
 have HPS:=hI hps
 have hx9 : HdR (fun b=>¬ Dm w0 (.slice A7 q7 c7) (.slice A11 q8 c11) (.slice Ar0 nr0 cr0) b∧¬ X b) w9 ⟨As,cs,ss⟩:=Lg.keep stays_s (Keep.weak fun b hb1 _=>⟨fun hd=>by have:=(hM0.dm hd).2;omega,fun hd=>by have:=hM0.xl b hd;omega⟩) hls
 clear hps hls
 have HM9:=hI (hM0.below hb)
 have HF9:=hI (hF0.trans (Ft.below hb))
 have gS9:=HM9.out.box
 clear hb hM0 hF0
 refine ⟨_,rfl,gS9,?_⟩
 simp only [zA,zB,zC]
 refine RgD.one (i:=17) (by kernel_rfl) ?_
 obtain ⟨w10,hw⟩ : ∃ W,w9.alloc (.cells #[.slice As ss.length cs] 46)=W:=⟨_,rfl⟩
 have hb:=(made hw).2.2
 have HM10:=hI (HM9.out.below hb)
 have HF10:=hI (HF9.out.trans (Ft.below hb))
 have hz : Sk.Rd hdE w10 (some ⟨w9.heap.size,0,none⟩) 1 [(⟨As,cs,ss⟩ : Sv St)]:=by rw [← hw];exact Sk.rd_lit (enc:=hdE) _ 46 [(⟨As,cs,ss⟩ : Sv St)] _ rfl 1 rfl
 have hx10:=stays_h _ _ _ _ _ (Keep.below hb) hx9
 have gS10:=HM10.out.box
 refine RgD.eff (i:=17) (t:=54) (v:=.slice (some ⟨w9.heap.size,0,none⟩) 1 1) (w1:=w10) rfl rfl (by rfl) (by first | (go_simp;done) | (go_simp;with_reducible rfl) | (go_simp;rw [hw];rfl)) gS10 ?_
 simp only [zA,zB,zC]
 clear hb hw
 refine RgD.one (i:=18) (by kernel_rfl) ?_
 refine RgD.app elH (i:=18) (t:=55) (.tmp 42) (.tmp 54) rfl rfl (by rfl) rfl rfl HM10.out.or (some ⟨w9.heap.size,0,none⟩) 1 1 [(⟨As,cs,ss⟩ : Sv St)] rfl hz (by have h1:=HLN.out.2.2.1;have h2:=HML.out.2.2;unfold maxLen;show m.rs.length + 1≤_;omega) (by have h1:=HLN.out.2.2.1;have h2:=HML.out.2.2;show (m.rs.length + 1) * 24≤_;omega) (Nat.le_of_lt HM10.out.lt) ?_
 intro v11 w11 ho hb hg hv
 have HA:=hI (HM10.out.appR ho hg hb hv hx10)
 have gS11:=(hg.block _ HM10.out.lt (Ne.symm HM10.out.rW)).trans HM10.out.box
 refine ⟨gS11,?_⟩
 simp only [zA,zB,zC]
 obtain ⟨A11,c11,rfl,_,_⟩:=ho.shape
 obtain ⟨q9,hq⟩ : ∃ z,(m.rs ++ [(⟨As,cs,ss⟩ : Sv St)]).length=z:=⟨_,rfl⟩
 rw [hq] at HA ⊢
 have HQq9:=hI hq
 clear hq ho hb hg hv hz
 obtain ⟨x0,x1,x2,x3,x4,x5,x6,x7,x8,x9,x10,x11,x12,x13,x14,x15,x16,x17,xf⟩:=cells18 gS11
 refine RgD.tk0 19 56 (h:=?_)
 simp only [zA,zB,zC]
 refine RgD.tk0 20 57 (h:=?_)
 simp only [zA,zB,zC]
 refine RgD.tk0 21 58 (h:=?_)
 simp only [zA,zB,zC]
 refine RgD.one (i:=22) (by kernel_rfl) ?_
 obtain ⟨w12,hw⟩ : ∃ W,w11.setCell ⟨w0.heap.size,17,none⟩ (.slice A11 q9 c11)=W:=⟨_,rfl⟩
 rw [hw] at HA
 refine RgD.store (i:=22) (w1:=w12) rfl rfl (by rfl) (by kernel_rfl) (by first | (go_simp;done) | (go_simp;exact hw) | (go_simp;rw [hw])) ?_
 refine RgD.done (by kernel_rfl) ?_ _
 clear x0 x1 x2 x3 x4 x5 x6 x7 x8 x9 x10 x11 x12 x13 x14 x15 x16 x17 xf hw gS9 gS10 gS11
 have HM4:=hI HA.out.1
 have HF4:=hI (HF10.out.trans HA.out.2)
 clear HM9 HF9 HM10 HF10 HA
 obtain ⟨w4,hw4⟩ : ∃ W,W=w12:=⟨_,rfl⟩
 rw [← hw4] at HM4 HF4 ⊢
 clear hw4 w12
 obtain ⟨x0,x1,x2,x3,x4,x5,x6,x7,x8,x9,x10,x11,x12,x13,x14,x15,x16,x17,xf⟩:=cells18 HM4.out.box
 have hq9 : q9=nr0 + 1:=by have h1:=HQq9.out;have h2:=HLN.out.2.2.1;rw [List.length_append,h2] at h1;exact h1.symm
 subst hq9
 have hml:=HML.out
 have hneg : ((nr0 + 1 : Nat) : Int) - 1=(nr0 : Int):=by omega
 go_wp2_with fail
 go_ret
 have hcast : ((q : Int) + (ll : Int))=((q + ll : Nat) : Int):=by omega
 have hM4:=HM4.out
 rw [hcast] at hM4
 exact ⟨rfl,_,_,_,⟨As,cs,ss⟩,HPS.out,hM4,HF4.out⟩
end Go.Proofs.YteibcfpepdbflaaGreat.BkC
namespace Go.Proofs.YteibcfpepdbflaaGreat.Slic
open Go Go.RowKit
def cutAt (a : Option Addr) (cap l size : Nat) : Option Addr:=if cap=l then a else a.map (·.add (l * size))
theorem run_low {P : Program} (t e : TypeId) (size : Nat) (hu : P.underlying t=some (.slice e)) (hs : (P.info? e).map (·.size)=some size) (a : Option Addr) (len cap l : Nat) (hl : l≤len) (w : World) :
  (Instr.slice t (.slice a len cap) (some (.int .i64 (l : Int))) none none).run P w=.ok (.slice (cutAt a cap l size) (len - l) (cap - l)) w:=by
 obtain ⟨i,hi,hz⟩ : ∃ i,P.info? e=some i∧i.size=size:=by
  cases h : P.info? e with
  | none=>rw [h] at hs;cases hs
  | some i=>rw [h] at hs;exact ⟨i,rfl,by simpa using hs⟩
 simp [Instr.slice,Instr.sliceBounds,Instr.sliceBound,run_underlying hu,asIntOf,sizeOf,typeInfo,hi,hz,cutAt]
 intro h;omega
theorem run_high {P : Program} (t e : TypeId) (size : Nat) (hu : P.underlying t=some (.slice e)) (hs : (P.info? e).map (·.size)=some size) (a : Option Addr) (len cap h : Nat) (hl : h≤cap) (w : World) :
  (Instr.slice t (.slice a len cap) none (some (.int .i64 (h : Int))) none).run P w=.ok (.slice a h cap) w:=by
 obtain ⟨i,hi,_⟩ : ∃ i,P.info? e=some i∧i.size=size:=by
  cases h : P.info? e with
  | none=>rw [h] at hs;cases hs
  | some i=>rw [h] at hs;exact ⟨i,rfl,by simpa using hs⟩
 have hadd : a.map (fun x=>x.add 0)=a:=by cases a <;> simp [Addr.add]
 simp [Instr.slice,Instr.sliceBounds,Instr.sliceBound,run_underlying hu,asIntOf,sizeOf,typeInfo,hi,hadd]
 intro h;omega
end Go.Proofs.YteibcfpepdbflaaGreat.Slic
namespace Go.Proofs.YteibcfpepdbflaaGreat.BkD
open Go Go.RowKit BindP BindD BindO BindW BindN BindG BindX BindB BindS BindK BindT BindA BkA BkB BkC
open Byt (str)
def thg (t : List Nm) (s : S) : Int:=if s=[] then -1 else ofN t 4 s
def txt (tx : List S) (s : S) : Int:=if s=[] then -1 else place tx s
theorem emp_q (s : S) (b : Bool) (h : decide (s=[])=b) : (str s).toList.isEmpty=b:=by
 rw [toList_str]
 cases b
 ·simp at h
  simpa using h
 ·simp at h
  simpa using h
theorem thing_w (X : Nat→Prop) (w0 : World) (A1 A2 : Option Addr) (n1 c1 n2 c2 : Nat) (t : List Nm) (tx : List S) (hbs : Bs w0 A1 n1 t A2 n2 tx) (y : Nat→Value) (w : World) (vp vl vr : Value) (m : Ms) (hM : Mb X w0 (.slice A1 n1 c1) (.slice A2 n2 c2) y w vp vl vr m) (s : S) :
  Calls Tryz.prog 23 #[.pointer (some ⟨w0.heap.size,0,none⟩),.string (str s)] w fun e w'=>e=.returned (.int .i64 (thg t s))∧Below w.heap.size w w':=by
 have HBS:=hI hbs
 have HLOW:=hI hM.low
 obtain ⟨x0,x1,x2,x3,x4,x5,x6,x7,x8,x9,x10,x11,x12,x13,x14,x15,x16,x17,xf⟩:=cells18 hM.box
 clear x3 x4 x5 x6 x7 x8 x9 x10 x11 x12 x13 x14 x15 x16 x17 hM hbs
 by_cases h : s=[]
 ·have q:=emp_q s true (by simpa using h)
  have HQ:=hI (show thg t s=-1 from by unfold thg;rw [if_pos h])
  rw [HQ.out]
  clear h
  go_enter Tryz.func23,Tryz.ntmps23
  go_wp2_with fail
  go_ret
  exact ⟨rfl,Below.refl _ _⟩
 ·have q:=emp_q s false (by simpa using h)
  have HQ:=hI (show thg t s=ofN t 4 s from by unfold thg;rw [if_neg h])
  rw [HQ.out]
  clear h
  go_enter Tryz.func23,Tryz.ntmps23
  go_wp2_with fail
  refine (number_w t HBS.out.up 4 s w (HBS.out.t.below HLOW.out) HBS.out.n1).mono ?_
  rintro e w' ⟨rfl,hb⟩
  go_wp2_with fail
  go_ret
  exact ⟨rfl,hb⟩
theorem text_w (X : Nat→Prop) (w0 : World) (A1 A2 : Option Addr) (n1 c1 n2 c2 : Nat) (t : List Nm) (tx : List S) (hbs : Bs w0 A1 n1 t A2 n2 tx) (y : Nat→Value) (w : World) (vp vl vr : Value) (m : Ms) (hM : Mb X w0 (.slice A1 n1 c1) (.slice A2 n2 c2) y w vp vl vr m) (s : S) :
  Calls Tryz.prog 71 #[.pointer (some ⟨w0.heap.size,0,none⟩),.string (str s)] w fun e w'=>e=.returned (.int .i64 (txt tx s))∧Below w.heap.size w w':=by
 have HBS:=hI hbs
 have HLOW:=hI hM.low
 obtain ⟨x0,x1,x2,x3,x4,x5,x6,x7,x8,x9,x10,x11,x12,x13,x14,x15,x16,x17,xf⟩:=cells18 hM.box
 clear x3 x4 x5 x6 x7 x8 x9 x10 x11 x12 x13 x14 x15 x16 x17 hM hbs
 by_cases h : s=[]
 ·have q:=emp_q s true (by simpa using h)
  have HQ:=hI (show txt tx s=-1 from by unfold txt;rw [if_pos h])
  rw [HQ.out]
  clear h
  go_enter Tryz.func71,Tryz.ntmps71
  go_wp2_with fail
  go_ret
  exact ⟨rfl,Below.refl _ _⟩
 ·have q:=emp_q s false (by simpa using h)
  have HQ:=hI (show txt tx s=place tx s from by unfold txt;rw [if_neg h])
  rw [HQ.out]
  clear h
  go_enter Tryz.func71,Tryz.ntmps71
  go_wp2_with fail
  refine (place_i tx s w (HBS.out.x.below HLOW.out) HBS.out.n2).mono ?_
  rintro e w' ⟨rfl,hb⟩
  go_wp2_with fail
  go_ret
  exact ⟨rfl,by rw [← hb];exact Below.refl _ _⟩
theorem lg_one {α : Type} {enc : α→List Value} {R : (Nat→Prop)→World→α→Prop} {K : Nat→Prop} {w : World} {A : Option Addr} {c : Nat} {x : α} {l : List α} (h : Lg enc R K w A c (x :: l)) : Lg enc R K w A c [x]:=
 ⟨⟨by have:=h.1.le;simp at this ⊢;omega,h.1.max,h.1.rd.high 1 (by simp),fun a e _=>h.1.blk a e (by simp)⟩,fun y hy=>h.2 y (by simp at hy;subst hy;simp)⟩
def WhV (X : Nat→Prop) (w0 : World) (tv xv : Value) (y : Nat→Value) (w : World) (vp vl vr : Value) (m : Ms) (t : List Nm) (tx : List S) (wh : List Pe) (e : Ending) (w' : World) : Prop:=
 match wh with
 | []=>e=.returned (.int .i64 (-1))∧w'=w
 | a :: _=>RtV X w0 tv xv y w vp vl vr m 0 0 (rowI t tx [] [.mk 12 0 [] [a] [] []]).1 e w'
set_option maxRecDepth 100000 in
set_option maxHeartbeats 16000000 in
theorem when_w (X : Nat→Prop) (w0 : World) (A1 A2 : Option Addr) (n1 c1 n2 c2 : Nat) (t : List Nm) (tx : List S) (hbs : Bs w0 A1 n1 t A2 n2 tx) (y : Nat→Value) (w : World) (vp vl vr : Value) (m : Ms) (hM : Mb X w0 (.slice A1 n1 c1) (.slice A2 n2 c2) y w vp vl vr m) (hm : m.le 2097152)
  (l : List Ex) (A : Option Addr) (c : Nat) (hl : Lx (fun b=>¬ Dm w0 vp vl vr b) w A c l) (hn : nEs (exPs l)≤1048575) :
  Calls Tryz.prog 26 #[.pointer (some ⟨w0.heap.size,0,none⟩),.slice A l.length c] w (WhV X w0 (.slice A1 n1 c1) (.slice A2 n2 c2) y w vp vl vr m t tx (exPs l)):=by
 cases l with
 | nil=>
  clear hl hM hbs hm
  show Calls _ _ #[_,.slice A 0 c] w _
  go_enter Tryz.func26,Tryz.ntmps26
  go_wp2_with fail
  go_ret
  exact ⟨rfl,rfl⟩
 | cons a l=>
  have hle:=hl.1.le
  have hs1 : ∀ w1,(Instr.slice 50 (.slice A (a :: l).length c) none (some (.int .i64 1)) none).run Tryz.prog w1=.ok (.slice A 1 c) w1:=fun w1=>Slic.run_high 50 68 5 Tryz.underlying50 (by kernel_rfl) A (a :: l).length c 1 (by simp at hle;omega) w1
  have h1:=lg_one hl
  obtain ⟨nn,hnn⟩ : ∃ z,(a :: l).length=z:=⟨_,rfl⟩
  have hpos : 0 < nn:=by rw [← hnn];simp
  have hneq : nn ≠ 0:=by omega
  rw [hnn] at hs1 ⊢
  obtain ⟨wa,hwa⟩ : ∃ W,w.alloc (.cells #[.int .i64 12,.int .i64 0,.string ⟨#[]⟩,.slice A 1 c,.slice none 0 0,.slice none 0 0] 65)=W:=⟨_,rfl⟩
  obtain ⟨m1,s1,b1⟩:=made hwa
  have HX:=hI (show Ls (fun b=>¬ Dm w0 vp vl vr b) wa (some ⟨w.heap.size,0,none⟩) 1 [St.mk 12 0 [] A c [a] none 0 [] none 0 []] from
   ⟨⟨by simp,by unfold maxLen;omega,by rw [← hwa];exact Sk.rd_lit (enc:=stE) _ 65 [St.mk 12 0 [] A c [a] none 0 [] none 0 []] _ rfl 1 rfl,fun a' e _=>by cases e;exact fun hd=>by have:=(hM.dm hd).2;simp only at this;omega⟩,
    fun x hx=>by simp at hx;subst hx;exact .mk (h1.1.keep (Keep.below b1)) (fun z hz=>(h1.2 z hz).keep (Keep.below b1)) (Sl.nil _) (fun _ h=>by cases h) (Sl.nil _) (fun _ h=>by cases h)⟩)
  have hsz : nB (stPs [St.mk 12 0 [] A c [a] none 0 [] none 0 []])≤1048576:=by
   simp only [exPs,nEs] at hn
   simp only [stPs,St.p,exPs,nB,nS,nEs,List.length_nil]
   omega
  have HR:=hI (routine_w X w0 A1 A2 n1 c1 n2 c2 t tx hbs y wa vp vl vr m (hM.below b1) hm [] none 0 (Lg.nil _) [St.mk 12 0 [] A c [a] none 0 [] none 0 []] (some ⟨w.heap.size,0,none⟩) 1 HX.out hsz (by simp))
  have HB:=hI b1
  have HW:=hI hwa
  clear hl hM hbs hm h1 hnn hle m1 s1 b1 hsz hwa hn
  go_enter Tryz.func26,Tryz.ntmps26
  go_wp2_with (go_at_call 27;rw [HW.out];refine HR.out.mono ?_;rintro e w1 ⟨vp1,vl1,vr1,s1,rfl,hp1,hM1,hF1⟩;have HP1:=hI hp1;have HM1:=hI hM1;have HF1:=hI hF1;clear hp1 hM1 hF1)
  go_ret
  exact ⟨vp1,vl1,vr1,s1,rfl,HP1.out,HM1.out,(Ft.below HB.out).trans HF1.out⟩
end Go.Proofs.YteibcfpepdbflaaGreat.BkD
