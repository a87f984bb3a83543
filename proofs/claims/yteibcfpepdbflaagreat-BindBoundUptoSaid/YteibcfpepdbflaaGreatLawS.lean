/- An api.Source among the arguments of a law: how it is opened. -/
import Derived.Test.YteibcfpepdbflaaGreatBindF
import Derived.Test.YteibcfpepdbflaaGreatBkB
import Derived.Test.YteibcfpepdbflaaGreatRows
import Derived.WalkKit
import Derived.ProofKit
import Derived.OpenShut
import Derived.Handy
import Derived.Test.YteibcfpepdbflaaGreatBindO
import Derived.JoinedCond
open Go.Lib renaming hid → hI
namespace Go.Proofs.YteibcfpepdbflaaGreat.TxL
open Go Go.RowKit BindP BindD BindO BindW BindN BindG BindX BindB BindT BindU BindA BindE BindF TxA TxB
open Byt (str)
theorem number_i (n : Int) (w : World) : Calls Tryz.prog 66 #[.int .i64 n] w fun e w'=>e=.returned (.slice (some ⟨w.heap.size,0,none⟩) 1 1)∧w'=w.alloc (.cells #[.int .i64 1,.int .i64 0,.int .i64 n,.string ⟨#[]⟩,.slice none 0 0] 68):=by
 go_enter Tryz.func66,Tryz.ntmps66
 go_wp2_with fail
 go_ret
 exact ⟨rfl,rfl⟩
def exA : Ex:=.mk 3 0 0 [97] none 0 []
def exN (n : Int) : Ex:=.mk 1 0 n [] none 0 []
def oneL (g : Nat) : List St:=[.mk 2 0 [97] (some ⟨g + 1,0,none⟩) 1 [exN 1] none 0 [] none 0 [],.mk 9 0 [] (some ⟨g,0,none⟩) 1 [exA] (some ⟨g + 1 + 1 + 1,0,none⟩) 1 [.mk 2 0 [98] (some ⟨g + 1 + 1,0,none⟩) 1 [exN 2] none 0 [] none 0 []] none 0 [],.mk 2 0 [99] (some ⟨g,0,none⟩) 1 [exA] none 0 [] none 0 []]
set_option maxRecDepth 100000 in
theorem one_i (w : World) : Calls Tryz.prog 18 #[] w fun e w'=>e=.returned (.slice (some ⟨w.heap.size + 1 + 1 + 1 + 1,0,none⟩) 3 3)∧Ls top w' (some ⟨w.heap.size + 1 + 1 + 1 + 1,0,none⟩) 3 (oneL w.heap.size)∧Below w.heap.size w w':=by
 go_enter Tryz.func18,Tryz.ntmps18
 go_wp2_with fail
 refine (number_i 1 _).mono ?_
 rintro e w2 ⟨rfl,rfl⟩
 go_wp2_with fail
 refine (number_i 2 _).mono ?_
 rintro e w3 ⟨rfl,rfl⟩
 go_wp2_with fail
 go_ret
 refine ⟨rfl,?_⟩
 obtain ⟨V1,h1⟩ : ∃ V,w.alloc (.cells #[.int .i64 3,.int .i64 0,.int .i64 0,.string ⟨#[97]⟩,.slice none 0 0] 68)=V:=⟨_,rfl⟩
 have r1 : Sk.Rd exE V1 (some ⟨w.heap.size,0,none⟩) 1 [exA]:=h1 ▸ Sk.rd_lit (enc:=exE) w 68 [exA] _ rfl 1 rfl
 obtain ⟨_,s1,b1⟩:=made h1
 rw [h1]
 obtain ⟨V2,h2⟩ : ∃ V,V1.alloc (.cells #[.int .i64 1,.int .i64 0,.int .i64 1,.string ⟨#[]⟩,.slice none 0 0] 68)=V:=⟨_,rfl⟩
 have r2 : Sk.Rd exE V2 (some ⟨V1.heap.size,0,none⟩) 1 [exN 1]:=h2 ▸ Sk.rd_lit (enc:=exE) V1 68 [exN 1] _ rfl 1 rfl
 obtain ⟨_,s2,b2⟩:=made h2
 rw [h2]
 obtain ⟨V3,h3⟩ : ∃ V,V2.alloc (.cells #[.int .i64 1,.int .i64 0,.int .i64 2,.string ⟨#[]⟩,.slice none 0 0] 68)=V:=⟨_,rfl⟩
 have r3 : Sk.Rd exE V3 (some ⟨V2.heap.size,0,none⟩) 1 [exN 2]:=h3 ▸ Sk.rd_lit (enc:=exE) V2 68 [exN 2] _ rfl 1 rfl
 obtain ⟨_,s3,b3⟩:=made h3
 rw [h3]
 obtain ⟨V4,h4⟩ : ∃ V,V3.alloc (.cells #[.int .i64 2,.int .i64 0,.string ⟨#[98]⟩,.slice (some ⟨w.heap.size + 1 + 1,0,none⟩) 1 1,.slice none 0 0,.slice none 0 0] 65)=V:=⟨_,rfl⟩
 have r4 : Sk.Rd stE V4 (some ⟨V3.heap.size,0,none⟩) 1 [.mk 2 0 [98] (some ⟨w.heap.size + 1 + 1,0,none⟩) 1 [exN 2] none 0 [] none 0 []]:=h4 ▸ Sk.rd_lit (enc:=stE) V3 65 [.mk 2 0 [98] (some ⟨w.heap.size + 1 + 1,0,none⟩) 1 [exN 2] none 0 [] none 0 []] _ rfl 1 rfl
 obtain ⟨_,s4,b4⟩:=made h4
 rw [h4]
 obtain ⟨V5,h5⟩ : ∃ V,V4.alloc (.cells #[.int .i64 2,.int .i64 0,.string ⟨#[97]⟩,.slice (some ⟨w.heap.size + 1,0,none⟩) 1 1,.slice none 0 0,.slice none 0 0,.int .i64 9,.int .i64 0,.string ⟨#[]⟩,.slice (some ⟨w.heap.size,0,none⟩) 1 1,.slice (some ⟨w.heap.size + 1 + 1 + 1,0,none⟩) 1 1,.slice none 0 0,.int .i64 2,.int .i64 0,.string ⟨#[99]⟩,.slice (some ⟨w.heap.size,0,none⟩) 1 1,.slice none 0 0,.slice none 0 0] 65)=V:=⟨_,rfl⟩
 have r5 : Sk.Rd stE V5 (some ⟨V4.heap.size,0,none⟩) 3 (oneL w.heap.size):=h5 ▸ Sk.rd_lit (enc:=stE) V4 65 (oneL w.heap.size) _ rfl 3 rfl
 obtain ⟨_,s5,b5⟩:=made h5
 rw [h5]
 rw [s1] at r2 s2
 rw [s2] at r3 s3
 rw [s3] at r4 s4
 rw [s4] at r5
 have k1:=(((r1.below b2).below b3).below b4).below b5
 have k2:=((r2.below b3).below b4).below b5
 have k3:=(r3.below b4).below b5
 have k4:=r4.below b5
 have sl : ∀ {α : Type} {enc : α→List Value} {a : Addr} {n : Nat} {l : List α},n=l.length→n≤3→Sk.Rd enc V5 (some a) n l→Sl enc top V5 (some a) n l:=fun {α enc a n l} hn h3 h=>⟨by omega,by unfold maxLen;omega,hn ▸ h,fun _ _ _=>trivial⟩
 have xA : RdX top V5 exA:=.mk (Sl.nil _) (fun _ h=>by cases h)
 have x1 : RdX top V5 (exN 1):=.mk (Sl.nil _) (fun _ h=>by cases h)
 have x2 : RdX top V5 (exN 2):=.mk (Sl.nil _) (fun _ h=>by cases h)
 have on : ∀ {α : Type} {R : α→Prop} {x : α},R x→∀ y ∈ [x],R y:=fun {α R x} h y hy=>by rw [List.mem_singleton] at hy;rw [hy];exact h
 have no : ∀ {α : Type} {R : α→Prop},∀ y ∈ ([] : List α),R y:=fun {α R} y hy=>by cases hy
 have sb : RdS top V5 (.mk 2 0 [98] (some ⟨w.heap.size + 1 + 1,0,none⟩) 1 [exN 2] none 0 [] none 0 []):=.mk (sl rfl (by omega) k3) (on x2) (Sl.nil _) no (Sl.nil _) no
 refine ⟨⟨sl rfl (by omega) r5,fun y hy=>?_⟩,b1.trans ((b2.mono (by omega)).trans ((b3.mono (by omega)).trans ((b4.mono (by omega)).trans (b5.mono (by omega)))))⟩
 simp only [oneL,List.mem_cons,List.not_mem_nil,or_false] at hy
 rcases hy with rfl | rfl | rfl
 ·exact .mk (sl rfl (by omega) k2) (on x1) (Sl.nil _) no (Sl.nil _) no
 ·exact .mk (sl rfl (by omega) k1) (on xA) (sl rfl (by omega) k4) (on sb) (Sl.nil _) no
 ·exact .mk (sl rfl (by omega) k1) (on xA) (Sl.nil _) no (Sl.nil _) no
theorem lg_all {α : Type} {enc : α→List Value} {R : (Nat→Prop)→World→α→Prop} {k : Nat} {K : Nat→Prop} {w : World} {A : Option Addr} {c : Nat} {l : List α} (hk : ∀ x,(enc x).length=k) (h : Lg enc R K w A c l) (h0 : 0 < l.length) :
  ∃ b o,A=some ⟨b,o,none⟩∧b < w.heap.size∧∀ (i : Nat) (x : α),l[i]?=some x→∀ j u,(enc x)[j]?=some u→w.cell? ⟨b,o + i * k + j,none⟩=some u:=by
 obtain ⟨b,o,e,hb,_⟩:=Lg.at_ hk h h0
 refine ⟨b,o,e,hb,fun i x hx j u hu=>?_⟩
 obtain ⟨hi,rfl⟩:=List.getElem?_eq_some_iff.1 hx
 obtain ⟨b2,o2,e2,_,hc⟩:=Lg.at_ hk h hi
 rw [e] at e2
 injection e2 with e2
 injection e2 with e2 e3
 subst e2 e3
 exact hc j u hu
def bndL : List Ps:=[.mk 2 0 [] [.mk 1 0 1 [] []] [] [],.mk 9 0 [] [.mk 15 0 0 [] []] [.mk 2 1 [] [.mk 1 0 2 [] []] [] []] [],.mk 2 2 [] [.mk 15 0 0 [] []] [] []]
def oneP : List Ps:=[.mk 2 0 [97] [.mk 1 0 1 [] []] [] [],.mk 9 0 [] [.mk 3 0 0 [97] []] [.mk 2 0 [98] [.mk 1 0 2 [] []] [] []] [],.mk 2 0 [99] [.mk 3 0 0 [97] []] [] []]
theorem one_p (g : Nat) : stPs (oneL g)=oneP:=by simp [oneL,oneP,stPs,St.p,exPs,exA,exN,Ex.p]
theorem one_bnd (g : Nat) : (rowI [] [] [] (stPs (oneL g))).1=bndL:=by rw [one_p];simp [oneP,bndL,rowI,stI,bindEs,bindE,exI,kd,nm,ext,BindP.blank,place]
theorem one_nB (g : Nat) : nB (stPs (oneL g))≤100:=by rw [one_p];simp [oneP,nB,nS,nE,nEs]
theorem st3 {l : List St} {a b c : Ps} (h : stPs l=[a,b,c]) : ∃ x y z,l=[x,y,z]∧x.p=a∧y.p=b∧z.p=c:=by
 match l,h with
 | [x,y,z],h=>
  simp only [stPs,List.cons.injEq,and_true] at h
  exact ⟨x,y,z,rfl,h⟩
theorem st1 {l : List St} {a : Ps} (h : stPs l=[a]) : ∃ x,l=[x]∧x.p=a:=by
 match l,h with
 | [x],h=>
  simp only [stPs,List.cons.injEq,and_true] at h
  exact ⟨x,rfl,h⟩
theorem ex1 {l : List Ex} {a : Pe} (h : exPs l=[a]) : ∃ x,l=[x]∧x.p=a:=by
 match l,h with
 | [x],h=>
  simp only [exPs,List.cons.injEq,and_true] at h
  exact ⟨x,rfl,h⟩
def talO : Ob:=⟨[104,97,108,108],[72,97,108,108],[],[],true,⟨none,0,[]⟩,⟨none,0,[]⟩,⟨none,0,[]⟩,⟨none,0,[]⟩,⟨none,0,[]⟩⟩
def talS (g : Nat) : So:=⟨[84,97,108,101],[84,97,108,101],[],0,0,⟨none,0,[]⟩,⟨none,0,[]⟩,⟨none,0,[]⟩,⟨some ⟨g,0,none⟩,1,[talO]⟩,⟨none,0,[]⟩,⟨none,0,[]⟩,⟨none,0,[]⟩,⟨none,0,[]⟩⟩
theorem tal_adds (g : Nat) : (adds (talS g)).foldl wth []=[[84,97,108,101],you,[72,97,108,108]]:=by rfl
theorem tal_m (g : Nat) : So.m (talS g)≤1048576:=by simp [talS,So.m,talO,Ob.m]
set_option maxRecDepth 100000 in
set_option maxHeartbeats 8000000 in
theorem awake_i (w : World) : Calls Tryz.prog 6 #[] w fun e w'=>e=.returned (.bool true)∧Below w.heap.size w w':=by
 go_enter Tryz.func6,Tryz.ntmps6
 go_wp2_with fail
 refine (one_i w).mono ?_
 rintro e w1 ⟨rfl,hl,hb1⟩
 have HB1:=hI hb1
 have HL:=hI hl
 clear hl hb1
 go_wp2_with fail
 refine (block_i [] (fun i j x y _ h=>by simp at h) [] [] none none none (some ⟨w.heap.size + 1 + 1 + 1 + 1,0,none⟩) 0 0 0 0 0 0 3 (oneL w.heap.size) w1 ⟨Sk.Rd.nil _ _,Sq.Rd.nil _ _,Sq.Rd.nil _ _,by omega,by omega,by omega⟩ HL.out (by have:=one_nB w.heap.size;omega) (by have:=one_nB w.heap.size;simp;omega)).mono ?_
 rintro e w2 ⟨A,c,l,rfl,hp,hls,hb⟩
 rw [one_bnd] at hp
 obtain ⟨x,y,z,rfl,hx,hy,hz⟩:=st3 hp
 have HB2:=hI (HB1.out.trans (hb.mono HB1.out.size))
 clear hb hp
 obtain ⟨b,o,rfl,hb,hc⟩:=lg_all stE_len hls (by simp)
 obtain ⟨xk,xn,xs,xA,xc,xa,xB,xd,xb,xE,xf,xe⟩:=x
 obtain ⟨yk,yn,ys,yA,yc,ya,yB,yd,yb,yE,yf,ye⟩:=y
 obtain ⟨zk,zn,zs,zA,zc,za,zB,zd,zb,zE,zf,ze⟩:=z
 simp only [St.p,Ps.mk.injEq] at hx hy hz
 obtain ⟨rfl,rfl,rfl,hxa,hxb,hxe⟩:=hx
 obtain ⟨rfl,rfl,rfl,hya,hyb,hye⟩:=hy
 obtain ⟨rfl,rfl,rfl,hza,hzb,hze⟩:=hz
 obtain ⟨yb0,rfl,hyb0⟩:=st1 hyb
 obtain ⟨za0,rfl,hza0⟩:=ex1 hza
 have hry:=(hls.2 _ (List.mem_cons_of_mem _ (List.mem_cons_self ..))).open_
 have hrz:=(hls.2 _ (List.mem_cons_of_mem _ (List.mem_cons_of_mem _ (List.mem_cons_self ..)))).open_
 obtain ⟨b2,o2,rfl,hb2,hc2⟩:=lg_all stE_len (show Ls _ _ yB yd [yb0] from hry.2.1) (by simp)
 obtain ⟨b3,o3,rfl,hb3,hc3⟩:=lg_all exE_len (show Lx _ _ zA zc [za0] from hrz.1) (by simp)
 obtain ⟨wk,wn,ws,wA,wc,wa,wB,wd,wb,wE,wf,we⟩:=yb0
 simp only [St.p,Ps.mk.injEq] at hyb0
 obtain ⟨rfl,rfl,rfl,_,_,_⟩:=hyb0
 have HZ0:=hI (show RdX top w2 za0 from RdX.keep (Keep.weak fun _ _ _=>trivial) (hrz.1.2 _ (List.mem_cons_self ..)))
 have HZP:=hI hza0
 obtain ⟨vk,vo,vn,vs,vA,vc,va⟩:=za0
 simp only [Ex.p,Pe.mk.injEq] at hza0
 obtain ⟨rfl,rfl,rfl,rfl,hva⟩:=hza0
 have e0 : va=[]:=by cases va with | nil=>rfl | cons a l=>simp [exPs] at hva
 subst e0
 have HC:=hI hc
 have HC2:=hI hc2
 have HC3:=hI hc3
 clear hc hc2 hc3 hxa hxb hxe hya hyb hye hza hzb hze hva hry hrz hls
 have HFC:=hI (show ∀ u,Below w2.heap.size w2 u→u.cell? ⟨b,o + 1,none⟩=some (.int .i64 0)∧u.cell? ⟨b,o + 6 + 4,none⟩=some (.slice (some ⟨b2,o2,none⟩) 1 yd)∧u.cell? ⟨b2,o2 + 1,none⟩=some (.int .i64 1)∧u.cell? ⟨b,o + 12 + 1,none⟩=some (.int .i64 2)∧u.cell? ⟨b,o + 12 + 3,none⟩=some (.slice (some ⟨b3,o3,none⟩) 1 zc) ∧
   u.cell? ⟨b3,o3,none⟩=some (.int .i64 15)∧u.cell? ⟨b3,o3 + 1,none⟩=some (.int .i64 0)∧u.cell? ⟨b3,o3 + 2,none⟩=some (.int .i64 0)∧u.cell? ⟨b3,o3 + 3,none⟩=some (.string ⟨#[]⟩)∧u.cell? ⟨b3,o3 + 4,none⟩=some (.slice vA 0 vc) from fun u hu=>
  ⟨(hu.cell (p:=⟨b,_,none⟩) hb).trans (by simpa using HC.out 0 _ rfl 1 _ rfl),(hu.cell (p:=⟨b,_,none⟩) hb).trans (by simpa using HC.out 1 _ rfl 4 _ rfl),(hu.cell (p:=⟨b2,_,none⟩) hb2).trans (by simpa using HC2.out 0 _ rfl 1 _ rfl),(hu.cell (p:=⟨b,_,none⟩) hb).trans (by simpa using HC.out 2 _ rfl 1 _ rfl),(hu.cell (p:=⟨b,_,none⟩) hb).trans (by simpa using HC.out 2 _ rfl 3 _ rfl),
   (hu.cell (p:=⟨b3,_,none⟩) hb3).trans (by simpa using HC3.out 0 _ rfl 0 _ rfl),(hu.cell (p:=⟨b3,_,none⟩) hb3).trans (by simpa using HC3.out 0 _ rfl 1 _ rfl),(hu.cell (p:=⟨b3,_,none⟩) hb3).trans (by simpa using HC3.out 0 _ rfl 2 _ rfl),(hu.cell (p:=⟨b3,_,none⟩) hb3).trans (by simpa [sv,str] using HC3.out 0 _ rfl 3 _ rfl),(hu.cell (p:=⟨b3,_,none⟩) hb3).trans (by simpa using HC3.out 0 _ rfl 4 _ rfl)⟩)
 go_upto_region 3 with fail
 obtain ⟨V1,h1⟩ : ∃ V,w2.alloc (.cells #[.string ⟨#[104,97,108,108]⟩,.string ⟨#[72,97,108,108]⟩,.string ⟨#[]⟩,.string ⟨#[]⟩,.bool true,.slice none 0 0,.slice none 0 0,.slice none 0 0,.slice none 0 0,.slice none 0 0] 63)=V:=⟨_,rfl⟩
 obtain ⟨m1,s1,q1⟩:=made h1
 obtain ⟨V2,h2⟩ : ∃ V,V1.alloc (.cells #[.string ⟨#[84,97,108,101]⟩,.string ⟨#[84,97,108,101]⟩,.string ⟨#[]⟩,.int .i64 0,.int .i64 0,.slice none 0 0,.slice none 0 0,.slice none 0 0,.slice (some ⟨w2.heap.size,0,none⟩) 1 1,.slice none 0 0,.slice none 0 0,.slice none 0 0,.slice none 0 0] 29)=V:=⟨_,rfl⟩
 obtain ⟨m2,s2,q2⟩:=made h2
 have hob : Sk.Rd Ob.e V1 (some ⟨w2.heap.size,0,none⟩) 1 [talO]:=h1 ▸ Sk.rd_lit (enc:=Ob.e) w2 63 [talO] _ rfl 1 rfl
 have HOB:=hI (hob.below q2)
 have HV2:=hI (show Below w2.heap.size w2 V2 from q1.trans (q2.mono (by omega)))
 have HM2:=hI m2
 obtain ⟨c0,c1,c2,c3,c4,c5,c6,c7,c8,c9⟩:=HFC.out _ HV2.out
 obtain ⟨x0,x1,x2,x3,x4,x5,x6,x7,x8,x9,x10,x11,x12,xf⟩:=cellz13 m2
 obtain ⟨pv,hpv⟩ : ∃ q,V1.heap.size=q:=⟨_,rfl⟩
 have HPV:=hI hpv
 rw [show w2.heap.size + 1=V1.heap.size from s1.symm,hpv]
 rw [h1,h2]
 rw [hpv] at x0 x1 x2 x3 x4 x5 x6 x7 x8 x9 x10 x11 x12
 clear s1 s2 q1 q2 m1 m2 hob h1 h2 hpv
 go_wp2_with fail
 refine (same_t (.mk 15 0 0 [] vA vc []) (.mk 15 0 0 [] none 0 []) V2 (HZ0.out.keep (Keep.below HV2.out)) (.mk (Sl.nil _) (fun _ h=>by cases h)) (by simp [Ex.p,exPs]) (by simp [Ex.p,exPs,nE,nEs])).mono ?_
 rintro e w5 ⟨rfl,hb5⟩
 have HB5:=hI hb5
 have HX5:=hI ((hb5.block _ (Array.getElem?_eq_some_iff.1 HM2.out).1).trans HM2.out)
 clear hb5 c0 c1 c2 c3 c4 c5 c6 c7 c8 c9 x0 x1 x2 x3 x4 x5 x6 x7 x8 x9 x10 x11 x12 xf
 obtain ⟨x0,x1,x2,x3,x4,x5,x6,x7,x8,x9,x10,x11,x12,xf⟩:=cellz13 HX5.out
 rw [HPV.out] at x0 x1 x2 x3 x4 x5 x6 x7 x8 x9 x10 x11 x12
 go_wp2_with fail
 have HOB5:=hI (HOB.out.below HB5.out)
 refine (texts_i (talS w2.heap.size) w5 ⟨Lg.nil _,Lg.nil _,Lg.nil _,⟨⟨by simp [talS],by simp [talS,maxLen],HOB5.out,fun _ _ _=>trivial⟩,fun y hy=>?_⟩,Lg.nil _,Lg.nil _,Lg.nil _,Lg.nil _⟩ (tal_m _)).mono ?_
 ·simp only [talS,List.mem_singleton] at hy
  subst hy
  exact ⟨Lg.nil _,Lg.nil _,Lg.nil _,Lg.nil _,Lg.nil _⟩
 rintro e w6 ⟨A6,c6,rfl,hr6,hb6⟩
 rw [tal_adds] at hr6 ⊢
 have HR6:=hI hr6
 have HB6:=hI hb6
 clear hr6 hb6 x0 x1 x2 x3 x4 x5 x6 x7 x8 x9 x10 x11 x12 xf
 go_wp2_with fail
 obtain ⟨V7,h7⟩ : ∃ V,w6.alloc (.cells #[.string ⟨#[84,97,108,101]⟩,.string ⟨#[121,111,117,114,115,101,108,102]⟩,.string ⟨#[72,97,108,108]⟩] 9)=V:=⟨_,rfl⟩
 have r7 : Sq.Rd sv V7 (some ⟨w6.heap.size,0,none⟩) 3 [[84,97,108,101],you,[72,97,108,108]]:=h7 ▸ Sq.rd_lit (enc:=sv) w6 9 [[84,97,108,101],you,[72,97,108,108]] _ rfl 3 rfl
 obtain ⟨_,s7,q7⟩:=made h7
 have HB7:=hI (show Below w.heap.size w V7 from HB2.out.trans ((HV2.out.trans ((HB5.out.trans ((HB6.out.trans (q7.mono HB6.out.size)).mono HB5.out.size)).mono HV2.out.size)).mono HB2.out.size))
 rw [h7]
 have h6:=HR6.out.below q7
 clear s7 q7 h7
 refine (sameTexts_t (n:=3) [[84,97,108,101],you,[72,97,108,108]] V7 h6 r7 (by omega)).mono ?_
 rintro e w8 ⟨rfl,hb8⟩
 have HB8:=hI (HB7.out.trans (hb8.mono HB7.out.size))
 clear hb8 r7 h6
 go_wp2_with fail
 go_ret
 exact ⟨rfl,HB8.out⟩
end Go.Proofs.YteibcfpepdbflaaGreat.TxL
namespace Go.Proofs.YteibcfpepdbflaaGreat.Law
open Go Go.RowKit Go.ChangeShapes Go.WideShapes Go.ChangeAt
theorem trodAll_below {H : Type} {enc : TypeId × Value→H} {P : Program} (hl : laidOutB P=true) {W W' : World} (hb : Below W.heap.size W W') :
  ∀ {ts : List TypeId} {vs : List Value} {ds : List (DataW H)} {ps : List MemPlace},(ts.all fun t=>P.readableRec t && decide (t < P.types.size))=true →
   DataW.TrodAll enc P W 0 (fun _=>true) true ts vs ds ps→(∀ x ∈ ps,x.block < W.heap.size) →
   DataW.TrodAll enc P W' 0 (fun b=>decide (b < W.heap.size)) true ts vs ds ps
 | [],_,_,_,_,h,_=>by
  obtain ⟨rfl,rfl,rfl⟩:=trodAll_nil h
  exact trodAll_mk0
 | t :: ts,_,_,_,hr,h,hlt=>by
  obtain ⟨v,vs,d,ds,p,q,rfl,rfl,rfl,h0,h1⟩:=trodAll_cons h
  simp only [List.all_cons,Bool.and_eq_true,decide_eq_true_eq] at hr
  exact trodAll_cons_mk (hb.trod hl hr.1.1 hr.1.2 h0 (fun x hx=>hlt x (List.mem_append_left _ hx)))
   (trodAll_below hl hb hr.2 h1 (fun x hx=>hlt x (List.mem_append_right _ hx)))
theorem post {H : Type} {enc : TypeId × Value→H} {P : Program} {fn : Func} {s : ChangeSpec} {W W' : World} {args : Array Value} {ds gs : List (DataW H)} {before : List MemPlace} {tb : TypeId}
  (hl : laidOutB P=true) (hr : (fn.params.toList.all fun t=>P.readableRec t && decide (t < P.types.size))=true) (ub : P.underlying tb=some .bool)
  (hres : fn.resultTypes=#[tb]) (hv : s.vars=[])
  (hW : DataW.Whole enc P fn.params.toList s.vars false W args.toList ds gs before) (hb : Below W.heap.size W W')
  (hs : (s.fn H ds).results=[.lit (.bool true)]∧(s.fn H ds).args=ds∧(s.fn H ds).vars=[]) : s.post enc P fn false true false false W args (.bool true) W':=by
 have hW0:=hW
 have hlt:=fun x hx=>hW0.lt x hx
 obtain ⟨p,q,hA,hV,rfl,hfz,hnd⟩:=hW
 rw [hv] at hV
 obtain ⟨rfl,rfl⟩:=trodVars_none hV
 simp only [List.append_nil] at hlt
 have e : ds ++ []=ds:=List.append_nil ds
 refine ⟨ds,[],p ++ [],[],p,[],hW0,?_,?_,?_,hb.frame _,fun h=>by cases h⟩
 ·rw [e,hs.1,hres]
  exact trodAll_mk1 (shut_bool ub true)
 ·rw [e,hs.2.1]
  exact trodAll_below hl hb hr hA hlt
 ·rw [e,hs.2.2,hv]
  exact rfl
end Go.Proofs.YteibcfpepdbflaaGreat.Law
namespace Go.Proofs.YteibcfpepdbflaaGreat.LawS
open Go Go.RowKit Go.ChangeShapes Go.WideShapes Go.ChangeAt BindP BindD BindO
open Byt (str)
section
variable {H : Type} {enc : TypeId × Value→H} {w : World} {base : Nat} {spare : Nat→Bool} {held : Bool}
set_option maxRecDepth 100000 in
theorem open_source {r : Reach} {b0 : Nat} {v : Value} {d : DataW H} {p : List MemPlace} (hv : Value.okWide Tryz.prog w r b0 29 v) (h : DataW.Trod enc Tryz.prog w base spare held 29 v d p) :
  ∃ t : So,v=.agg (So.e t).toArray∧So.R top w t∧So.m t≤Rows.uptoBulk d:=by
 obtain ⟨cs,rfl,hsz⟩:=okWide_struct Tryz.underlying29 hv
 obtain ⟨fuel,hf⟩:=h
 obtain ⟨l⟩:=cs
 obtain ⟨t,rfl,hr,hm⟩:=source_of (hsz.trans cells_source) hf
 exact ⟨t,rfl,hr,hm⟩
end
end Go.Proofs.YteibcfpepdbflaaGreat.LawS
