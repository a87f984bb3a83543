/- An api.Source among the arguments of a law: how it is opened. -/
import Derived.Test.YteibcfpepdbflaaBkJ
import Derived.Test.YteibcfpepdbflaaCkD
import Derived.Test.YteibcfpepdbflaaBindF
import Derived.Test.YteibcfpepdbflaaTxL
import Derived.Test.YteibcfpepdbflaaRows
import Derived.WalkKit
import Derived.ProofKit
import Derived.OpenShut
import Derived.Handy
import Derived.Test.YteibcfpepdbflaaBindO
import Derived.JoinedCond
namespace Go.Proofs.Yteibcfpepdbflaa.BnS
open Go Go.RowKit Go.ChangeShapes Go.WideShapes Go.ChangeAt BindP BindD BindO BindW BindN BindG BindX BindB BindT BindU BkB BkD BkE BkG BkI BkK BkJ RtX RtF TxA TxL MkP MkA MkC CkP CkA CkE CkM CkN BnP BnQ BnR BkL
open Byt (str)
noncomputable def bodyN : Code:=Try.f5.body.getD .skip
theorem cells15 {w : World} {g : Nat} {x0 x1 x2 x3 x4 x5 x6 x7 x8 x9 x10 x11 x12 x13 x14 : Value} {t : TypeId} (h : w.heap[g]?=some (.cells #[x0,x1,x2,x3,x4,x5,x6,x7,x8,x9,x10,x11,x12,x13,x14] t (0,0))) : w.cell? ⟨g,0,none⟩=some x0∧w.cell? ⟨g,1,none⟩=some x1∧w.cell? ⟨g,2,none⟩=some x2∧w.cell? ⟨g,3,none⟩=some x3∧w.cell? ⟨g,4,none⟩=some x4∧w.cell? ⟨g,5,none⟩=some x5∧w.cell? ⟨g,6,none⟩=some x6∧w.cell? ⟨g,7,none⟩=some x7∧w.cell? ⟨g,8,none⟩=some x8∧w.cell? ⟨g,9,none⟩=some x9∧w.cell? ⟨g,10,none⟩=some x10∧w.cell? ⟨g,11,none⟩=some x11∧w.cell? ⟨g,12,none⟩=some x12∧w.cell? ⟨g,13,none⟩=some x13∧w.cell? ⟨g,14,none⟩=some x14∧∀ o,w.frozen? ⟨g,o,none⟩=false:=by
 refine ⟨by simp [World.cell?,h],by simp [World.cell?,h],by simp [World.cell?,h],by simp [World.cell?,h],by simp [World.cell?,h],by simp [World.cell?,h],by simp [World.cell?,h],by simp [World.cell?,h],by simp [World.cell?,h],by simp [World.cell?,h],by simp [World.cell?,h],by simp [World.cell?,h],by simp [World.cell?,h],by simp [World.cell?,h],by simp [World.cell?,h],fun o=>by simp [World.frozen?,h]⟩
structure CnR (w w5 : World) (p0 tb : Nat) (T : List Nm) (A1 : Option Addr) (n1 : Nat) (s0 s1 s2 s3 s4 s5 s6 s7 s9 s10 s12 a0 a1 a2 a3 a5 a6 a7 a9 a10 a12 a14 : Value) (oA nA xA thA fuA paA : Option Addr) (oc nc xc thc fuc pac ntx nth_ npa : Nat) (ob : List Ob) (fn : List BindO.Fn) (xl : List S) (thl : List Th) (ful pal : List Int) : Prop where
 src : ∀ U,Below w5.heap.size w5 U→U.heap[p0]?=some (.cells #[s0,s1,s2,s3,s4,s5,s6,s7,.slice oA ob.length oc,s9,s10,.slice nA fn.length nc,s12] 29 (0,0))
 tab : ∀ U,Below w5.heap.size w5 U→U.heap[tb]?=some (.cells #[a0,a1,a2,a3,.slice xA ntx xc,a5,a6,a7,.slice thA nth_ thc,a9,a10,.slice fuA fn.length fuc,a12,.slice paA npa pac,a14] 57 (0,0))
 rt : ∀ U,Below w5.heap.size w5 U→Sk.Rd nmE U A1 n1 T
 n1 : n1≤1048580
 aw : ∀ U,Below w5.heap.size w5 U→Calls Try.prog 7 #[] U fun e w'=>e=.returned (.bool true)∧Below w.heap.size w w'
 ro : ∀ U,Below w5.heap.size w5 U→Lg Ob.e Ob.R top U oA oc ob∧Lg BindO.Fn.e BindO.Fn.R top U nA nc fn
 rd : ∀ U,Below w5.heap.size w5 U→Sq.Rd sv U xA xl.length xl∧Lg thE ThR top U thA thc thl∧Lg inE RtI top U fuA fuc ful∧Lg inE RtI top U paA pac pal
 lo : ∀ j (hj : j < ob.length),(ofN T 4 ob[j].nm=(j : Int) + 2∧errN T 4 ob[j].nm=0)∧(ob[j].inn ≠ []→errN T 4 ob[j].inn=0)∧∃ (x : Th) (i : Nat),thl[j + 2]?=some x∧x.ti=(i : Int)∧xl[i]?=some ob[j].ti∧x.ro=ob[j].room∧x.pa=(if ob[j].inn=[] then 0 else ofN T 4 ob[j].inn)∧x.wy.l.length=ob[j].xt.l.length
 lf : ∀ j (hj : j < fn.length),(ofN T 6 fn[j].nm=(j : Int) + 0∧errN T 6 fn[j].nm=0)∧∃ k : Nat,ful[j]?=some (k : Int)∧pal[k]?=some (fn[j].ps.l.length : Int)
 nn : xl.length=ntx∧thl.length=nth_∧ful.length=fn.length∧pal.length=npa
 z : ob.length≤1048576∧fn.length≤1048576∧(fn.map BindO.Fn.m).sum≤1048576
set_option maxRecDepth 100000 in
set_option maxHeartbeats 64000000 in
theorem tail7 {w w5 : World} {p0 tb : Nat} {T : List Nm} {A1 : Option Addr} {n1 c1 : Nat} {s0 s1 s2 s3 s4 s5 s6 s7 s9 s10 s12 a0 a1 a2 a3 a5 a6 a7 a9 a10 a12 a14 : Value} {oA nA xA thA fuA paA : Option Addr} {oc nc xc thc fuc pac ntx nth_ npa : Nat} {ob : List Ob} {fn : List BindO.Fn} {xl : List S} {thl : List Th} {ful pal : List Int}
  (C : Hid (CnR w w5 p0 tb T A1 n1 s0 s1 s2 s3 s4 s5 s6 s7 s9 s10 s12 a0 a1 a2 a3 a5 a6 a7 a9 a10 a12 a14 oA nA xA thA fuA paA oc nc xc thc fuc pac ntx nth_ npa ob fn xl thl ful pal)) {wq : World} (HB : Hid (Below w5.heap.size w5 wq)) {v0 v2 v4 v5 v7 v8 v9 v10 v11 v12 v13 v14 v15 v16 v17 v18 v19 v20 v21 v22 v23 v24 v25 v26 v27 v28 v29 v30 v31 v32 v33 v34 v35 v36 v37 v38 v39 v40 v41 v42 v43 v44 v45 v46 v47 v48 v49 v50 v51 v52 v53 v54 v55 v56 v57 v58 v59 v60 v61 v62 v63 v64 v65 v66 v67 v68 v69 v70 v71 v72 v73 v74 v75 v76 v77 v78 v79 v80 v81 v82 v83 v84 v85 v86 v87 v88 v89 v90 v91 v92 v93 v94 v95 v96 v97 v98 v99 v100 v101 v102 v103 v104 v105 v106 v107 v108 v109 v110 v111 v112 v113 v114 v115 v116 v117 v118 v119 v120 v121 v122 v123 v124 v125 v126 v127 v128 v129 v130 v131 v132 v133 v134 v135 v136 v137 v138 v139 v140 v141 v142 v143 v144 v145 v146 v147 v148 v149 v150 v151 v152 v153 v154 v155 v156 v157 v158 v159 v160 v161 v162 v163 v164 v165 v166 v167 v168 v169 v170 v171 v172 v173 v174 v175 v176 v177 v178 v179 v180 v181 v182 v183 v184 v185 v186 v187 v188 v189 v190 v191 v192 v193 v194 v195 v196 v197 v198 v199 v200 v201 v202 v203 v204 v205 v206 v207 v208 v209 v210 v211 v212 v213 v214 v215 v216 v217 v218 v219 v220 v221 v222 v223 v224 v225 v226 v227 v228 : Value} : Code.wp Try.prog (nth 7 bodyN) (bodyPost Try.prog Try.f5 (fun e w'=>e=.returned (.bool true)∧Below w.heap.size w w')) ⟨#[v0,.pointer (some ⟨p0,0,none⟩),v2,.slice A1 n1 c1,v4,v5,.pointer (some ⟨tb,0,none⟩),v7,v8,v9,v10,v11,v12,v13,v14,v15,v16,v17,v18,v19,v20,v21,v22,v23,v24,v25,v26,v27,v28,v29,v30,v31,v32,v33,v34,v35,v36,v37,v38,v39,v40,v41,v42,v43,v44,v45,v46,v47,v48,v49,v50,v51,v52,v53,v54,v55,v56,v57,v58,v59,v60,v61,v62,v63,v64,v65,v66,v67,v68,v69,v70,v71,v72,v73,v74,v75,v76,v77,v78,v79,v80,v81,v82,v83,v84,v85,v86,v87,v88,v89,v90,v91,v92,v93,v94,v95,v96,v97,v98,v99,v100,v101,v102,v103,v104,v105,v106,v107,v108,v109,v110,v111,v112,v113,v114,v115,v116,v117,v118,v119,v120,v121,v122,v123,v124,v125,v126,v127,v128,v129,v130,v131,v132,v133,v134,v135,v136,v137,v138,v139,v140,v141,v142,v143,v144,v145,v146,v147,v148,v149,v150,v151,v152,v153,v154,v155,v156,v157,v158,v159,v160,v161,v162,v163,v164,v165,v166,v167,v168,v169,v170,v171,v172,v173,v174,v175,v176,v177,v178,v179,v180,v181,v182,v183,v184,v185,v186,v187,v188,v189,v190,v191,v192,v193,v194,v195,v196,v197,v198,v199,v200,v201,v202,v203,v204,v205,v206,v207,v208,v209,v210,v211,v212,v213,v214,v215,v216,v217,v218,v219,v220,v221,v222,v223,v224,v225,v226,v227,v228],[]⟩ wq:=by
 obtain ⟨x0,x1,x2,x3,x4,x5,x6,x7,x8,x9,x10,x11,x12,xf⟩:=cellz13 (C.out.src wq HB.out)
 have zN:=C.out.z.2.1
 conv=>arg 2;whnf
 refine seq_hid fun KK HKK=>?_
 go_wp2_with fail
 clear x0 x1 x2 x3 x4 x5 x6 x7 x8 x9 x10 x11 x12 xf
 go_loopw [169] (fun iv wr=>∃ j : Nat,j≤fn.length∧iv=.int .i64 (j : Int)∧Below w5.heap.size w5 wr) (fun iv _=>fn.length - (intOf iv).toNat)
 case atStart=>exact ⟨0,Nat.zero_le _,rfl,HB.out⟩
 case round=>
  clear HB
  obtain ⟨j,hj,rfl,hb⟩:=hrel
  have HB:=Lib.hid hb
  clear hb
  have k0 : (0 : Int)≤(j : Int):=by omega
  by_cases hlt : j < fn.length
  ·have k1 : (j : Int) < (fn.length : Int):=by omega
   obtain ⟨b,o,rfl,hbz,hc⟩:=Lg.at_ BindO.Fn.len (C.out.ro wr HB.out).2 hlt
   obtain ⟨⟨hn,he⟩,k,hk1,hk2⟩:=C.out.lf j hlt
   obtain ⟨⟨fnm,⟨fsA,fsc,fps⟩,⟨fbA,fbc,fbo⟩⟩,hy⟩ : ∃ y,fn[j]=y:=⟨_,rfl⟩
   simp only [hy] at hc hn he hk2
   rw [Int.add_zero] at hn
   have HN:=Lib.hid (And.intro hn he)
   have HKK:=Lib.hid (And.intro hk1 hk2)
   have zfp : fps.length≤1048576:=by
    have h1:=sum_mem (m:=BindO.Fn.m) fn _ (List.getElem_mem hlt)
    rw [hy] at h1
    have h2:=sum_len (m:=fun x : S=>x.length + 1) (fun _=>by omega) fps
    have h3:=C.out.z.2.2
    have h5 : BindO.Fn.m ⟨fnm,⟨fsA,fsc,fps⟩,⟨fbA,fbc,fbo⟩⟩=(fnm.length + 1) + ((fps.map fun x=>x.length + 1).sum + 1) + (nB (stPs fbo) + 1):=rfl
    rw [h5] at h1
    omega
   have e0 : wr.cell? ⟨b,o + j * 3,none⟩=some (.string (str fnm)):=hc 0 _ rfl
   have e1 : wr.cell? ⟨b,o + j * 3 + 1,none⟩=some (.slice fsA fps.length fsc):=hc 1 _ rfl
   have e2 : wr.cell? ⟨b,o + j * 3 + 2,none⟩=some (.slice fbA fbo.length fbc):=hc 2 _ rfl
   clear hc hn he hk1 hk2 hy hbz
   go_upto_region 23 with fail
   obtain ⟨w6,hw6⟩ : ∃ W,wr.alloc (.cells #[.string (str fnm),.slice fsA fps.length fsc,.slice fbA fbo.length fbc] 42)=W:=⟨_,rfl⟩
   obtain ⟨m6,s6,b6⟩:=made hw6
   rw [hw6]
   obtain ⟨pb,hpb⟩ : ∃ p,wr.heap.size=p:=⟨_,rfl⟩
   rw [hpb] at m6 ⊢
   have HB6:=Lib.hid (HB.out.trans (b6.mono HB.out.size))
   have HPB:=Lib.hid m6
   clear e0 e1 e2 hw6 s6 b6 hpb
   obtain ⟨z0,z1,z2,zf⟩:=cells3 m6
   clear m6
   go_wp2_with fail
   refine (of_r (c:=c1) T 6 fnm w6 (C.out.rt w6 HB6.out) (by have:=C.out.n1;omega)).mono ?_
   rintro e w7 ⟨rfl,hb⟩
   rw [HN.out.1,HN.out.2]
   have HB7:=Lib.hid (HB6.out.trans (hb.mono HB6.out.size))
   have m7:=(hb.block _ (Array.getElem?_eq_some_iff.1 HPB.out).1).trans HPB.out
   clear hb z0 z1 z2 zf
   obtain ⟨z0,z1,z2,zf⟩:=cells3 m7
   obtain ⟨-,-,hRf,hRp⟩:=C.out.rd w7 HB7.out
   obtain ⟨hk1,hk2⟩:=HKK.out
   have hjl : j < ful.length:=(List.getElem?_eq_some_iff.1 hk1).1
   have hkl : k < pal.length:=(List.getElem?_eq_some_iff.1 hk2).1
   have hkn : k < npa:=by have:=C.out.nn.2.2.2;omega
   obtain ⟨bf,of_,rfl,-,hcf⟩:=RtD.Lg.one (fun _=>rfl) hRf hjl
   obtain ⟨bp,op,rfl,-,hcp⟩:=RtD.Lg.one (fun _=>rfl) hRp hkl
   rw [(List.getElem?_eq_some_iff.1 hk1).2] at hcf
   rw [(List.getElem?_eq_some_iff.1 hk2).2] at hcp
   have cf0 : w7.cell? ⟨bf,of_ + j,none⟩=some (.int .i64 (k : Int)):=hcf _ rfl
   have cp0 : w7.cell? ⟨bp,op + k,none⟩=some (.int .i64 (fps.length : Int)):=hcp _ rfl
   have j2 : decide ((j : Int) < 0)=false:=decide_eq_false (by omega)
   have j3 : decide ((j : Int)≥(fn.length : Int))=false:=decide_eq_false (by omega)
   have i0 : (0 : Int)≤(k : Int):=by omega
   have i1 : (k : Int) < (npa : Int):=by omega
   have i2 : decide ((k : Int) < 0)=false:=decide_eq_false (by omega)
   have i3 : decide ((k : Int)≥(npa : Int))=false:=decide_eq_false (by omega)
   have j4 : decide (fn.length≤j)=false:=decide_eq_false (by omega)
   have i4 : decide (npa≤k)=false:=decide_eq_false (by omega)
   obtain ⟨y0,y1,y2,y3,y4,y5,y6,y7,y8,y9,y10,y11,y12,y13,y14,yf⟩:=cells15 (C.out.tab w7 HB7.out)
   clear hk1 hk2 hjl hkl hcf hcp hRf hRp m7
   go_wp2_with fail
   go_quiet (fail)
   go_wp2_with fail
   go_roundw
   case rel=>exact ⟨j + 1,by omega,by go_num,Sq.belowN HB7.out _⟩
   case measure=>simp [intOf];omega
  ·obtain rfl : j=fn.length:=by omega
   go_wp2_with fail
   refine HKK.out _ _ ?_
   go_wp2_with fail
   refine (C.out.aw wr HB.out).mono ?_
   rintro e w9 ⟨rfl,hb⟩
   have HB9:=Lib.hid hb
   clear hb
   go_wp2_with fail
   go_ret
   exact ⟨rfl,HB9.out⟩
end Go.Proofs.Yteibcfpepdbflaa.BnS
namespace Go.Proofs.Yteibcfpepdbflaa.BnT
open Go Go.RowKit Go.ChangeShapes Go.WideShapes Go.ChangeAt BindP BindD BindO BindW BindN BindG BindX BindB BindT BindU BkB BkD BkE BkG BkI BkK BkJ RtX RtF TxA TxL MkP MkA MkC CkP CkA CkE CkM CkN BnP BnQ BnR BkL BnS
open Byt (str)
set_option maxRecDepth 100000 in
set_option maxHeartbeats 64000000 in
theorem tail6 {w w5 : World} {p0 tb : Nat} {T : List Nm} {A1 : Option Addr} {n1 c1 : Nat} {s0 s1 s2 s3 s4 s5 s6 s7 s9 s10 s12 a0 a1 a2 a3 a5 a6 a7 a9 a10 a12 a14 : Value} {oA nA xA thA fuA paA : Option Addr} {oc nc xc thc fuc pac ntx nth_ npa : Nat} {ob : List Ob} {fn : List BindO.Fn} {xl : List S} {thl : List Th} {ful pal : List Int}
  (C : Hid (CnR w w5 p0 tb T A1 n1 s0 s1 s2 s3 s4 s5 s6 s7 s9 s10 s12 a0 a1 a2 a3 a5 a6 a7 a9 a10 a12 a14 oA nA xA thA fuA paA oc nc xc thc fuc pac ntx nth_ npa ob fn xl thl ful pal)) {wq : World} (HB : Hid (Below w5.heap.size w5 wq)) {v0 v2 v4 v5 v7 v8 v9 v10 v11 v12 v13 v14 v15 v16 v17 v18 v19 v20 v21 v22 v23 v24 v25 v26 v27 v28 v29 v30 v31 v32 v33 v34 v35 v36 v37 v38 v39 v40 v41 v42 v43 v44 v45 v46 v47 v48 v49 v50 v51 v52 v53 v54 v55 v56 v57 v58 v59 v60 v61 v62 v63 v64 v65 v66 v67 v68 v69 v70 v71 v72 v73 v74 v75 v76 v77 v78 v79 v80 v81 v82 v83 v84 v85 v86 v87 v88 v89 v90 v91 v92 v93 v94 v95 v96 v97 v98 v99 v100 v101 v102 v103 v104 v105 v106 v107 v108 v109 v110 v111 v112 v113 v114 v115 v116 v117 v118 v119 v120 v121 v122 v123 v124 v125 v126 v127 v128 v129 v130 v131 v132 v133 v134 v135 v136 v137 v138 v139 v140 v141 v142 v143 v144 v145 v146 v147 v148 v149 v150 v151 v152 v153 v154 v155 v156 v157 v158 v159 v160 v161 v162 v163 v164 v165 v166 v167 v168 v169 v170 v171 v172 v173 v174 v175 v176 v177 v178 v179 v180 v181 v182 v183 v184 v185 v186 v187 v188 v189 v190 v191 v192 v193 v194 v195 v196 v197 v198 v199 v200 v201 v202 v203 v204 v205 v206 v207 v208 v209 v210 v211 v212 v213 v214 v215 v216 v217 v218 v219 v220 v221 v222 v223 v224 v225 v226 v227 v228 : Value} : Code.wp Try.prog (nth 6 bodyN) (bodyPost Try.prog Try.f5 (fun e w'=>e=.returned (.bool true)∧Below w.heap.size w w')) ⟨#[v0,.pointer (some ⟨p0,0,none⟩),v2,.slice A1 n1 c1,v4,v5,.pointer (some ⟨tb,0,none⟩),v7,v8,v9,v10,v11,v12,v13,v14,v15,v16,v17,v18,v19,v20,v21,v22,v23,v24,v25,v26,v27,v28,v29,v30,v31,v32,v33,v34,v35,v36,v37,v38,v39,v40,v41,v42,v43,v44,v45,v46,v47,v48,v49,v50,v51,v52,v53,v54,v55,v56,v57,v58,v59,v60,v61,v62,v63,v64,v65,v66,v67,v68,v69,v70,v71,v72,v73,v74,v75,v76,v77,v78,v79,v80,v81,v82,v83,v84,v85,v86,v87,v88,v89,v90,v91,v92,v93,v94,v95,v96,v97,v98,v99,v100,v101,v102,v103,v104,v105,v106,v107,v108,v109,v110,v111,v112,v113,v114,v115,v116,v117,v118,v119,v120,v121,v122,v123,v124,v125,v126,v127,v128,v129,v130,v131,v132,v133,v134,v135,v136,v137,v138,v139,v140,v141,v142,v143,v144,v145,v146,v147,v148,v149,v150,v151,v152,v153,v154,v155,v156,v157,v158,v159,v160,v161,v162,v163,v164,v165,v166,v167,v168,v169,v170,v171,v172,v173,v174,v175,v176,v177,v178,v179,v180,v181,v182,v183,v184,v185,v186,v187,v188,v189,v190,v191,v192,v193,v194,v195,v196,v197,v198,v199,v200,v201,v202,v203,v204,v205,v206,v207,v208,v209,v210,v211,v212,v213,v214,v215,v216,v217,v218,v219,v220,v221,v222,v223,v224,v225,v226,v227,v228],[]⟩ wq:=by
 obtain ⟨x0,x1,x2,x3,x4,x5,x6,x7,x8,x9,x10,x11,x12,xf⟩:=cellz13 (C.out.src wq HB.out)
 have zO:=C.out.z.1
 conv=>arg 2;whnf
 refine seq_hid fun KK HKK=>?_
 go_wp2_with fail
 clear x0 x1 x2 x3 x4 x5 x6 x7 x8 x9 x10 x11 x12 xf
 go_loopw [59] (fun iv wr=>∃ j : Nat,j≤ob.length∧iv=.int .i64 (j : Int)∧Below w5.heap.size w5 wr) (fun iv _=>ob.length - (intOf iv).toNat)
 case atStart=>exact ⟨0,Nat.zero_le _,rfl,HB.out⟩
 case round=>
  clear HB
  obtain ⟨j,hj,rfl,hb⟩:=hrel
  have HB:=Lib.hid hb
  clear hb
  have k0 : (0 : Int)≤(j : Int):=by omega
  by_cases hlt : j < ob.length
  ·have k1 : (j : Int) < (ob.length : Int):=by omega
   obtain ⟨b,o,rfl,hbz,hc⟩:=Lg.at_ Ob.len (C.out.ro wr HB.out).1 hlt
   obtain ⟨⟨hn,he⟩,hin,x,i,hx,hti,htx,hro,hpa,hwy⟩:=C.out.lo j hlt
   obtain ⟨⟨onm,oti,inn,ott,room,⟨Aw,cw,wl⟩,⟨Aa,ca,al⟩,⟨Af,cf,fol⟩,⟨Ap,cp,prl_⟩,⟨Ax,cx,exl⟩⟩,hy⟩ : ∃ y,ob[j]=y:=⟨_,rfl⟩
   simp only [hy] at hc hn he hin htx hro hpa hwy
   obtain ⟨k2,hk2⟩ : ∃ k : Nat,k=j + 2:=⟨_,rfl⟩
   have hnk : (j : Int) + 2=(k2 : Int):=by omega
   rw [hnk] at hn
   rw [← hk2] at hx
   have HN:=Lib.hid (And.intro hn he)
   have HIN:=Lib.hid (And.intro hin hpa)
   have HXX:=Lib.hid (And.intro hx (And.intro hti (And.intro htx (And.intro hro hwy))))
   have HK2:=Lib.hid hk2
   have e0 : wr.cell? ⟨b,o + j * 10,none⟩=some (.string (str onm)):=hc 0 _ rfl
   have e1 : wr.cell? ⟨b,o + j * 10 + 1,none⟩=some (.string (str oti)):=hc 1 _ rfl
   have e2 : wr.cell? ⟨b,o + j * 10 + 2,none⟩=some (.string (str inn)):=hc 2 _ rfl
   have e3 : wr.cell? ⟨b,o + j * 10 + 3,none⟩=some (.string (str ott)):=hc 3 _ rfl
   have e4 : wr.cell? ⟨b,o + j * 10 + 4,none⟩=some (.bool room):=hc 4 _ rfl
   have e5 : wr.cell? ⟨b,o + j * 10 + 5,none⟩=some (.slice Aw wl.length cw):=hc 5 _ rfl
   have e6 : wr.cell? ⟨b,o + j * 10 + 6,none⟩=some (.slice Aa al.length ca):=hc 6 _ rfl
   have e7 : wr.cell? ⟨b,o + j * 10 + 7,none⟩=some (.slice Af fol.length cf):=hc 7 _ rfl
   have e8 : wr.cell? ⟨b,o + j * 10 + 8,none⟩=some (.slice Ap prl_.length cp):=hc 8 _ rfl
   have e9 : wr.cell? ⟨b,o + j * 10 + 9,none⟩=some (.slice Ax exl.length cx):=hc 9 _ rfl
   clear hc hn he hin hx hti htx hro hpa hwy hk2 hy hbz hnk
   go_upto_region 11 with fail
   obtain ⟨w6,hw6⟩ : ∃ W,wr.alloc (.cells #[.string (str onm),.string (str oti),.string (str inn),.string (str ott),.bool room,.slice Aw wl.length cw,.slice Aa al.length ca,.slice Af fol.length cf,.slice Ap prl_.length cp,.slice Ax exl.length cx] 64)=W:=⟨_,rfl⟩
   obtain ⟨m6,s6,b6⟩:=made hw6
   rw [hw6]
   obtain ⟨pb,hpb⟩ : ∃ p,wr.heap.size=p:=⟨_,rfl⟩
   rw [hpb] at m6 ⊢
   have HB6:=Lib.hid (HB.out.trans (b6.mono HB.out.size))
   have HPB:=Lib.hid m6
   clear e0 e1 e2 e3 e4 e5 e6 e7 e8 e9 hw6 s6 b6 hpb
   obtain ⟨z0,z1,z2,z3,z4,z5,z6,z7,z8,z9,zf⟩:=cellz10 m6
   clear m6
   go_wp2_with fail
   refine (of_r (c:=c1) T 4 onm w6 (C.out.rt w6 HB6.out) (by have:=C.out.n1;omega)).mono ?_
   rintro e w7 ⟨rfl,hb⟩
   rw [HN.out.1,HN.out.2]
   have HB7:=Lib.hid (HB6.out.trans (hb.mono HB6.out.size))
   have HPX:=Lib.hid (show ∀ U,Below w7.heap.size w7 U→U.heap[pb]?=some (.cells #[.string (str onm),.string (str oti),.string (str inn),.string (str ott),.bool room,.slice Aw wl.length cw,.slice Aa al.length ca,.slice Af fol.length cf,.slice Ap prl_.length cp,.slice Ax exl.length cx] 64 (0,0)) from fun U h=>(h.block _ (Nat.lt_of_lt_of_le (Array.getElem?_eq_some_iff.1 HPB.out).1 hb.size)).trans ((hb.block _ (Array.getElem?_eq_some_iff.1 HPB.out).1).trans HPB.out))
   clear hb z0 z1 z2 z3 z4 z5 z6 z7 z8 z9 zf
   obtain ⟨z0,z1,z2,z3,z4,z5,z6,z7,z8,z9,zf⟩:=cellz10 (HPX.out w7 (Below.refl _ _))
   obtain ⟨bq,hbq⟩ : ∃ b,decide (inn=[])=b:=⟨_,rfl⟩
   have HBQ:=Lib.hid hbq
   have q1e:=BkD.emp_q inn bq hbq
   clear hbq
   go_upto_if 72 with fail
   go_cut [11,12] (fun v v2 wx=>v=.int .i64 (if inn=[] then 0 else ofN T 4 inn)∧v2=.int .i64 0∧Below w7.heap.size w7 wx)
   case first=>
    cases bq with
    | true=>
     have HE:=Lib.hid (of_decide_eq_true HBQ.out)
     go_wp2_with fail
     go_meet
     exact ⟨by rw [if_pos HE.out],rfl,Below.refl _ _⟩
    | false=>
     have HE:=Lib.hid (of_decide_eq_false HBQ.out)
     go_wp2_with fail
     refine (of_r (c:=c1) T 4 inn w7 (C.out.rt w7 HB7.out) (by have:=C.out.n1;omega)).mono ?_
     rintro e w8 ⟨rfl,hb⟩
     rw [HIN.out.1 HE.out]
     have HB8:=Lib.hid hb
     clear hb z0 z1 z2 z3 z4 z5 z6 z7 z8 z9 zf
     go_wp2_with fail
     go_meet
     exact ⟨by rw [if_neg HE.out],rfl,HB8.out⟩
   case rest=>
    obtain ⟨rfl,rfl,hb⟩:=hcut
    obtain ⟨w8,hw8⟩ : ∃ W,W=wc:=⟨_,rfl⟩
    rw [← hw8] at hb ⊢
    have HB8:=Lib.hid (HB7.out.trans (hb.mono HB7.out.size))
    have HB78:=Lib.hid hb
    clear hb hw8 z0 z1 z2 z3 z4 z5 z6 z7 z8 z9 zf q1e
    obtain ⟨pa0,hpa0⟩ : ∃ z,(if inn=[] then (0 : Int) else ofN T 4 inn)=z:=⟨_,rfl⟩
    have HPA:=Lib.hid (HIN.out.2.trans hpa0)
    rw [hpa0]
    clear hpa0
    obtain ⟨hRx,hRt,-,-⟩:=C.out.rd w8 HB8.out
    obtain ⟨hx,hti,htx,hro,hwy⟩:=HXX.out
    have hpax:=HPA.out
    have hk2l : k2 < thl.length:=(List.getElem?_eq_some_iff.1 hx).1
    have hk2 : k2 < nth_:=by have:=C.out.nn.2.1;omega
    have hil : i < xl.length:=(List.getElem?_eq_some_iff.1 htx).1
    have hi : i < ntx:=by have:=C.out.nn.1;omega
    obtain ⟨bt,ot,rfl,-,hct⟩:=Lg.at_ thE_len hRt hk2l
    obtain ⟨bx,ox,rfl,-,hlx,hcx⟩:=hRx.at_ hil
    rw [(List.getElem?_eq_some_iff.1 hx).2] at hct
    rw [(List.getElem?_eq_some_iff.1 htx).2] at hcx
    obtain ⟨xti,xtx,xpa,xfl,xro,⟨prA,prc,prl2⟩,⟨woA,woc,wol⟩,⟨adA,adc,adl⟩,⟨wyA,wyc,wyl⟩⟩:=x
    simp only at hti hro hwy hpax
    subst hti hro hpax
    have HWY:=Lib.hid hwy
    have c0 : w8.cell? ⟨bt,ot + k2 * 9,none⟩=some (.int .i64 (i : Int)):=hct 0 _ rfl
    have c2 : w8.cell? ⟨bt,ot + k2 * 9 + 2,none⟩=some (.int .i64 xpa):=hct 2 _ rfl
    have c4 : w8.cell? ⟨bt,ot + k2 * 9 + 4,none⟩=some (.bool xro):=hct 4 _ rfl
    have c8 : w8.cell? ⟨bt,ot + k2 * 9 + 8,none⟩=some (.slice wyA wyl.length wyc):=hct 8 _ rfl
    have cx0 : w8.cell? ⟨bx,ox + i,none⟩=some (.string (str oti)):=hcx
    rw [hwy] at c8
    have h2k : 2≤k2:=by have:=HK2.out;omega
    have j0 : (0 : Int)≤(k2 : Int):=by omega
    have j1 : (k2 : Int) < (nth_ : Int):=by omega
    have j2 : decide ((k2 : Int) < 2)=false:=decide_eq_false (by omega)
    have j3 : decide ((k2 : Int)≥(nth_ : Int))=false:=decide_eq_false (by omega)
    have i0 : (0 : Int)≤(i : Int):=by omega
    have i1 : (i : Int) < (ntx : Int):=by omega
    have i2 : decide ((i : Int) < 0)=false:=decide_eq_false (by omega)
    have i3 : decide ((i : Int)≥(ntx : Int))=false:=decide_eq_false (by omega)
    have qs:=eq_q (rfl : oti=oti)
    have j4 : decide (nth_≤k2)=false:=decide_eq_false (by omega)
    have i4 : decide (ntx≤i)=false:=decide_eq_false (by omega)
    obtain ⟨z0,z1,z2,z3,z4,z5,z6,z7,z8,z9,zf⟩:=cellz10 (HPX.out w8 HB78.out)
    obtain ⟨y0,y1,y2,y3,y4,y5,y6,y7,y8,y9,y10,y11,y12,y13,y14,yf⟩:=cells15 (C.out.tab w8 HB8.out)
    clear hx htx hwy hct hcx hRx hRt hk2l hil hlx h2k
    go_wp2_with fail
    go_quiet (fail)
    go_wp2_with fail
    go_quiet (fail)
    go_wp2_with fail
    go_roundw
    case rel=>exact ⟨j + 1,by omega,by go_num,Sq.belowN HB8.out _⟩
    case measure=>simp [intOf];omega
  ·obtain rfl : j=ob.length:=by omega
   go_wp2_with fail
   refine HKK.out _ _ ?_
   exact tail7 C HB
end Go.Proofs.Yteibcfpepdbflaa.BnT
namespace Go.Proofs.Yteibcfpepdbflaa.Law
open Go Go.RowKit Go.ChangeShapes Go.WideShapes Go.ChangeAt
theorem trodAll_below {H : Type} {enc : TypeId × Value→H} {P : Program} (hl : laidOutB P=true) {W W' : World} (hb : Below W.heap.size W W') :
  ∀ {ts : List TypeId} {vs : List Value} {ds : List (DataW H)} {ps : List MemPlace},(ts.all fun t=>P.readableRec t && decide (t < P.types.size))=true →
   DataW.TrodAll enc P W 0 (fun _=>true) true ts vs ds ps→(∀ x ∈ ps,x.block < W.heap.size) →
   DataW.TrodAll enc P W' 0 (fun b=>decide (b < W.heap.size)) true ts vs ds ps
 | [],_,_,_,_,h,_=>by
  obtain ⟨rfl,rfl,rfl⟩:=trodAll_nil h
  exact trodAll_mk0
 | t :: ts,_,_,_,hr,h,hlt=>by
  obtain ⟨v,vs,d,ds,p,q,rfl,rfl,rfl,h0,h1⟩:=trodAll_cons h
  simp only [List.all_cons,Bool.and_eq_true,decide_eq_true_eq] at hr
  exact trodAll_cons_mk (hb.trod hl hr.1.1 hr.1.2 h0 (fun x hx=>hlt x (List.mem_append_left _ hx)))
   (trodAll_below hl hb hr.2 h1 (fun x hx=>hlt x (List.mem_append_right _ hx)))
theorem post {H : Type} {enc : TypeId × Value→H} {P : Program} {fn : Func} {s : ChangeSpec} {W W' : World} {args : Array Value} {ds gs : List (DataW H)} {before : List MemPlace} {tb : TypeId}
  (hl : laidOutB P=true) (hr : (fn.params.toList.all fun t=>P.readableRec t && decide (t < P.types.size))=true) (ub : P.underlying tb=some .bool)
  (hres : fn.resultTypes=#[tb]) (hv : s.vars=[])
  (hW : DataW.Whole enc P fn.params.toList s.vars false W args.toList ds gs before) (hb : Below W.heap.size W W')
  (hs : (s.fn H ds).results=[.lit (.bool true)]∧(s.fn H ds).args=ds∧(s.fn H ds).vars=[]) : s.post enc P fn false true false false W args (.bool true) W':=by
 have hW0:=hW
 have hlt:=fun x hx=>hW0.lt x hx
 obtain ⟨p,q,hA,hV,rfl,hfz,hnd⟩:=hW
 rw [hv] at hV
 obtain ⟨rfl,rfl⟩:=trodVars_none hV
 simp only [List.append_nil] at hlt
 have e : ds ++ []=ds:=List.append_nil ds
 refine ⟨ds,[],p ++ [],[],p,[],hW0,?_,?_,?_,hb.frame _,fun h=>by cases h⟩
 ·rw [e,hs.1,hres]
  exact trodAll_mk1 (shut_bool ub true)
 ·rw [e,hs.2.1]
  exact trodAll_below hl hb hr hA hlt
 ·rw [e,hs.2.2,hv]
  exact rfl
end Go.Proofs.Yteibcfpepdbflaa.Law
namespace Go.Proofs.Yteibcfpepdbflaa.LawS
open Go Go.RowKit Go.ChangeShapes Go.WideShapes Go.ChangeAt BindP BindD BindO
open Byt (str)
section
variable {H : Type} {enc : TypeId × Value→H} {w : World} {base : Nat} {spare : Nat→Bool} {held : Bool}
set_option maxRecDepth 100000 in
theorem open_source {r : Reach} {b0 : Nat} {v : Value} {d : DataW H} {p : List MemPlace} (hv : Value.okWide Try.prog w r b0 29 v) (h : DataW.Trod enc Try.prog w base spare held 29 v d p) :
  ∃ t : So,v=.agg (So.e t).toArray∧So.R top w t∧So.m t≤Rows.uptoBulk d:=by
 obtain ⟨cs,rfl,hsz⟩:=okWide_struct Try.underlying29 hv
 obtain ⟨fuel,hf⟩:=h
 obtain ⟨l⟩:=cs
 obtain ⟨t,rfl,hr,hm⟩:=source_of (hsz.trans cells_source) hf
 exact ⟨t,rfl,hr,hm⟩
end
end Go.Proofs.Yteibcfpepdbflaa.LawS
