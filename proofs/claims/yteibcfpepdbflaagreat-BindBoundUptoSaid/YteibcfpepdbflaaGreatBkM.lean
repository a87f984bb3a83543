/- bind.Book from its objects on. Conditions: props and flags that are there; sizes within the reach. -/
import Derived.Test.YteibcfpepdbflaaGreatBkL
open Go.Lib renaming hid → hI
open Go.Proofs.YteibcfpepdbflaaGreat.RgD renaming tk → tK, sA → zA, s0 → zB, s1 → zC
namespace Go.Proofs.YteibcfpepdbflaaGreat.BkM
open Go Go.RowKit BindP BindD BindO BindW BindN BindG BindX BindB BindS BindK BindT BindA BkA BkB BkC BkD BkE BkF BkG BkH BkI BkK BkL TxA
open Byt (str)
theorem yB_8 {a b c d : Int} {e : Value} {f : Int} {p g h ac v v' fu : Value} : upd (yB a b c d e f p g h ac v fu) 8 v'=yB a b c d e f p g v' ac v fu:=by
 funext j
 match j with
 | 0 | 1 | 2 | 3 | 4 | 5 | 6 | 7 | 8 | 9 | 10 | 11 | 12=>rfl
 | n + 13=>simp [upd,yB]
theorem yB_9 {a b c d : Int} {e : Value} {f : Int} {p g h ac v v' fu : Value} : upd (yB a b c d e f p g h ac v fu) 9 v'=yB a b c d e f p g h v' v fu:=by
 funext j
 match j with
 | 0 | 1 | 2 | 3 | 4 | 5 | 6 | 7 | 8 | 9 | 10 | 11 | 12=>rfl
 | n + 13=>simp [upd,yB]
theorem obsI_take {t : List Nm} {tx : List S} {pl : List Int} {r : Mp × List Tp} {l : List Ob} {j : Nat} (h : j < l.length) : obsI t tx pl r (l.take (j + 1))=obwI t tx pl (obsI t tx pl r (l.take j)) l[j]:=foldl_take _ _ h
theorem obsI_len {t : List Nm} {tx : List S} {pl : List Int} : ∀ (l : List Ob) (r : Mp × List Tp),(obsI t tx pl r l).2.length=r.2.length + l.length
 | [],r=>rfl
 | o :: l,r=>by
  have h:=obsI_len (t:=t) (tx:=tx) (pl:=pl) l (obwI t tx pl r o)
  have e : (obwI t tx pl r o).2.length=r.2.length + 1:=by simp [obwI]
  rw [e] at h
  rw [List.length_cons]
  show (obsI t tx pl (obwI t tx pl r o) l).2.length=_
  omega
set_option maxRecDepth 100000 in
set_option maxHeartbeats 64000000 in
theorem tail7 (w w0 : World) (so : So) (t : List Nm) (tx : List S) (A1 : Option Addr) (n1 c1 : Nat) (A2 : Option Addr) (n2 c2 : Nat) (sb rb : Nat) (HC : Hid (Cx w w0 so t tx A1 n1 A2 n2 sb rb)) (F : (Nat→Prop)→World→Prop) (HF : Hid (Firm F)) (za zb zc zd zf : Int) (sp sg : Sv Int)
  (HG : Hid (∀ K U,F K U→Lg inE RtI K U sp.a sp.c sp.l∧Lg inE RtI K U sg.a sg.c sg.l)) (HPF : Hid ((∀ o ∈ so.ob.l,∀ p ∈ o.pr.l,0≤ofN t 2 p.nm∧ofN t 2 p.nm < (sp.l.length : Int))∧(∀ o ∈ so.ob.l,∀ f ∈ o.fl.l,0≤ofN t 1 f)∧sp.l.length≤1048576))
  (wq : World) (Ah0 : Option Addr) (ch0 : Nat) (X0 : List Th) (HX0 : Hid (X0.map Th.p=th2 t tx sp.l so.st)) (HK0 : Hid (Bk thE ThR 9 80 F (fun b=>b=rb) w0 (.slice A1 n1 c1) (.slice A2 n2 c2) (yB za zb zc zd (.slice A2 n2 c2) zf sp.v sg.v (.slice none 0 0) (.slice none 0 0) (.slice none 0 0) (.slice none 0 0)) 8 (.slice Ah0 2 ch0) X0 m0 vn vn vn ⟨[],[],[]⟩ wq)) (BP : Bp)
  (HBP : Hid (bookI t tx so=BP)) (HPL : Hid (sp.l=prl so∧sg.l=so.gl.l.map Pr.num)) (HZZ : Hid (za=place tx so.ti∧zb=place tx so.by_∧zc=so.re∧zd=so.mx∧zf=4 + (so.fl.l.length : Int)))
  (v0 v3 v7 v8 v9 v10 v11 v12 v13 v14 v15 v16 v17 v18 v19 v20 v21 v22 v23 v24 v25 v26 v27 v28 v29 v30 v31 v32 v33 v34 v35 v36 v37 v38 v39 v40 v41 v42 v43 v44 v45 v46 v47 v48 v49 v50 v51 v52 v53 v54 v55 v56 v57 v58 v59 v60 v61 v62 v63 v64 v65 v66 v67 v68 v69 v70 v71 v72 v73 v74 v75 v76 v77 v78 v79 v80 v81 v82 v83 v84 v85 v86 v87 v88 v89 v90 v91 v92 v93 v94 v95 v96 v97 v98 v99 v100 v101 v102 v103 v104 v105 v106 v107 v108 v109 v110 v111 v112 v113 v114 v115 v116 v117 v118 v119 v120 v121 v122 v123 v124 v125 v126 v127 v128 v129 v130 v131 v132 v133 v134 v135 v136 v137 v138 v139 v140 v141 v142 v143 v144 v145 v146 v147 v148 v149 v150 v151 v152 v153 v154 v155 v156 v157 v158 v159 v160 v161 v162 v163 v164 v165 v166 v167 v168 v169 v170 v171 v172 v173 v174 v175 v176 v177 v178 v179 v180 v181 v182 v183 v184 v185 v186 v187 v188 v189 v190 v191 v192 v193 v194 v195 v196 v197 v198 v199 v200 v201 v202 v203 v204 v205 v206 v207 v208 v209 v210 v211 v212 v213 v214 v215 v216 v217 v218 v219 v220 v221 v222 v223 v224 v225 v226 v227 v228 v229 v230 v231 v232 v233 v234 v235 v236 v237 v238 v239 v240 v241 v242 v243 v244 v245 v246 v247 v248 v249 v250 v251 v252 v253 v254 v255 v256 : Value) : Code.wp Tryz.prog (nth 7 body18) (bodyPost Tryz.prog Tryz.f7 (BkV BP w)) ⟨#[v0,.slice A1 n1 c1,.pointer (some ⟨sb,0,none⟩),v3,.pointer (some ⟨rb,0,none⟩),.pointer (some ⟨w0.heap.size,0,none⟩),.pointer (some ⟨w0.heap.size,2,none⟩),v7,v8,v9,v10,v11,v12,v13,v14,v15,v16,v17,v18,v19,v20,v21,v22,v23,v24,v25,v26,v27,v28,v29,v30,v31,v32,v33,v34,v35,v36,v37,v38,v39,v40,v41,v42,v43,v44,v45,v46,v47,v48,v49,v50,v51,v52,v53,v54,v55,v56,v57,v58,v59,v60,v61,v62,v63,v64,v65,v66,v67,v68,v69,v70,v71,v72,v73,v74,v75,v76,v77,v78,v79,v80,v81,v82,v83,v84,v85,v86,v87,v88,v89,v90,v91,v92,v93,v94,v95,v96,v97,v98,v99,v100,v101,v102,v103,v104,v105,v106,v107,v108,v109,v110,v111,v112,v113,v114,v115,v116,v117,v118,v119,v120,v121,v122,v123,v124,v125,v126,v127,v128,v129,v130,v131,v132,v133,v134,v135,v136,v137,v138,v139,v140,v141,v142,v143,v144,v145,v146,v147,v148,v149,v150,v151,v152,v153,v154,v155,v156,v157,v158,v159,v160,v161,v162,v163,v164,v165,v166,v167,v168,v169,v170,v171,v172,v173,v174,v175,v176,v177,v178,v179,v180,v181,v182,v183,v184,v185,v186,v187,v188,v189,v190,v191,v192,v193,v194,v195,v196,v197,v198,v199,v200,v201,v202,v203,v204,v205,v206,v207,v208,v209,v210,v211,v212,v213,v214,v215,v216,v217,v218,v219,v220,v221,v222,v223,v224,v225,v226,v227,v228,v229,v230,v231,v232,v233,v234,v235,v236,v237,v238,v239,v240,v241,v242,v243,v244,v245,v246,v247,v248,v249,v250,v251,v252,v253,v254,v255,v256],[]⟩ wq:=by
 obtain ⟨ti,by_,st,re,mx,⟨fA,fc,fl⟩,⟨pA,pc,pr⟩,⟨gA,gc,gl⟩,⟨oA,oc,ob⟩,⟨vA,vc,vb⟩,⟨rA,rc,ru⟩,⟨nA,nc,fn⟩,⟨dA,dc,dm⟩⟩:=so
 have HSRC:=hI (show ∀ U,Below w0.heap.size w0 U→U.heap[sb]?=some (.cells #[.string (str ti),.string (str by_),.string (str st),.int .i64 re,.int .i64 mx,.slice fA fl.length fc,.slice pA pr.length pc,.slice gA gl.length gc,.slice oA ob.length oc,.slice vA vb.length vc,.slice rA ru.length rc,.slice nA fn.length nc,.slice dA dm.length dc] 29 (0,0)) from fun U h=>HC.out.src U h)
 have HZ:=hI (show (ob.map Ob.m).sum + 2 * ru.length + fn.length + dm.length≤2097152∧(ob.map Ob.m).sum≤1048576∧(vb.map Vb.m).sum≤1048576 by
  have hz:=HC.out.m
  unfold So.m at hz
  simp only at hz
  have h1:=sum_len (m:=Rl.m) (fun _=>by unfold Rl.m;omega) ru
  have h2:=sum_len (m:=BindO.Fn.m) (fun _=>by unfold BindO.Fn.m;omega) fn
  have h3:=sum_len (m:=BindO.Fn.m) (fun _=>by unfold BindO.Fn.m;omega) dm
  omega)
 have zO : ob.length≤1048576:=Nat.le_trans (sum_len (m:=Ob.m) (fun _=>by unfold Ob.m;omega) ob) HZ.out.2.1
 have zV : vb.length≤1048576:=Nat.le_trans (sum_len (m:=Vb.m) (fun _=>by unfold Vb.m;omega) vb) HZ.out.2.2
 have HWW:=hI (show w.heap.size≤w0.heap.size by have:=HC.out.rw;omega)
 have HX2:=hI (show X0.length=2 by have h:=congrArg List.length HX0.out;rw [List.length_map] at h;exact h)
 obtain ⟨R0,hR0⟩ : ∃ r,((m0,th2 t tx sp.l st) : Mp × List Tp)=r:=⟨_,rfl⟩
 have HR0:=hI hR0
 have HM0:=hI (show R0.1.le 0 by rw [← hR0];exact ⟨Nat.le_refl _,Nat.le_refl _,Nat.le_refl _⟩)
 have HX1:=hI (show X0.map Th.p=R0.2 by rw [HX0.out,← hR0])
 have HK1:=hI (show Bk thE ThR 9 80 F (fun b=>b=rb) w0 (.slice A1 n1 c1) (.slice A2 n2 c2) (yB za zb zc zd (.slice A2 n2 c2) zf sp.v sg.v (.slice none 0 0) (.slice none 0 0) (.slice none 0 0) (.slice none 0 0)) 8 (.slice Ah0 2 ch0) X0 R0.1 vn vn vn ⟨[],[],[]⟩ wq by rw [← hR0];exact HK0.out)
 clear hR0 HK0 HX0
 conv=>arg 2;whnf
 refine seq_hid fun KK HKK=>?_
 obtain ⟨x0,x1,x2,x3,x4,x5,x6,x7,x8,x9,x10,x11,x12,xf⟩:=cellz13 (HSRC.out _ HK1.out.mb.low)
 go_wp2_with fail
 go_loopw [128] (fun iv wr=>∃ (j : Nat) (Ao : Option Addr) (co : Nat) (X : List Th) (vp vl vr : Value) (m : Ms),j≤ob.length∧iv=.int .i64 (j : Int)∧Bk thE ThR 9 80 F (fun b=>b=rb) w0 (.slice A1 n1 c1) (.slice A2 n2 c2) (yB za zb zc zd (.slice A2 n2 c2) zf sp.v sg.v (.slice none 0 0) (.slice none 0 0) (.slice none 0 0) (.slice none 0 0)) 8 (.slice Ao (2 + j) co) X (obsI t tx sp.l R0 (ob.take j)).1 vp vl vr m wr∧Hid (X.map Th.p=(obsI t tx sp.l R0 (ob.take j)).2∧X.length=2 + j)) (fun iv _=>ob.length - (intOf iv).toNat)
 case atStart=>exact ⟨0,_,_,_,_,_,_,_,Nat.zero_le _,rfl,HK1.out,hI ⟨HX1.out,HX2.out⟩⟩
 case round=>
  obtain ⟨j,Ao,co,X,vp,vl,vr,m,hj,rfl,hbk,HXP⟩:=hrel
  clear x0 x1 x2 x3 x4 x5 x6 x7 x8 x9 x10 x11 x12 xf
  have HK:=hI hbk
  have k0 : (0 : Int)≤(j : Int):=by omega
  by_cases hlt : j < ob.length
  ·have k1 : (j : Int) < (ob.length : Int):=by omega
   obtain ⟨b,o,rfl,hbz,hc⟩:=Lg.at_ Ob.len (HC.out.rd wr hbk.mb.low).1.2.2.2.1 hlt
   have hmem : ob[j] ∈ ob:=List.getElem_mem hlt
   have htk:=obsI_take (t:=t) (tx:=tx) (pl:=sp.l) (r:=R0) hlt
   have hrd:=(HC.out.rd wr hbk.mb.low).2.1.2.2.2.1.2 _ hmem
   have hsm:=sum_mem (m:=Ob.m) ob _ hmem
   have hts:=take_sum Ob.m hlt
   have hpf : (∀ p ∈ ob[j].pr.l,0≤ofN t 2 p.nm∧ofN t 2 p.nm < (sp.l.length : Int))∧(∀ f ∈ ob[j].fl.l,0≤ofN t 1 f):=⟨HPF.out.1 _ hmem,HPF.out.2.1 _ hmem⟩
   obtain ⟨oj,hy⟩ : ∃ y,ob[j]=y:=⟨_,rfl⟩
   rw [hy] at hc htk hrd hsm hts hpf
   have hz:=HZ.out
   have hxl:=sum_len (m:=Xt.m) (fun _=>by unfold Xt.m;omega) oj.xt.l
   have hxm : (oj.xt.l.map Xt.m).sum≤Ob.m oj:=by unfold Ob.m;omega
   have hle:=obsI_le (t:=t) (tx:=tx) (pl:=sp.l) (ob.take j) R0 _ HM0.out
   obtain ⟨⟨rj,L⟩,hL⟩ : ∃ q,obsI t tx sp.l R0 (ob.take j)=q:=⟨_,rfl⟩
   rw [hL] at HK HXP htk hle
   dsimp only at HK HXP hle
   have HTK:=hI htk
   have HLL:=hI (show X.length=2 + j from HXP.out.2)
   have HOM:=hI (show Ob.m oj≤1048576∧rj.le (0 + ((ob.take j).map Ob.m).sum)∧(0 + ((ob.take j).map Ob.m).sum) + oj.xt.l.length≤2000000 from ⟨by omega,hle,by omega⟩)
   have HOP:=hI hpf
   obtain ⟨oj0,hoj0⟩ : ∃ x,x=oj:=⟨_,rfl⟩
   rw [← hoj0] at HTK HOM HOP
   have HOJ:=hI hoj0
   clear hoj0
   obtain ⟨nm,oti,inn,tt,room,⟨Aw,cw,wl⟩,⟨Aa,ca,al⟩,⟨Af,cf,fol⟩,⟨Ap,cp,prl_⟩,⟨Ax,cx,xl⟩⟩:=oj
   have HRD:=hI (show ∀ U,Below wr.heap.size wr U→Ob.R (fun b=>b < w.heap.size) U oj0 from fun U h=>by rw [HOJ.out];exact Ob.stays _ _ _ _ _ (Keep.below h) hrd)
   have HAG : (Ob.e oj0).toArray=#[.string (str nm),.string (str oti),.string (str inn),.string (str tt),.bool room,.slice Aw wl.length cw,.slice Aa al.length ca,.slice Af fol.length cf,.slice Ap prl_.length cp,.slice Ax xl.length cx]:=by rw [HOJ.out];rfl
   have HAGH:=hI HAG
   clear HAG
   have e0 : wr.cell? ⟨b,o + j * 10,none⟩=some (.string (str nm)):=hc 0 _ rfl
   have e1 : wr.cell? ⟨b,o + j * 10 + 1,none⟩=some (.string (str oti)):=hc 1 _ rfl
   have e2 : wr.cell? ⟨b,o + j * 10 + 2,none⟩=some (.string (str inn)):=hc 2 _ rfl
   have e3 : wr.cell? ⟨b,o + j * 10 + 3,none⟩=some (.string (str tt)):=hc 3 _ rfl
   have e4 : wr.cell? ⟨b,o + j * 10 + 4,none⟩=some (.bool room):=hc 4 _ rfl
   have e5 : wr.cell? ⟨b,o + j * 10 + 5,none⟩=some (.slice Aw wl.length cw):=hc 5 _ rfl
   have e6 : wr.cell? ⟨b,o + j * 10 + 6,none⟩=some (.slice Aa al.length ca):=hc 6 _ rfl
   have e7 : wr.cell? ⟨b,o + j * 10 + 7,none⟩=some (.slice Af fol.length cf):=hc 7 _ rfl
   have e8 : wr.cell? ⟨b,o + j * 10 + 8,none⟩=some (.slice Ap prl_.length cp):=hc 8 _ rfl
   have e9 : wr.cell? ⟨b,o + j * 10 + 9,none⟩=some (.slice Ax xl.length cx):=hc 9 _ rfl
   clear hc hy htk hL hbz hbk hmem hrd hsm hts hpf hz hxl hxm hle
   go_upto_region 18 with fail
   obtain ⟨w1,hw1⟩ : ∃ W,wr.alloc (.cells #[.string (str nm),.string (str oti),.string (str inn),.string (str tt),.bool room,.slice Aw wl.length cw,.slice Aa al.length ca,.slice Af fol.length cf,.slice Ap prl_.length cp,.slice Ax xl.length cx] 63)=W:=⟨_,rfl⟩
   obtain ⟨mm1,ms1,b1⟩:=made hw1
   rw [hw1]
   obtain ⟨pb,hpb⟩ : ∃ p,wr.heap.size=p:=⟨_,rfl⟩
   have HK2:=hI (Bk.below stays_th HF.out HK.out b1)
   have HNE:=hI (show Value.ownBlock (.slice Ao (2 + j) co) ≠ some pb from fun c=>by have:=(HK.out.ow.lt c).2;omega)
   have HND:=hI (show ¬ Dm w0 vp vl vr pb from fun c=>by have:=(HK.out.mb.dm c).2;omega)
   have HB1:=hI b1
   rw [hpb] at mm1 ⊢
   have HPB:=hI mm1
   clear e0 e1 e2 e3 e4 e5 e6 e7 e8 e9 hw1 mm1 ms1 b1 hpb
   have hS0 : w1.drew.cell? ⟨w0.heap.size,10,none⟩=some (.slice Ao (2 + j) co)∧w1.drew.heap[pb]?=some (.cells #[.string (str nm),.string (str oti),.string (str inn),.string (str tt),.bool room,.slice Aw wl.length cw,.slice Aa al.length ca,.slice Af fol.length cf,.slice Ap prl_.length cp,.slice Ax xl.length cx] 63 (0,0)):=⟨(HK2.out.cell (by omega)).1,HPB.out⟩
   have HOBW:=hI (show obwI t tx sp.l (rj,L) oj0=((objI t tx sp.l rj oj0).1,L ++ [(objI t tx sp.l rj oj0).2]) from rfl)
   refine RgD.begin_ [10,11,12] (fun U=>U.cell? ⟨w0.heap.size,10,none⟩=some (.slice Ao (2 + j) co)∧U.heap[pb]?=some (.cells #[.string (str nm),.string (str oti),.string (str inn),.string (str tt),.bool room,.slice Aw wl.length cw,.slice Aa al.length ca,.slice Af fol.length cf,.slice Ap prl_.length cp,.slice Ax xl.length cx] 63 (0,0))) (by kernel_rfl) hS0 (fun hHeld=>?_)
   refine tK 0 132 (h:=?_)
   simp only [zA,zB,zC]
   refine tK 1 133 (h:=?_)
   simp only [zA,zB,zC]
   refine tK 2 134 (h:=?_)
   simp only [zA,zB,zC]
   refine tK 3 135 (h:=?_)
   simp only [zA,zB,zC]
   refine tK 4 136 (v:=.slice Ao (2 + j) co) (hy:=by intro w0 hSw;have z0:=hSw.1;first | (go_simp;done) | (go_simp;with_reducible rfl) | (go_simp;intro hc;exfalso;omega)) (h:=?_)
   simp only [zA,zB,zC]
   refine tK 5 137 (h:=?_)
   simp only [zA,zB,zC]
   refine tK 6 138 (v:=.agg #[.string (str nm),.string (str oti),.string (str inn),.string (str tt),.bool room,.slice Aw wl.length cw,.slice Aa al.length ca,.slice Af fol.length cf,.slice Ap prl_.length cp,.slice Ax xl.length cx]) (hy:=by intro w0 hSw;obtain ⟨z0,z1,z2,z3,z4,z5,z6,z7,z8,z9,zf⟩:=cellz10 hSw.2;first | (go_simp;done) | (go_simp;with_reducible rfl) | (go_simp;intro hc;exfalso;omega)) (h:=?_)
   simp only [zA,zB,zC]
   refine RgD.one (i:=7) (by kernel_rfl) ?_
   refine RgD.call (i:=7) (t:=139) rfl rfl (by rfl) (by go_simp;exact ⟨rfl,rfl⟩) ?_
   have hKd:=Bk.below stays_th HF.out HK2.out (Below.drew (Below.refl _ _))
   have hbd:=HB1.out.trans (Below.drew (Below.refl w1.heap.size w1) |>.mono HB1.out.size)
   have hobj:=object_w (fun b=>b < w.heap.size) _ w0 (fun b hb=>Nat.lt_of_lt_of_le hb HWW.out) A1 A2 n1 c1 n2 c2 t tx HC.out.bs _ w1.drew vp vl vr m hKd.mb sp.l sp.a sp.c rfl (HG.out _ _ hKd.fin).1.1.rd HPF.out.2.2 oj0 (HRD.out _ hbd) HOM.out.1 (0 + ((ob.take j).map Ob.m).sum) (HK.out.p ▸ HOM.out.2.1) HOM.out.2.2 HOP.out.1 HOP.out.2
   rw [HAGH.out] at hobj
   refine hobj.mono ?_
   clear hobj
   rintro e w9 ⟨vp9,vl9,vr9,m9,x9,rfl,hxp,hp9,hM9,hF9,hxr⟩
   rw [HK.out.p] at hxp hp9
   obtain ⟨xti,xtx,xpa,xfl,xro,⟨xpA,xpc,xpl⟩,⟨xwA,xwc,xwl⟩,⟨xaA,xac,xal⟩,⟨xyA,xyc,xyl⟩⟩:=x9
   have HK9:=hI (Bk.step stays_th HF.out hKd hM9 hp9 hF9)
   have q09 : w9.heap[pb]?=some (.cells #[.string (str nm),.string (str oti),.string (str inn),.string (str tt),.bool room,.slice Aw wl.length cw,.slice Aa al.length ca,.slice Af fol.length cf,.slice Ap prl_.length cp,.slice Ax xl.length cx] 63 (0,0)):=(hF9.block _ (Array.getElem?_eq_some_iff.1 hS0.2).1 HND.out).trans hS0.2
   have gS9 : (fun U=>U.cell? ⟨w0.heap.size,10,none⟩=some (.slice Ao (2 + j) co)∧U.heap[pb]?=some (.cells #[.string (str nm),.string (str oti),.string (str inn),.string (str tt),.bool room,.slice Aw wl.length cw,.slice Aa al.length ca,.slice Af fol.length cf,.slice Ap prl_.length cp,.slice Ax xl.length cx] 63 (0,0))) w9:=⟨(HK9.out.cell (by omega)).1,q09⟩
   have HXP9:=hI hxp
   have hxr9 : ThR (fun b=>¬ Dm w0 vp9 vl9 vr9 b∧¬ (b=rb∨Value.ownBlock (.slice Ao (2 + j) co)=some b)) w9 (⟨xti,xtx,xpa,xfl,xro,⟨xpA,xpc,xpl⟩,⟨xwA,xwc,xwl⟩,⟨xaA,xac,xal⟩,⟨xyA,xyc,xyl⟩⟩ : Th):=stays_th _ _ _ _ _ (Keep.weak fun b hb _=>⟨hb.2,fun c=>by
    have hrw:=HC.out.rw
    have hsz0:=HK.out.mb.low.size
    have hbs:=hbd.size
    rcases hb.1 with h1 | h1
    ·rcases c with c | c
     ·omega
     ·have:=(HK.out.ow.lt c).1;have:=HWW.out;omega
    ·rcases c with c | c
     ·omega
     ·have:=(HK.out.ow.lt c).2;omega⟩) hxr
   clear hxp hp9 hM9 hF9 hKd hbd hxr
   refine ⟨.agg #[.int .i64 xti,.int .i64 xtx,.int .i64 xpa,.int .i64 xfl,.bool xro,.slice xpA xpl.length xpc,.slice xwA xwl.length xwc,.slice xaA xal.length xac,.slice xyA xyl.length xyc],rfl,gS9,?_⟩
   simp only [zA,zB,zC]
   refine RgD.one (i:=8) (by kernel_rfl) ?_
   obtain ⟨w10,hw⟩ : ∃ W,w9.alloc (.cells #[.int .i64 xti,.int .i64 xtx,.int .i64 xpa,.int .i64 xfl,.bool xro,.slice xpA xpl.length xpc,.slice xwA xwl.length xwc,.slice xaA xal.length xac,.slice xyA xyl.length xyc] 80)=W:=⟨_,rfl⟩
   have hb:=(made hw).2.2
   have HK10:=hI (Bk.below stays_th HF.out HK9.out hb)
   have hz : Sk.Rd thE w10 (some ⟨w9.heap.size,0,none⟩) 1 [(⟨xti,xtx,xpa,xfl,xro,⟨xpA,xpc,xpl⟩,⟨xwA,xwc,xwl⟩,⟨xaA,xac,xal⟩,⟨xyA,xyc,xyl⟩⟩ : Th)]:=by rw [← hw];exact Sk.rd_lit (enc:=thE) _ 80 [(⟨xti,xtx,xpa,xfl,xro,⟨xpA,xpc,xpl⟩,⟨xwA,xwc,xwl⟩,⟨xaA,xac,xal⟩,⟨xyA,xyc,xyl⟩⟩ : Th)] _ rfl 1 rfl
   have hx10:=stays_th _ _ _ _ _ (Keep.below hb) hxr9
   have q010:=(hb.block _ (Array.getElem?_eq_some_iff.1 q09).1).trans q09
   have gS10 : (fun U=>U.cell? ⟨w0.heap.size,10,none⟩=some (.slice Ao (2 + j) co)∧U.heap[pb]?=some (.cells #[.string (str nm),.string (str oti),.string (str inn),.string (str tt),.bool room,.slice Aw wl.length cw,.slice Aa al.length ca,.slice Af fol.length cf,.slice Ap prl_.length cp,.slice Ax xl.length cx] 63 (0,0))) w10:=⟨(HK10.out.cell (by omega)).1,q010⟩
   refine RgD.eff (i:=8) (t:=140) (v:=.slice (some ⟨w9.heap.size,0,none⟩) 1 1) (w1:=w10) rfl rfl (by rfl) (by first | (go_simp;done) | (go_simp;with_reducible rfl) | (go_simp;rw [hw];rfl) | (go_simp;exact ⟨rfl,hw⟩) | (go_simp;exact hw)) gS10 ?_
   simp only [zA,zB,zC]
   clear hb hw
   refine RgD.one (i:=9) (by kernel_rfl) ?_
   refine RgD.app elTh (i:=9) (t:=141) (.tmp 136) (.tmp 140) rfl rfl (by rfl) rfl rfl HK10.out.ow.own (some ⟨w9.heap.size,0,none⟩) 1 1 [(⟨xti,xtx,xpa,xfl,xro,⟨xpA,xpc,xpl⟩,⟨xwA,xwc,xwl⟩,⟨xaA,xac,xal⟩,⟨xyA,xyc,xyl⟩⟩ : Th)] rfl hz (by have h1:=HLL.out;unfold maxLen;omega) (by have h1:=HLL.out;omega) (Nat.le_of_lt HK10.out.mb.lt) ?_
   intro v11 w11 ho hb hg hv
   have HK11:=hI (Bk.app stays_th HF.out (by omega) HK10.out ho hg hv (fun x hx=>by simp only [List.mem_singleton] at hx;rw [hx];exact hx10))
   have hc11 : w11.cell? ⟨w0.heap.size,10,none⟩=w10.cell? ⟨w0.heap.size,10,none⟩:=World.cell?_of_block (hg.block w0.heap.size HK10.out.mb.lt (fun c=>(HK10.out.ow.row _ c.symm).1 (.inl rfl)))
   have d11:=hc11.trans gS10.1
   have q011:=(hg.block _ (Array.getElem?_eq_some_iff.1 q010).1 (fun c=>HNE.out c.symm)).trans q010
   have gS11 : (fun U=>U.cell? ⟨w0.heap.size,10,none⟩=some (.slice Ao (2 + j) co)∧U.heap[pb]?=some (.cells #[.string (str nm),.string (str oti),.string (str inn),.string (str tt),.bool room,.slice Aw wl.length cw,.slice Aa al.length ca,.slice Af fol.length cf,.slice Ap prl_.length cp,.slice Ax xl.length cx] 63 (0,0))) w11:=⟨d11,q011⟩
   have ff11:=frz (hg.block w0.heap.size HK10.out.mb.lt (fun c=>(HK10.out.ow.row _ c.symm).1 (.inl rfl))) (HK10.out.cell (by omega)).2
   refine ⟨gS11,?_⟩
   simp only [zA,zB,zC]
   obtain ⟨A11,c11,rfl,_,_⟩:=ho.shape
   have hlen : (X ++ [(⟨xti,xtx,xpa,xfl,xro,⟨xpA,xpc,xpl⟩,⟨xwA,xwc,xwl⟩,⟨xaA,xac,xal⟩,⟨xyA,xyc,xyl⟩⟩ : Th)]).length=(2 + j) + 1:=by rw [List.length_append,HLL.out];rfl
   rw [hlen] at HK11 ⊢
   clear hlen ho hb hg hv hz hc11 hx10
   refine RgD.tk0 10 142 (h:=?_)
   simp only [zA,zB,zC]
   refine RgD.tk0 11 143 (h:=?_)
   simp only [zA,zB,zC]
   refine RgD.one (i:=12) (by kernel_rfl) ?_
   obtain ⟨w12,hw⟩ : ∃ W,w11.setCell ⟨w0.heap.size,10,none⟩ (.slice A11 ((2 + j) + 1) c11)=W:=⟨_,rfl⟩
   rw [hw] at HK11
   refine RgD.store (i:=12) (w1:=w12) rfl rfl (by rfl) (by kernel_rfl) (by first | (go_simp;done) | (go_simp;exact hw) | (go_simp;rw [hw])) ?_
   refine RgD.done (by kernel_rfl) ?_ _
   clear hS0 hw d11 ff11 gS10 gS11 q010 q011 q09 gS9 hxr9
   go_wp2_with fail
   go_roundw
   case rel=>exact ⟨j + 1,A11,c11,X ++ [(⟨xti,xtx,xpa,xfl,xro,⟨xpA,xpc,xpl⟩,⟨xwA,xwc,xwl⟩,⟨xaA,xac,xal⟩,⟨xyA,xyc,xyl⟩⟩ : Th)],_,_,_,_,by omega,by go_num,by rw [HTK.out,HOBW.out];exact HK11.out,hI ⟨by rw [HTK.out,HOBW.out,List.map_append,HXP.out.1];exact congrArg _ (congrArg (fun q=>[q]) HXP9.out),by rw [List.length_append,HLL.out];rfl⟩⟩
   case measure=>simp [intOf];omega
  ·obtain rfl : ob.length=j:=by omega
   rw [List.take_length] at hbk HXP
   obtain ⟨Ah,ch,F2,Y2,hv2,hY2,hF2,hG2,hk⟩:=Bk.next acE AcR 2 87 stays_th HF.out hbk (i':=9) (by omega) rfl
   rw [yB_8] at hY2
   subst hY2
   have hle:=obsI_le (t:=t) (tx:=tx) (pl:=sp.l) ob R0 _ HM0.out
   obtain ⟨⟨r1,LP⟩,hLP⟩ : ∃ q,obsI t tx sp.l R0 ob=q:=⟨_,rfl⟩
   rw [hLP] at hk hle HXP
   dsimp only at hk hle HXP
   have HLP:=hI hLP
   have HLE:=hI hle
   have HF2:=hI hF2
   have HG2:=hI (show ∀ K U,F2 K U→Lg inE RtI K U sp.a sp.c sp.l∧Lg inE RtI K U sg.a sg.c sg.l∧Lg thE ThR K U Ah ch X from fun K U h=>⟨(HG.out K U (hG2 K U h).1).1,(HG.out K U (hG2 K U h).1).2,(hG2 K U h).2⟩)
   have HKV:=hI hk
   clear hbk hle hF2 hG2 hk hLP HK hv2
   go_wp2_with fail
   refine HKK.out _ _ ?_
   clear HKK
   refine seq_hid fun KK2 HKK2=>?_
   obtain ⟨x0,x1,x2,x3,x4,x5,x6,x7,x8,x9,x10,x11,x12,xf⟩:=cellz13 (HSRC.out _ HKV.out.mb.low)
   go_wp2_with fail
   go_loopw [148] (fun iv wr=>∃ (j : Nat) (Ao : Option Addr) (co : Nat),j≤vb.length∧iv=.int .i64 (j : Int)∧Bk acE AcR 2 87 F2 (fun b=>b=rb) w0 (.slice A1 n1 c1) (.slice A2 n2 c2) (yB za zb zc zd (.slice A2 n2 c2) zf sp.v sg.v (.slice Ah X.length ch) (.slice none 0 0) (.slice none 0 0) (.slice none 0 0)) 9 (.slice Ao j co) ((vb.take j).map fun v=>(⟨v.me,v.li⟩ : Ac)) r1 vp vl vr m wr) (fun iv _=>vb.length - (intOf iv).toNat)
   case atStart=>exact ⟨0,none,0,Nat.zero_le _,rfl,HKV.out⟩
   case round=>
    obtain ⟨j,Ao,co,hj,rfl,hbk⟩:=hrel
    clear x0 x1 x2 x3 x4 x5 x6 x7 x8 x9 x10 x11 x12 xf
    have HK:=hI hbk
    have k0 : (0 : Int)≤(j : Int):=by omega
    by_cases hlt : j < vb.length
    ·have k1 : (j : Int) < (vb.length : Int):=by omega
     obtain ⟨b,o,rfl,hbz,hc⟩:=Lg.at_ Vb.len (HC.out.rd wr hbk.mb.low).1.2.2.2.2.1 hlt
     have hmem : vb[j] ∈ vb:=List.getElem_mem hlt
     have htk:=List.take_succ_eq_append_getElem hlt
     have hrd:=(HC.out.rd wr hbk.mb.low).2.1.2.2.2.2.1.2 _ hmem
     obtain ⟨⟨nm,me_,⟨lA,lc,ll⟩⟩,hy⟩ : ∃ y,vb[j]=y:=⟨_,rfl⟩
     rw [hy] at hc htk hrd
     obtain ⟨L,hL⟩ : ∃ L,(vb.take j).map (fun v=>(⟨v.me,v.li⟩ : Ac))=L:=⟨_,rfl⟩
     have HTK:=hI (show (vb.take (j + 1)).map (fun v=>(⟨v.me,v.li⟩ : Ac))=L ++ [(⟨me_,⟨lA,lc,ll⟩⟩ : Ac)] by rw [htk,List.map_append,hL];rfl)
     have HLL:=hI (show L.length=j by rw [← hL,List.length_map,List.length_take];omega)
     rw [hL] at HK
     have HRD:=hI (show ∀ U,Below wr.heap.size wr U→AcR (fun b=>b < w.heap.size) U (⟨me_,⟨lA,lc,ll⟩⟩ : Ac) from fun U h=>Lg.keep Ln.stays (Keep.below h) hrd)
     have e0 : wr.cell? ⟨b,o + j * 3,none⟩=some (.string (str nm)):=hc 0 _ rfl
     have e1 : wr.cell? ⟨b,o + j * 3 + 1,none⟩=some (.bool me_):=hc 1 _ rfl
     have e2 : wr.cell? ⟨b,o + j * 3 + 2,none⟩=some (.slice lA ll.length lc):=hc 2 _ rfl
     clear hc hy htk hL hbz hbk hmem hrd
     go_upto_region 23 with fail
     obtain ⟨w1,hw1⟩ : ∃ W,wr.alloc (.cells #[.string (str nm),.bool me_,.slice lA ll.length lc] 85)=W:=⟨_,rfl⟩
     obtain ⟨mm1,ms1,b1⟩:=made hw1
     rw [hw1]
     obtain ⟨pb,hpb⟩ : ∃ p,wr.heap.size=p:=⟨_,rfl⟩
     have HK2:=hI (Bk.below stays_ac HF2.out HK.out b1)
     have HNE:=hI (show Value.ownBlock (.slice Ao j co) ≠ some pb from fun c=>by have:=(HK.out.ow.lt c).2;omega)
     have HB1:=hI b1
     rw [hpb] at mm1 ⊢
     have HPB:=hI mm1
     clear e0 e1 e2 hw1 mm1 ms1 b1 hpb
     have hS0 : w1.drew.cell? ⟨w0.heap.size,11,none⟩=some (.slice Ao j co)∧w1.drew.heap[pb]?=some (.cells #[.string (str nm),.bool me_,.slice lA ll.length lc] 85 (0,0)):=⟨(HK2.out.cell (by omega)).1,HPB.out⟩
     have hx0 : AcR (fun b=>¬ Dm w0 vp vl vr b∧¬ (b=rb∨Value.ownBlock (.slice Ao j co)=some b)) w1.drew (⟨me_,⟨lA,lc,ll⟩⟩ : Ac):=stays_ac _ _ _ _ _ (Keep.weak fun b hb _=>⟨fun hd=>by have:=(HK.out.mb.dm hd).1;have:=HWW.out;omega,fun c=>by
      have hrw:=HC.out.rw
      rcases c with c | c
      ·omega
      ·have:=(HK.out.ow.lt c).1;have:=HWW.out;omega⟩) (HRD.out _ (HB1.out.trans (Below.drew (Below.refl w1.heap.size w1) |>.mono HB1.out.size)))
     refine RgD.begin_ [12,13,14] (fun U=>U.cell? ⟨w0.heap.size,11,none⟩=some (.slice Ao j co)∧U.heap[pb]?=some (.cells #[.string (str nm),.bool me_,.slice lA ll.length lc] 85 (0,0))) (by kernel_rfl) hS0 (fun hHeld=>?_)
     refine tK 0 152 (h:=?_)
     simp only [zA,zB,zC]
     refine tK 1 153 (h:=?_)
     simp only [zA,zB,zC]
     refine tK 2 154 (h:=?_)
     simp only [zA,zB,zC]
     refine tK 3 155 (h:=?_)
     simp only [zA,zB,zC]
     refine tK 4 156 (v:=.slice Ao j co) (hy:=by intro w0 hSw;have z0:=hSw.1;first | (go_simp;done) | (go_simp;with_reducible rfl) | (go_simp;intro hc;exfalso;omega)) (h:=?_)
     simp only [zA,zB,zC]
     refine tK 5 157 (h:=?_)
     simp only [zA,zB,zC]
     refine tK 6 158 (v:=.bool me_) (hy:=by intro w0 hSw;obtain ⟨z1,z2,z3⟩:=pcz3 hSw.2;first | (go_simp;done) | (go_simp;with_reducible rfl) | (go_simp;intro hc;exfalso;omega)) (h:=?_)
     simp only [zA,zB,zC]
     refine tK 7 159 (h:=?_)
     simp only [zA,zB,zC]
     refine tK 8 160 (v:=.slice lA ll.length lc) (hy:=by intro w0 hSw;obtain ⟨z1,z2,z3⟩:=pcz3 hSw.2;first | (go_simp;done) | (go_simp;with_reducible rfl) | (go_simp;intro hc;exfalso;omega)) (h:=?_)
     simp only [zA,zB,zC]
     refine tK 9 161 (h:=?_)
     simp only [zA,zB,zC]
     refine RgD.one (i:=10) (by kernel_rfl) ?_
     obtain ⟨w10,hw⟩ : ∃ W,w1.drew.alloc (.cells #[.bool me_,.slice lA ll.length lc] 87)=W:=⟨_,rfl⟩
     have hb:=(made hw).2.2
     have HK10:=hI (Bk.below stays_ac HF2.out (Bk.below stays_ac HF2.out HK2.out (Below.drew (Below.refl _ _))) hb)
     have hz : Sk.Rd acE w10 (some ⟨w1.heap.size,0,none⟩) 1 [(⟨me_,⟨lA,lc,ll⟩⟩ : Ac)]:=by rw [← hw];exact Sk.rd_lit (enc:=acE) _ 87 [(⟨me_,⟨lA,lc,ll⟩⟩ : Ac)] _ rfl 1 rfl
     have hx10:=stays_ac _ _ _ _ _ (Keep.below hb) hx0
     have q010:=(hb.block _ (Array.getElem?_eq_some_iff.1 hS0.2).1).trans hS0.2
     have gS10 : (fun U=>U.cell? ⟨w0.heap.size,11,none⟩=some (.slice Ao j co)∧U.heap[pb]?=some (.cells #[.string (str nm),.bool me_,.slice lA ll.length lc] 85 (0,0))) w10:=⟨(HK10.out.cell (by omega)).1,q010⟩
     refine RgD.eff (i:=10) (t:=162) (v:=.slice (some ⟨w1.heap.size,0,none⟩) 1 1) (w1:=w10) rfl rfl (by rfl) (by first | (go_simp;done) | (go_simp;with_reducible rfl) | (go_simp;rw [hw];rfl) | (go_simp;exact ⟨rfl,hw⟩) | (go_simp;exact hw)) gS10 ?_
     simp only [zA,zB,zC]
     clear hb hw
     refine RgD.one (i:=11) (by kernel_rfl) ?_
     refine RgD.app elA (i:=11) (t:=163) (.tmp 156) (.tmp 162) rfl rfl (by rfl) rfl rfl HK10.out.ow.own (some ⟨w1.heap.size,0,none⟩) 1 1 [(⟨me_,⟨lA,lc,ll⟩⟩ : Ac)] rfl hz (by have h1:=HLL.out;unfold maxLen;omega) (by have h1:=HLL.out;omega) (Nat.le_of_lt HK10.out.mb.lt) ?_
     intro v11 w11 ho hb hg hv
     have HK11:=hI (Bk.app stays_ac HF2.out (by omega) HK10.out ho hg hv (fun x hx=>by simp only [List.mem_singleton] at hx;rw [hx];exact hx10))
     have hc11 : w11.cell? ⟨w0.heap.size,11,none⟩=w10.cell? ⟨w0.heap.size,11,none⟩:=World.cell?_of_block (hg.block w0.heap.size HK10.out.mb.lt (fun c=>(HK10.out.ow.row _ c.symm).1 (.inl rfl)))
     have d11:=hc11.trans gS10.1
     have q011:=(hg.block _ (Array.getElem?_eq_some_iff.1 q010).1 (fun c=>HNE.out c.symm)).trans q010
     have gS11 : (fun U=>U.cell? ⟨w0.heap.size,11,none⟩=some (.slice Ao j co)∧U.heap[pb]?=some (.cells #[.string (str nm),.bool me_,.slice lA ll.length lc] 85 (0,0))) w11:=⟨d11,q011⟩
     have ff11:=frz (hg.block w0.heap.size HK10.out.mb.lt (fun c=>(HK10.out.ow.row _ c.symm).1 (.inl rfl))) (HK10.out.cell (by omega)).2
     refine ⟨gS11,?_⟩
     simp only [zA,zB,zC]
     obtain ⟨A11,c11,rfl,_,_⟩:=ho.shape
     have hlen : (L ++ [(⟨me_,⟨lA,lc,ll⟩⟩ : Ac)]).length=j + 1:=by rw [List.length_append,HLL.out];rfl
     rw [hlen] at HK11 ⊢
     clear hlen ho hb hg hv hz hc11 hx10
     refine RgD.tk0 12 164 (h:=?_)
     simp only [zA,zB,zC]
     refine RgD.tk0 13 165 (h:=?_)
     simp only [zA,zB,zC]
     refine RgD.one (i:=14) (by kernel_rfl) ?_
     obtain ⟨w12,hw⟩ : ∃ W,w11.setCell ⟨w0.heap.size,11,none⟩ (.slice A11 (j + 1) c11)=W:=⟨_,rfl⟩
     rw [hw] at HK11
     refine RgD.store (i:=14) (w1:=w12) rfl rfl (by rfl) (by kernel_rfl) (by first | (go_simp;done) | (go_simp;exact hw) | (go_simp;rw [hw])) ?_
     refine RgD.done (by kernel_rfl) ?_ _
     clear hS0 hw d11 ff11 gS10 gS11 q010 q011 hx0
     go_wp2_with fail
     go_roundw
     case rel=>exact ⟨j + 1,A11,c11,by omega,by go_num,by rw [HTK.out];exact HK11.out⟩
     case measure=>simp [intOf];omega
    ·obtain rfl : vb.length=j:=by omega
     rw [List.take_length] at hbk
     obtain ⟨Av,cv,F3,Y3,hv3,hY3,hF3,hG3,hk⟩:=Bk.next deE DeR 6 91 stays_ac HF2.out hbk (i':=10) (by omega) rfl
     rw [yB_9] at hY3
     subst hY3
     have HLAST:=hI (And.intro hF3 (And.intro hG3 hk))
     clear hF3 hG3 hk hbk hv3 HK
     go_wp2_with fail
     obtain ⟨hF3,hG3,hk⟩:=HLAST.out
     refine HKK2.out _ _ ?_
     have hG:=HG2.out
     have hz:=HZ.out
     have hbp : (⟨za,zb,zc,zd,tx,zf,sp.l,sg.l,X.map Th.p,(vb.map fun v=>(⟨v.me,v.li⟩ : Ac)).map fun a=>(a.me,lnP a.li),(desI t tx (r1,[]) ru).2,(fnsI t tx ((desI t tx (r1,[]) ru).1,[]) fn).2,(dmsI t tx ((fnsI t tx ((desI t tx (r1,[]) ru).1,[]) fn).1,[]) dm).2,(dmsI t tx ((fnsI t tx ((desI t tx (r1,[]) ru).1,[]) fn).1,[]) dm).1⟩ : Bp)=BP:=by
      obtain ⟨h1,h2,h3,h4,h5⟩:=HZZ.out
      rw [← HBP.out,HXP.out.1,List.map_map]
      unfold bookI
      simp only [← HPL.out.1,HR0.out,HLP.out]
      rw [h1,h2,h3,h4,h5,HPL.out.2]
      rfl
     exact tail9 w w0 ⟨ti,by_,st,re,mx,⟨fA,fc,fl⟩,⟨pA,pc,pr⟩,⟨gA,gc,gl⟩,⟨oA,oc,ob⟩,⟨vA,vc,vb⟩,⟨rA,rc,ru⟩,⟨nA,nc,fn⟩,⟨dA,dc,dm⟩⟩ t tx A1 n1 c1 A2 n2 c2 sb rb HC F3 (hI hF3) za zb zc zd zf sp sg ⟨Ah,ch,X⟩ ⟨Av,cv,vb.map fun v=>(⟨v.me,v.li⟩ : Ac)⟩ (hI fun K U h=>⟨(hG K U (hG3 K U h).1).1,(hG K U (hG3 K U h).1).2.1,(hG K U (hG3 K U h).1).2.2,(hG3 K U h).2⟩) r1 (0 + (ob.map Ob.m).sum) (hI ⟨HLE.out,by simp only;omega⟩) vp vl vr m wr (hI hk) BP (hI hbp) _ _ _ _ _ _ _ _ _ _ _ _ _ _ _ _ _ _ _ _ _ _ _ _ _ _ _ _ _ _ _ _ _ _ _ _ _ _ _ _ _ _ _ _ _ _ _ _ _ _ _ _ _ _ _ _ _ _ _ _ _ _ _ _ _ _ _ _ _ _ _ _ _ _ _ _ _ _ _ _ _ _ _ _ _ _ _ _ _ _ _ _ _ _ _ _ _ _ _ _ _ _ _ _ _ _ _ _ _ _ _ _ _ _ _ _ _ _ _ _ _ _ _ _ _ _ _ _ _ _ _ _ _ _ _ _ _ _ _ _ _ _ _ _ _ _ _ _ _ _ _ _ _ _ _ _ _ _ _ _ _ _ _ _ _ _ _ _ _ _ _ _ _ _ _ _ _ _ _ _ _ _ _ _ _ _ _ _ _ _ _ _ _ _ _ _ _ _ _ _ _ _ _ _ _ _ _ _ _ _ _ _ _ _ _ _ _ _ _ _ _ _ _ _ _ _ _ _ _ _ _ _ _ _ _ _ _ _ _ _ _ _ _ _ _ _ _ _ _ _ _ _
end Go.Proofs.YteibcfpepdbflaaGreat.BkM
