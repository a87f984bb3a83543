/- bind.Book's last loops: its functions, its daemons, and the book that is returned. Conditions: sizes within the reach. -/
import Derived.Test.YteibcfpepdbflaaGreatBkH
import Derived.Test.YteibcfpepdbflaaGreatBkI
import Derived.Test.YteibcfpepdbflaaGreatTxA
open Go.Lib renaming hid → hI
open Go.Proofs.YteibcfpepdbflaaGreat.RgD renaming tk → tK, sA → zA, s0 → zB, s1 → zC
namespace Go.Proofs.YteibcfpepdbflaaGreat.BkK
open Go Go.RowKit BindP BindD BindO BindW BindN BindG BindX BindB BindS BindK BindT BindA BkA BkB BkC BkD BkE BkF BkG BkH BkI TxA
open Byt (str)
def nth : Nat→Code→Code
 | 0,c=>c
 | n + 1,.seq _ b=>nth n b
 | _,c=>c
noncomputable def body18 : Code:=Tryz.f7.body.getD .skip
def BkV (p : Bp) (w : World) (e : Ending) (w' : World) : Prop:=∃ b : Bo,e=.returned (.agg (Bo.e b).toArray)∧Bo.p b=p∧Bo.R w' b∧Below w.heap.size w w'
theorem row_none {w w' : World} (h : Below w.heap.size w w') : w.grownBy w' none:=⟨h.os,h.tape,h.output,h.size,fun b hl _=>h.block b hl⟩
theorem frz {w w' : World} {b : Nat} (h : w'.heap[b]?=w.heap[b]?) (hf : ∀ o,w.frozen? ⟨b,o,none⟩=false) : ∀ o,w'.frozen? ⟨b,o,none⟩=false:=fun o=>by
 have h1:=hf o
 unfold World.frozen? at h1 ⊢
 rw [h]
 exact h1
theorem pc1 {w : World} {b : Nat} {x0 x1 : Value} {t : TypeId} (h : w.heap[b]?=some (.cells #[x0,x1] t (0,0))) : w.cell? ⟨b,1,none⟩=some x1:=by simp [World.cell?,h]
def vn : Value:=.slice none 0 0
def yB (a b c d : Int) (e : Value) (f : Int) (p g h ac de fu : Value) : Nat→Value
 | 0=>.int .i64 a
 | 1=>.int .i64 b
 | 2=>.int .i64 c
 | 3=>.int .i64 d
 | 4=>e
 | 5=>.int .i64 f
 | 6=>p
 | 7=>g
 | 8=>h
 | 9=>ac
 | 10=>de
 | 11=>fu
 | _=>.slice none 0 0
def Z16 : Array Value:=#[.int .i64 0,.int .i64 0,.int .i64 0,.int .i64 0,.slice none 0 0,.int .i64 0,.slice none 0 0,.slice none 0 0,.slice none 0 0,.slice none 0 0,.slice none 0 0,.slice none 0 0,.slice none 0 0,.slice none 0 0,.slice none 0 0,.slice none 0 0]
structure Cx (w w0 : World) (so : So) (t : List Nm) (tx : List S) (A1 : Option Addr) (n1 : Nat) (A2 : Option Addr) (n2 : Nat) (sb rb : Nat) : Prop where
 bs : Bs w0 A1 n1 t A2 n2 tx
 src : ∀ U,Below w0.heap.size w0 U→U.heap[sb]?=some (.cells (So.e so).toArray 29 (0,0))
 res : ∀ U,Below w0.heap.size w0 U→U.heap[rb]?=some (.cells Z16 42 (0,0))
 rd : ∀ U,Below w0.heap.size w0 U→So.R top U so∧So.R (fun b=>b < w.heap.size) U so∧Below w.heap.size w U
 m : So.m so≤1048576
 rw : w.heap.size≤rb∧rb < w0.heap.size
 xb : ∀ b o,A2=some ⟨b,o,none⟩→0 < n2→b ≠ rb
 nx : tx.length=n2
theorem upto_dm {α : Type} {enc : α→List Value} {R : (Nat→Prop)→World→α→Prop} (hR : Stays R) {X : Nat→Prop} {w0 : World} {tv xv : Value} {y : Nat→Value} {w : World} {vp vl vr : Value} {m : Ms} (h : Mb X w0 tv xv y w vp vl vr m) {A : Option Addr} {c : Nat} {l : List α} {B : Nat} (hB : B≤w0.heap.size) (r : Lg enc R (fun b=>b < B) w A c l) : Lg enc R (fun b=>¬ Dm w0 vp vl vr b) w A c l:=
 Lg.keep hR (Keep.weak fun b hb _ hd=>by have:=(h.dm hd).1;omega) r
theorem fnsI_take {t : List Nm} {tx : List S} {r : Mp × List Int} {l : List BindO.Fn} {j : Nat} (h : j < l.length) : fnsI t tx r (l.take (j + 1))=fnwI t tx (fnsI t tx r (l.take j)) l[j]:=foldl_take _ _ h
theorem dmsI_take {t : List Nm} {tx : List S} {r : Mp × List Int} {l : List BindO.Fn} {j : Nat} (h : j < l.length) : dmsI t tx r (l.take (j + 1))=dmwI t tx (dmsI t tx r (l.take j)) l[j]:=foldl_take _ _ h
theorem fnsI_len {t : List Nm} {tx : List S} : ∀ (l : List BindO.Fn) (r : Mp × List Int),(fnsI t tx r l).2.length=r.2.length + l.length
 | [],r=>rfl
 | o :: l,r=>by
  have h:=fnsI_len (t:=t) (tx:=tx) l (fnwI t tx r o)
  have e : (fnwI t tx r o).2.length=r.2.length + 1:=by simp [fnwI]
  rw [e] at h
  rw [List.length_cons]
  show (fnsI t tx (fnwI t tx r o) l).2.length=_
  omega
theorem dmsI_len {t : List Nm} {tx : List S} : ∀ (l : List BindO.Fn) (r : Mp × List Int),(dmsI t tx r l).2.length=r.2.length + l.length
 | [],r=>rfl
 | o :: l,r=>by
  have h:=dmsI_len (t:=t) (tx:=tx) l (dmwI t tx r o)
  have e : (dmwI t tx r o).2.length=r.2.length + 1:=by simp [dmwI]
  rw [e] at h
  rw [List.length_cons]
  show (dmsI t tx (dmwI t tx r o) l).2.length=_
  omega
theorem own_lg {α : Type} {enc : α→List Value} {R : (Nat→Prop)→World→α→Prop} {k : Nat} {E : TypeId} {l : List α} {B : Nat} {V : World} {A : Option Addr} {n c : Nat} (hR : Stays R) (hr : ∀ K U x,R K U x) (ho : Sk.Own enc k E V B (.slice A n c) l) : Lg enc R (fun b=>B≤b) V A c l:=by
 have hO : Ow enc R k E (fun b=>B≤b) V B (.slice A n c) l:=⟨ho,fun g e=>(World.ownsRow.lt ho g e).1,fun x _=>hr _ _ x⟩
 obtain ⟨A9,c9,e9,hl⟩:=hO.list hR
 injection e9 with e1 e2 e3
 subst e1 e3
 exact hl
theorem rd_other {w w' : World} {A : Option Addr} {n : Nat} {l : List S} (h : Sq.Rd sv w A n l) (hs : w.heap.size≤w'.heap.size) (hb : ∀ b o,A=some ⟨b,o,none⟩→0 < n→w'.heap[b]?=w.heap[b]?) : Sq.Rd sv w' A n l:=by
 refine ⟨h.1,fun hn=>?_⟩
 obtain ⟨b,o,e,hlt,hc⟩:=h.2 hn
 refine ⟨b,o,e,Nat.lt_of_lt_of_le hlt hs,fun i x hx=>?_⟩
 rw [← hc i x hx]
 unfold World.cell?
 rw [hb b o e hn]
theorem ret_bk (p : Tmp) (g : Nat) (y0 y1 y2 y3 y4 y5 y6 y7 y8 y9 y10 y11 y12 y13 y14 y15 : Value) {fn : Func} {Q : Ending→World→Prop} {a : Act} {w : World} (hg : w.heap[g]?=some (.cells #[y0,y1,y2,y3,y4,y5,y6,y7,y8,y9,y10,y11,y12,y13,y14,y15] 42 (0,0)))
  (h : fn.results=#[.cell p 42]) (hp : a.tmps.getD p undef=.pointer (some ⟨g,0,none⟩)) (hdf : a.defers=[]) (hq : Q (.returned (.agg #[y0,y1,y2,y3,y4,y5,y6,y7,y8,y9,y10,y11,y12,y13,y14,y15])) w) : bodyPost Tryz.prog fn Q .ret a w:=
 ret_c (d:=_) (cs:=#[y0,y1,y2,y3,y4,y5,y6,y7,y8,y9,y10,y11,y12,y13,y14,y15]) (t':=42) (fr:=(0,0)) hg h hp Tryz.underlying42 rfl (by kernel_rfl) hdf hq
theorem cells16 {w : World} {g : Nat} {x0 x1 x2 x3 x4 x5 x6 x7 x8 x9 x10 x11 x12 x13 x14 x15 : Value} {t : TypeId} (h : w.heap[g]?=some (.cells #[x0,x1,x2,x3,x4,x5,x6,x7,x8,x9,x10,x11,x12,x13,x14,x15] t (0,0))) : w.cell? ⟨g,0,none⟩=some x0∧w.cell? ⟨g,1,none⟩=some x1∧w.cell? ⟨g,2,none⟩=some x2∧w.cell? ⟨g,3,none⟩=some x3∧w.cell? ⟨g,4,none⟩=some x4∧w.cell? ⟨g,5,none⟩=some x5∧w.cell? ⟨g,6,none⟩=some x6∧w.cell? ⟨g,7,none⟩=some x7∧w.cell? ⟨g,8,none⟩=some x8∧w.cell? ⟨g,9,none⟩=some x9∧w.cell? ⟨g,10,none⟩=some x10∧w.cell? ⟨g,11,none⟩=some x11∧w.cell? ⟨g,12,none⟩=some x12∧w.cell? ⟨g,13,none⟩=some x13∧w.cell? ⟨g,14,none⟩=some x14∧w.cell? ⟨g,15,none⟩=some x15∧∀ o,w.frozen? ⟨g,o,none⟩=false:=by
 refine ⟨by simp [World.cell?,h],by simp [World.cell?,h],by simp [World.cell?,h],by simp [World.cell?,h],by simp [World.cell?,h],by simp [World.cell?,h],by simp [World.cell?,h],by simp [World.cell?,h],by simp [World.cell?,h],by simp [World.cell?,h],by simp [World.cell?,h],by simp [World.cell?,h],by simp [World.cell?,h],by simp [World.cell?,h],by simp [World.cell?,h],by simp [World.cell?,h],fun o=>by simp [World.frozen?,h]⟩
theorem pcz3 {w : World} {b : Nat} {x0 x1 x2 : Value} {t : TypeId} (h : w.heap[b]?=some (.cells #[x0,x1,x2] t (0,0))) : w.cell? ⟨b,0,none⟩=some x0∧w.cell? ⟨b,1,none⟩=some x1∧w.cell? ⟨b,2,none⟩=some x2:=⟨by simp [World.cell?,h],by simp [World.cell?,h],by simp [World.cell?,h]⟩
set_option maxRecDepth 100000 in
set_option maxHeartbeats 64000000 in
theorem tail10 (w w0 : World) (so : So) (t : List Nm) (tx : List S) (A1 : Option Addr) (n1 c1 : Nat) (A2 : Option Addr) (n2 c2 : Nat) (sb rb : Nat) (HC : Hid (Cx w w0 so t tx A1 n1 A2 n2 sb rb)) (F : (Nat→Prop)→World→Prop) (HF : Hid (Firm F)) (za zb zc zd zf : Int) (sp sg : Sv Int) (sh : Sv Th) (sa : Sv Ac) (sd : Sv De)
  (HG : Hid (∀ K U,F K U→Lg inE RtI K U sp.a sp.c sp.l∧Lg inE RtI K U sg.a sg.c sg.l∧Lg thE ThR K U sh.a sh.c sh.l∧Lg acE AcR K U sa.a sa.c sa.l∧Lg deE DeR K U sd.a sd.c sd.l)) (r0 : Mp) (n0 : Nat) (HN0 : Hid (r0.le n0∧n0 + so.fn.l.length + so.dm.l.length≤2097152))
  (vp vl vr : Value) (m : Ms) (wq : World) (HK0 : Hid (Bk inE RtI 1 3 F (fun b=>b=rb) w0 (.slice A1 n1 c1) (.slice A2 n2 c2) (yB za zb zc zd (.slice A2 n2 c2) zf sp.v sg.v sh.v sa.v sd.v (.slice none 0 0)) 11 (.slice none 0 0) [] r0 vp vl vr m wq)) (BP : Bp)
  (HBP : Hid ((⟨za,zb,zc,zd,tx,zf,sp.l,sg.l,sh.l.map Th.p,sa.l.map fun a=>(a.me,lnP a.li),sd.l,(fnsI t tx (r0,[]) so.fn.l).2,(dmsI t tx ((fnsI t tx (r0,[]) so.fn.l).1,[]) so.dm.l).2,(dmsI t tx ((fnsI t tx (r0,[]) so.fn.l).1,[]) so.dm.l).1⟩ : Bp)=BP))
  (v0 v3 v7 v8 v9 v10 v11 v12 v13 v14 v15 v16 v17 v18 v19 v20 v21 v22 v23 v24 v25 v26 v27 v28 v29 v30 v31 v32 v33 v34 v35 v36 v37 v38 v39 v40 v41 v42 v43 v44 v45 v46 v47 v48 v49 v50 v51 v52 v53 v54 v55 v56 v57 v58 v59 v60 v61 v62 v63 v64 v65 v66 v67 v68 v69 v70 v71 v72 v73 v74 v75 v76 v77 v78 v79 v80 v81 v82 v83 v84 v85 v86 v87 v88 v89 v90 v91 v92 v93 v94 v95 v96 v97 v98 v99 v100 v101 v102 v103 v104 v105 v106 v107 v108 v109 v110 v111 v112 v113 v114 v115 v116 v117 v118 v119 v120 v121 v122 v123 v124 v125 v126 v127 v128 v129 v130 v131 v132 v133 v134 v135 v136 v137 v138 v139 v140 v141 v142 v143 v144 v145 v146 v147 v148 v149 v150 v151 v152 v153 v154 v155 v156 v157 v158 v159 v160 v161 v162 v163 v164 v165 v166 v167 v168 v169 v170 v171 v172 v173 v174 v175 v176 v177 v178 v179 v180 v181 v182 v183 v184 v185 v186 v187 v188 v189 v190 v191 v192 v193 v194 v195 v196 v197 v198 v199 v200 v201 v202 v203 v204 v205 v206 v207 v208 v209 v210 v211 v212 v213 v214 v215 v216 v217 v218 v219 v220 v221 v222 v223 v224 v225 v226 v227 v228 v229 v230 v231 v232 v233 v234 v235 v236 v237 v238 v239 v240 v241 v242 v243 v244 v245 v246 v247 v248 v249 v250 v251 v252 v253 v254 v255 v256 : Value) : Code.wp Tryz.prog (nth 10 body18) (bodyPost Tryz.prog Tryz.f7 (BkV BP w)) ⟨#[v0,.slice A1 n1 c1,.pointer (some ⟨sb,0,none⟩),v3,.pointer (some ⟨rb,0,none⟩),.pointer (some ⟨w0.heap.size,0,none⟩),.pointer (some ⟨w0.heap.size,2,none⟩),v7,v8,v9,v10,v11,v12,v13,v14,v15,v16,v17,v18,v19,v20,v21,v22,v23,v24,v25,v26,v27,v28,v29,v30,v31,v32,v33,v34,v35,v36,v37,v38,v39,v40,v41,v42,v43,v44,v45,v46,v47,v48,v49,v50,v51,v52,v53,v54,v55,v56,v57,v58,v59,v60,v61,v62,v63,v64,v65,v66,v67,v68,v69,v70,v71,v72,v73,v74,v75,v76,v77,v78,v79,v80,v81,v82,v83,v84,v85,v86,v87,v88,v89,v90,v91,v92,v93,v94,v95,v96,v97,v98,v99,v100,v101,v102,v103,v104,v105,v106,v107,v108,v109,v110,v111,v112,v113,v114,v115,v116,v117,v118,v119,v120,v121,v122,v123,v124,v125,v126,v127,v128,v129,v130,v131,v132,v133,v134,v135,v136,v137,v138,v139,v140,v141,v142,v143,v144,v145,v146,v147,v148,v149,v150,v151,v152,v153,v154,v155,v156,v157,v158,v159,v160,v161,v162,v163,v164,v165,v166,v167,v168,v169,v170,v171,v172,v173,v174,v175,v176,v177,v178,v179,v180,v181,v182,v183,v184,v185,v186,v187,v188,v189,v190,v191,v192,v193,v194,v195,v196,v197,v198,v199,v200,v201,v202,v203,v204,v205,v206,v207,v208,v209,v210,v211,v212,v213,v214,v215,v216,v217,v218,v219,v220,v221,v222,v223,v224,v225,v226,v227,v228,v229,v230,v231,v232,v233,v234,v235,v236,v237,v238,v239,v240,v241,v242,v243,v244,v245,v246,v247,v248,v249,v250,v251,v252,v253,v254,v255,v256],[]⟩ wq:=by
 obtain ⟨ti,by_,st,re,mx,⟨fA,fc,fl⟩,⟨pA,pc,pr⟩,⟨gA,gc,gl⟩,⟨oA,oc,ob⟩,⟨vA,vc,vb⟩,⟨rA,rc,ru⟩,⟨nA,nc,fn⟩,⟨dA,dc,dm⟩⟩:=so
 have HSRC:=hI (show ∀ U,Below w0.heap.size w0 U→U.heap[sb]?=some (.cells #[.string (str ti),.string (str by_),.string (str st),.int .i64 re,.int .i64 mx,.slice fA fl.length fc,.slice pA pr.length pc,.slice gA gl.length gc,.slice oA ob.length oc,.slice vA vb.length vc,.slice rA ru.length rc,.slice nA fn.length nc,.slice dA dm.length dc] 29 (0,0)) from fun U h=>HC.out.src U h)
 have HZ:=hI (show (fn.map BindO.Fn.m).sum≤1048576∧(dm.map BindO.Fn.m).sum≤1048576 by have hz:=HC.out.m;unfold So.m at hz;simp only at hz;omega)
 have zN : fn.length≤1048576:=Nat.le_trans (sum_len (m:=BindO.Fn.m) (fun _=>by unfold BindO.Fn.m;omega) fn) HZ.out.1
 have zD : dm.length≤1048576:=Nat.le_trans (sum_len (m:=BindO.Fn.m) (fun _=>by unfold BindO.Fn.m;omega) dm) HZ.out.2
 have HN1:=hI (show r0.le n0∧n0 + fn.length + dm.length≤2097152 from HN0.out)
 have HWW:=hI (show w.heap.size≤w0.heap.size by have:=HC.out.rw;omega)
 conv=>arg 2;whnf
 obtain ⟨x0,x1,x2,x3,x4,x5,x6,x7,x8,x9,x10,x11,x12,xf⟩:=cellz13 (HSRC.out _ HK0.out.mb.low)
 go_wp2_with fail
 go_loopw [212] (fun iv wr=>∃ (j : Nat) (Ao : Option Addr) (co : Nat) (vp vl vr : Value) (m : Ms),j≤fn.length∧iv=.int .i64 (j : Int)∧Bk inE RtI 1 3 F (fun b=>b=rb) w0 (.slice A1 n1 c1) (.slice A2 n2 c2) (yB za zb zc zd (.slice A2 n2 c2) zf sp.v sg.v sh.v sa.v sd.v (.slice none 0 0)) 11 (.slice Ao j co) (fnsI t tx (r0,[]) (fn.take j)).2 (fnsI t tx (r0,[]) (fn.take j)).1 vp vl vr m wr) (fun iv _=>fn.length - (intOf iv).toNat)
 case atStart=>exact ⟨0,none,0,_,_,_,_,Nat.zero_le _,rfl,HK0.out⟩
 case round=>
  obtain ⟨j,Ao,co,vp,vl,vr,m,hj,rfl,hbk⟩:=hrel
  clear x0 x1 x2 x3 x4 x5 x6 x7 x8 x9 x10 x11 x12 xf
  have HK:=hI hbk
  have k0 : (0 : Int)≤(j : Int):=by omega
  by_cases hlt : j < fn.length
  ·have k1 : (j : Int) < (fn.length : Int):=by omega
   obtain ⟨b,o,rfl,hbz,hc⟩:=Lg.at_ BindO.Fn.len (HC.out.rd wr hbk.mb.low).1.2.2.2.2.2.2.1 hlt
   have hmem : fn[j] ∈ fn:=List.getElem_mem hlt
   have htk:=fnsI_take (t:=t) (tx:=tx) (r:=(r0,[])) hlt
   have hrd:=(HC.out.rd wr hbk.mb.low).2.1.2.2.2.2.2.2.1.2 _ hmem
   have hsm:=sum_mem (m:=BindO.Fn.m) fn _ hmem
   obtain ⟨⟨fnm,⟨qA,qc,ql⟩,⟨bA,bc,bl⟩⟩,hy⟩ : ∃ y,fn[j]=y:=⟨_,rfl⟩
   rw [hy] at hc htk hrd hsm
   have hmm : nB (stPs bl)≤BindO.Fn.m ⟨fnm,⟨qA,qc,ql⟩,⟨bA,bc,bl⟩⟩∧(ql.map fun x=>x.length + 1).sum≤BindO.Fn.m ⟨fnm,⟨qA,qc,ql⟩,⟨bA,bc,bl⟩⟩:=by unfold BindO.Fn.m;simp only;omega
   have hql:=sum_len (m:=fun x : S=>x.length + 1) (fun _=>by omega) ql
   have hz:=HZ.out
   have HBL:=hI (show nB (stPs bl)≤1048576∧ql.length≤1048576 by omega)
   have hle:=fnsI_le (t:=t) (tx:=tx) (fn.take j) (r0,[]) _ HN1.out.1
   rw [List.length_take,Nat.min_eq_left (by omega)] at hle
   obtain ⟨⟨rj,L⟩,hL⟩ : ∃ q,fnsI t tx (r0,[]) (fn.take j)=q:=⟨_,rfl⟩
   have HLL:=hI (show L.length=j by
    have h:=fnsI_len (t:=t) (tx:=tx) (fn.take j) (r0,[])
    rw [hL,List.length_take] at h
    simp only [List.length_nil] at h
    omega)
   rw [hL] at HK htk hle
   dsimp only at HK hle
   have HTK:=hI htk
   have HML:=hI (show m.le 2097152 by
    have h1:=HN1.out.2
    exact ms_le (mp_mono (HK.out.p ▸ hle) (by omega)))
   have HRD:=hI (show ∀ U,Below wr.heap.size wr U→Lg svE Rt (fun b=>¬ Dm w0 vp vl vr b) U qA qc ql∧Ls (fun b=>¬ Dm w0 vp vl vr b) U bA bc bl from fun U h=>⟨Lg.below stays_t h (upto_dm stays_t HK.out.mb HWW.out hrd.1),Lg.below stays_s h (upto_dm stays_s HK.out.mb HWW.out hrd.2)⟩)
   have e0 : wr.cell? ⟨b,o + j * 3,none⟩=some (.string (str fnm)):=hc 0 _ rfl
   have e1 : wr.cell? ⟨b,o + j * 3 + 1,none⟩=some (.slice qA ql.length qc):=hc 1 _ rfl
   have e2 : wr.cell? ⟨b,o + j * 3 + 2,none⟩=some (.slice bA bl.length bc):=hc 2 _ rfl
   clear hc hy htk hL hbz hbk hmem hrd hsm hmm hql hz hle
   go_upto_region 35 with fail
   obtain ⟨w1,hw1⟩ : ∃ W,wr.alloc (.cells #[.string (str fnm),.slice qA ql.length qc,.slice bA bl.length bc] 94)=W:=⟨_,rfl⟩
   obtain ⟨mm1,ms1,b1⟩:=made hw1
   rw [hw1]
   obtain ⟨pb,hpb⟩ : ∃ p,wr.heap.size=p:=⟨_,rfl⟩
   have HK1:=hI (Bk.below stays_i HF.out HK.out b1)
   have HNE:=hI (show Value.ownBlock (.slice Ao j co) ≠ some pb from fun c=>by have:=(HK.out.ow.lt c).2;omega)
   have HND:=hI (show ¬ Dm w0 vp vl vr pb from fun c=>by have:=(HK.out.mb.dm c).2;omega)
   have HB1:=hI b1
   rw [hpb] at mm1 ⊢
   have HPB:=hI mm1
   clear e0 e1 e2 hw1 mm1 ms1 b1 hpb
   have hS0 : w1.drew.cell? ⟨w0.heap.size,13,none⟩=some (.slice Ao j co)∧w1.drew.heap[pb]?=some (.cells #[.string (str fnm),.slice qA ql.length qc,.slice bA bl.length bc] 94 (0,0)):=⟨(HK1.out.cell (by omega)).1,HPB.out⟩
   refine RgD.begin_ [13,14,15] (fun U=>U.cell? ⟨w0.heap.size,13,none⟩=some (.slice Ao j co)∧U.heap[pb]?=some (.cells #[.string (str fnm),.slice qA ql.length qc,.slice bA bl.length bc] 94 (0,0))) (by kernel_rfl) hS0 (fun hHeld=>?_)
   refine tK 0 216 (h:=?_)
   simp only [zA,zB,zC]
   refine tK 1 217 (h:=?_)
   simp only [zA,zB,zC]
   refine tK 2 218 (h:=?_)
   simp only [zA,zB,zC]
   refine tK 3 219 (h:=?_)
   simp only [zA,zB,zC]
   refine tK 4 220 (v:=.slice Ao j co) (hy:=by intro w0 hSw;have z0:=hSw.1;first | (go_simp;done) | (go_simp;with_reducible rfl) | (go_simp;intro hc;exfalso;omega)) (h:=?_)
   simp only [zA,zB,zC]
   refine tK 5 221 (h:=?_)
   simp only [zA,zB,zC]
   refine tK 6 222 (h:=?_)
   simp only [zA,zB,zC]
   refine tK 7 223 (v:=.slice qA ql.length qc) (hy:=by intro w0 hSw;obtain ⟨z1,z2,z3⟩:=pcz3 hSw.2;first | (go_simp;done) | (go_simp;with_reducible rfl) | (go_simp;intro hc;exfalso;omega)) (h:=?_)
   simp only [zA,zB,zC]
   refine tK 8 224 (h:=?_)
   simp only [zA,zB,zC]
   refine tK 9 225 (v:=.slice bA bl.length bc) (hy:=by intro w0 hSw;obtain ⟨z1,z2,z3⟩:=pcz3 hSw.2;first | (go_simp;done) | (go_simp;with_reducible rfl) | (go_simp;intro hc;exfalso;omega)) (h:=?_)
   simp only [zA,zB,zC]
   refine RgD.one (i:=10) (by kernel_rfl) ?_
   refine RgD.call (i:=10) (t:=226) rfl rfl (by rfl) (by go_simp;exact ⟨rfl,rfl⟩) ?_
   have hKd:=Bk.below stays_i HF.out HK1.out (Below.drew (Below.refl _ _))
   have hbd:=HB1.out.trans (Below.drew (Below.refl w1.heap.size w1) |>.mono HB1.out.size)
   refine (routine_w _ w0 A1 A2 n1 c1 n2 c2 t tx HC.out.bs _ w1.drew vp vl vr m hKd.mb HML.out ql qA qc (HRD.out _ hbd).1 bl bA bc (HRD.out _ hbd).2 HBL.out.1 HBL.out.2).mono ?_
   intro e w9 hr9
   obtain ⟨vp9,vl9,vr9,m9,rfl,hp9,hM9,hF9⟩:=rt_mk (t:=t) (tx:=tx) (pa:=ql) (l:=stPs bl) (m:=m) hr9
   rw [HK.out.p] at hp9
   have HK9:=hI (Bk.step stays_i HF.out hKd hM9 hp9 hF9)
   have q09 : w9.heap[pb]?=some (.cells #[.string (str fnm),.slice qA ql.length qc,.slice bA bl.length bc] 94 (0,0)):=(hF9.block _ (Array.getElem?_eq_some_iff.1 hS0.2).1 HND.out).trans hS0.2
   have gS9 : (fun U=>U.cell? ⟨w0.heap.size,13,none⟩=some (.slice Ao j co)∧U.heap[pb]?=some (.cells #[.string (str fnm),.slice qA ql.length qc,.slice bA bl.length bc] 94 (0,0))) w9:=⟨(HK9.out.cell (by omega)).1,q09⟩
   have hrs : (m.rs.length : Int)=(rj.rs.length : Int):=by rw [← HK.out.p];unfold Ms.p;simp
   rw [hrs]
   clear hr9 hp9 hM9 hF9 hKd hbd hrs
   refine ⟨_,rfl,gS9,?_⟩
   simp only [zA,zB,zC]
   refine RgD.one (i:=11) (by kernel_rfl) ?_
   obtain ⟨w10,hw⟩ : ∃ W,w9.alloc (.cells #[.int .i64 (rj.rs.length : Int)] 3)=W:=⟨_,rfl⟩
   have hb:=(made hw).2.2
   have HK10:=hI (Bk.below stays_i HF.out HK9.out hb)
   have hz : Sk.Rd inE w10 (some ⟨w9.heap.size,0,none⟩) 1 [(rj.rs.length : Int)]:=by rw [← hw];exact Sk.rd_lit (enc:=inE) _ 3 [(rj.rs.length : Int)] _ rfl 1 rfl
   have q010:=(hb.block _ (Array.getElem?_eq_some_iff.1 q09).1).trans q09
   have gS10 : (fun U=>U.cell? ⟨w0.heap.size,13,none⟩=some (.slice Ao j co)∧U.heap[pb]?=some (.cells #[.string (str fnm),.slice qA ql.length qc,.slice bA bl.length bc] 94 (0,0))) w10:=⟨(HK10.out.cell (by omega)).1,q010⟩
   refine RgD.eff (i:=11) (t:=227) (v:=.slice (some ⟨w9.heap.size,0,none⟩) 1 1) (w1:=w10) rfl rfl (by rfl) (by first | (go_simp;done) | (go_simp;with_reducible rfl) | (go_simp;rw [hw];rfl) | (go_simp;exact ⟨rfl,hw⟩) | (go_simp;exact hw)) gS10 ?_
   simp only [zA,zB,zC]
   clear hb hw
   refine RgD.one (i:=12) (by kernel_rfl) ?_
   refine RgD.app elI (i:=12) (t:=228) (.tmp 220) (.tmp 227) rfl rfl (by rfl) rfl rfl HK10.out.ow.own (some ⟨w9.heap.size,0,none⟩) 1 1 [(rj.rs.length : Int)] rfl hz (by have h1:=HLL.out;unfold maxLen;omega) (by have h1:=HLL.out;omega) (Nat.le_of_lt HK10.out.mb.lt) ?_
   intro v11 w11 ho hb hg hv
   have HK11:=hI (Bk.app stays_i HF.out (by omega) HK10.out ho hg hv (fun _ _=>trivial))
   have hc11 : w11.cell? ⟨w0.heap.size,13,none⟩=w10.cell? ⟨w0.heap.size,13,none⟩:=World.cell?_of_block (hg.block w0.heap.size HK10.out.mb.lt (fun c=>(HK10.out.ow.row _ c.symm).1 (.inl rfl)))
   have d11:=hc11.trans gS10.1
   have q011:=(hg.block _ (Array.getElem?_eq_some_iff.1 q010).1 (fun c=>HNE.out c.symm)).trans q010
   have gS11 : (fun U=>U.cell? ⟨w0.heap.size,13,none⟩=some (.slice Ao j co)∧U.heap[pb]?=some (.cells #[.string (str fnm),.slice qA ql.length qc,.slice bA bl.length bc] 94 (0,0))) w11:=⟨d11,q011⟩
   have ff11:=frz (hg.block w0.heap.size HK10.out.mb.lt (fun c=>(HK10.out.ow.row _ c.symm).1 (.inl rfl))) (HK10.out.cell (by omega)).2
   refine ⟨gS11,?_⟩
   simp only [zA,zB,zC]
   obtain ⟨A11,c11,rfl,_,_⟩:=ho.shape
   have hlen : (L ++ [(rj.rs.length : Int)]).length=j + 1:=by rw [List.length_append,HLL.out];rfl
   rw [hlen] at HK11 ⊢
   clear hlen ho hb hg hv hz hc11
   refine RgD.tk0 13 229 (h:=?_)
   simp only [zA,zB,zC]
   refine RgD.tk0 14 230 (h:=?_)
   simp only [zA,zB,zC]
   refine RgD.one (i:=15) (by kernel_rfl) ?_
   obtain ⟨w12,hw⟩ : ∃ W,w11.setCell ⟨w0.heap.size,13,none⟩ (.slice A11 (j + 1) c11)=W:=⟨_,rfl⟩
   rw [hw] at HK11
   refine RgD.store (i:=15) (w1:=w12) rfl rfl (by rfl) (by kernel_rfl) (by first | (go_simp;done) | (go_simp;exact hw) | (go_simp;rw [hw])) ?_
   refine RgD.done (by kernel_rfl) ?_ _
   clear hS0 hw d11 ff11 gS10 gS11 q010 q011 q09 gS9
   go_wp2_with fail
   go_roundw
   case rel=>exact ⟨j + 1,A11,c11,_,_,_,_,by omega,by go_num,by rw [HTK.out];exact HK11.out⟩
   case measure=>simp [intOf];omega
  ·obtain rfl : fn.length=j:=by omega
   rw [List.take_length] at hbk
   obtain ⟨Avf,cf,F2,Y2,hv2,hY2,hF2,hG2,hk⟩:=Bk.next inE RtI 1 3 stays_i HF.out hbk (i':=12) (by omega) rfl
   have HF2:=hI hF2
   have HG2:=hI hG2
   have HY2:=hI hY2
   have hle:=fnsI_le (t:=t) (tx:=tx) fn (r0,[]) _ HN1.out.1
   obtain ⟨⟨r1,Lf⟩,hLf⟩ : ∃ q,fnsI t tx (r0,[]) fn=q:=⟨_,rfl⟩
   rw [hLf] at hk hle HG2 HY2 HBP
   dsimp only at hk hle HG2 HY2 HBP
   have HN2:=hI (show r1.le (n0 + fn.length) from hle)
   have HK2:=hI hk
   clear hbk HK HK0 hv2 hY2 hF2 hG2 hk hle hLf
   obtain ⟨x0,x1,x2,x3,x4,x5,x6,x7,x8,x9,x10,x11,x12,xf⟩:=cellz13 (HSRC.out _ HK2.out.mb.low)
   go_wp2_with fail
   go_loopw [235] (fun iv wr=>∃ (j : Nat) (Ao : Option Addr) (co : Nat) (vp vl vr : Value) (m : Ms),j≤dm.length∧iv=.int .i64 (j : Int)∧Bk inE RtI 1 3 F2 (fun b=>b=rb) w0 (.slice A1 n1 c1) (.slice A2 n2 c2) Y2 12 (.slice Ao j co) (dmsI t tx (r1,[]) (dm.take j)).2 (dmsI t tx (r1,[]) (dm.take j)).1 vp vl vr m wr) (fun iv _=>dm.length - (intOf iv).toNat)
   case atStart=>exact ⟨0,none,0,_,_,_,_,Nat.zero_le _,rfl,HK2.out⟩
   case round=>
    obtain ⟨j,Ao,co,vp,vl,vr,m,hj,rfl,hbk⟩:=hrel
    clear x0 x1 x2 x3 x4 x5 x6 x7 x8 x9 x10 x11 x12 xf
    have HK:=hI hbk
    have k0 : (0 : Int)≤(j : Int):=by omega
    by_cases hlt : j < dm.length
    ·have k1 : (j : Int) < (dm.length : Int):=by omega
     obtain ⟨b,o,rfl,hbz,hc⟩:=Lg.at_ BindO.Fn.len (HC.out.rd wr hbk.mb.low).1.2.2.2.2.2.2.2 hlt
     have hmem : dm[j] ∈ dm:=List.getElem_mem hlt
     have htk:=dmsI_take (t:=t) (tx:=tx) (r:=(r1,[])) hlt
     have hrd:=(HC.out.rd wr hbk.mb.low).2.1.2.2.2.2.2.2.2.2 _ hmem
     have hsm:=sum_mem (m:=BindO.Fn.m) dm _ hmem
     obtain ⟨⟨fnm,⟨qA,qc,ql⟩,⟨bA,bc,bl⟩⟩,hy⟩ : ∃ y,dm[j]=y:=⟨_,rfl⟩
     rw [hy] at hc htk hrd hsm
     have hmm : nB (stPs bl)≤BindO.Fn.m ⟨fnm,⟨qA,qc,ql⟩,⟨bA,bc,bl⟩⟩∧(ql.map fun x=>x.length + 1).sum≤BindO.Fn.m ⟨fnm,⟨qA,qc,ql⟩,⟨bA,bc,bl⟩⟩:=by unfold BindO.Fn.m;simp only;omega
     have hql:=sum_len (m:=fun x : S=>x.length + 1) (fun _=>by omega) ql
     have hz:=HZ.out
     have HBL:=hI (show nB (stPs bl)≤1048576∧ql.length≤1048576 by omega)
     have hle:=dmsI_le (t:=t) (tx:=tx) (dm.take j) (r1,[]) _ HN2.out
     rw [List.length_take,Nat.min_eq_left (by omega)] at hle
     obtain ⟨⟨rj,L⟩,hL⟩ : ∃ q,dmsI t tx (r1,[]) (dm.take j)=q:=⟨_,rfl⟩
     have HLL:=hI (show L.length=j by
      have h:=dmsI_len (t:=t) (tx:=tx) (dm.take j) (r1,[])
      rw [hL,List.length_take] at h
      simp only [List.length_nil] at h
      omega)
     rw [hL] at HK htk hle
     dsimp only at HK hle
     have HTK:=hI htk
     have HML:=hI (show m.le 2097152 by
      have h1:=HN1.out.2
      exact ms_le (mp_mono (HK.out.p ▸ hle) (by omega)))
     have HRD:=hI (show ∀ U,Below wr.heap.size wr U→Lg svE Rt (fun b=>¬ Dm w0 vp vl vr b) U qA qc ql∧Ls (fun b=>¬ Dm w0 vp vl vr b) U bA bc bl from fun U h=>⟨Lg.below stays_t h (upto_dm stays_t HK.out.mb HWW.out hrd.1),Lg.below stays_s h (upto_dm stays_s HK.out.mb HWW.out hrd.2)⟩)
     have e0 : wr.cell? ⟨b,o + j * 3,none⟩=some (.string (str fnm)):=hc 0 _ rfl
     have e1 : wr.cell? ⟨b,o + j * 3 + 1,none⟩=some (.slice qA ql.length qc):=hc 1 _ rfl
     have e2 : wr.cell? ⟨b,o + j * 3 + 2,none⟩=some (.slice bA bl.length bc):=hc 2 _ rfl
     clear hc hy htk hL hbz hbk hmem hrd hsm hmm hql hz hle
     go_upto_region 40 with fail
     obtain ⟨w1,hw1⟩ : ∃ W,wr.alloc (.cells #[.string (str fnm),.slice qA ql.length qc,.slice bA bl.length bc] 94)=W:=⟨_,rfl⟩
     obtain ⟨mm1,ms1,b1⟩:=made hw1
     rw [hw1]
     obtain ⟨pb,hpb⟩ : ∃ p,wr.heap.size=p:=⟨_,rfl⟩
     have HK1:=hI (Bk.below stays_i HF2.out HK.out b1)
     have HNE:=hI (show Value.ownBlock (.slice Ao j co) ≠ some pb from fun c=>by have:=(HK.out.ow.lt c).2;omega)
     have HND:=hI (show ¬ Dm w0 vp vl vr pb from fun c=>by have:=(HK.out.mb.dm c).2;omega)
     have HB1:=hI b1
     rw [hpb] at mm1 ⊢
     have HPB:=hI mm1
     clear e0 e1 e2 hw1 mm1 ms1 b1 hpb
     have hS0 : w1.drew.cell? ⟨w0.heap.size,14,none⟩=some (.slice Ao j co)∧w1.drew.heap[pb]?=some (.cells #[.string (str fnm),.slice qA ql.length qc,.slice bA bl.length bc] 94 (0,0)):=⟨(HK1.out.cell (by omega)).1,HPB.out⟩
     refine RgD.begin_ [11,12,13] (fun U=>U.cell? ⟨w0.heap.size,14,none⟩=some (.slice Ao j co)∧U.heap[pb]?=some (.cells #[.string (str fnm),.slice qA ql.length qc,.slice bA bl.length bc] 94 (0,0))) (by kernel_rfl) hS0 (fun hHeld=>?_)
     refine tK 0 239 (h:=?_)
     simp only [zA,zB,zC]
     refine tK 1 240 (h:=?_)
     simp only [zA,zB,zC]
     refine tK 2 241 (h:=?_)
     simp only [zA,zB,zC]
     refine tK 3 242 (h:=?_)
     simp only [zA,zB,zC]
     refine tK 4 243 (v:=.slice Ao j co) (hy:=by intro w0 hSw;have z0:=hSw.1;first | (go_simp;done) | (go_simp;with_reducible rfl) | (go_simp;intro hc;exfalso;omega)) (h:=?_)
     simp only [zA,zB,zC]
     refine tK 5 244 (h:=?_)
     simp only [zA,zB,zC]
     refine tK 6 245 (h:=?_)
     simp only [zA,zB,zC]
     refine tK 7 246 (v:=.slice bA bl.length bc) (hy:=by intro w0 hSw;obtain ⟨z1,z2,z3⟩:=pcz3 hSw.2;first | (go_simp;done) | (go_simp;with_reducible rfl) | (go_simp;intro hc;exfalso;omega)) (h:=?_)
     simp only [zA,zB,zC]
     refine RgD.one (i:=8) (by kernel_rfl) ?_
     refine RgD.call (i:=8) (t:=247) rfl rfl (by rfl) (by go_simp;exact ⟨rfl,rfl⟩) ?_
     have hKd:=Bk.below stays_i HF2.out HK1.out (Below.drew (Below.refl _ _))
     have hbd:=HB1.out.trans (Below.drew (Below.refl w1.heap.size w1) |>.mono HB1.out.size)
     refine (routine_w _ w0 A1 A2 n1 c1 n2 c2 t tx HC.out.bs _ w1.drew vp vl vr m hKd.mb HML.out [] none 0 (Lg.nil _) bl bA bc (HRD.out _ hbd).2 HBL.out.1 (by simp)).mono ?_
     intro e w9 hr9
     obtain ⟨vp9,vl9,vr9,m9,rfl,hp9,hM9,hF9⟩:=rt_mk (t:=t) (tx:=tx) (pa:=[]) (l:=stPs bl) (m:=m) hr9
     rw [HK.out.p] at hp9
     have HK9:=hI (Bk.step stays_i HF2.out hKd hM9 hp9 hF9)
     have q09 : w9.heap[pb]?=some (.cells #[.string (str fnm),.slice qA ql.length qc,.slice bA bl.length bc] 94 (0,0)):=(hF9.block _ (Array.getElem?_eq_some_iff.1 hS0.2).1 HND.out).trans hS0.2
     have gS9 : (fun U=>U.cell? ⟨w0.heap.size,14,none⟩=some (.slice Ao j co)∧U.heap[pb]?=some (.cells #[.string (str fnm),.slice qA ql.length qc,.slice bA bl.length bc] 94 (0,0))) w9:=⟨(HK9.out.cell (by omega)).1,q09⟩
     have hrs : (m.rs.length : Int)=(rj.rs.length : Int):=by rw [← HK.out.p];unfold Ms.p;simp
     rw [hrs]
     clear hr9 hp9 hM9 hF9 hKd hbd hrs
     refine ⟨_,rfl,gS9,?_⟩
     simp only [zA,zB,zC]
     refine RgD.one (i:=9) (by kernel_rfl) ?_
     obtain ⟨w10,hw⟩ : ∃ W,w9.alloc (.cells #[.int .i64 (rj.rs.length : Int)] 3)=W:=⟨_,rfl⟩
     have hb:=(made hw).2.2
     have HK10:=hI (Bk.below stays_i HF2.out HK9.out hb)
     have hz : Sk.Rd inE w10 (some ⟨w9.heap.size,0,none⟩) 1 [(rj.rs.length : Int)]:=by rw [← hw];exact Sk.rd_lit (enc:=inE) _ 3 [(rj.rs.length : Int)] _ rfl 1 rfl
     have q010:=(hb.block _ (Array.getElem?_eq_some_iff.1 q09).1).trans q09
     have gS10 : (fun U=>U.cell? ⟨w0.heap.size,14,none⟩=some (.slice Ao j co)∧U.heap[pb]?=some (.cells #[.string (str fnm),.slice qA ql.length qc,.slice bA bl.length bc] 94 (0,0))) w10:=⟨(HK10.out.cell (by omega)).1,q010⟩
     refine RgD.eff (i:=9) (t:=248) (v:=.slice (some ⟨w9.heap.size,0,none⟩) 1 1) (w1:=w10) rfl rfl (by rfl) (by first | (go_simp;done) | (go_simp;with_reducible rfl) | (go_simp;rw [hw];rfl) | (go_simp;exact ⟨rfl,hw⟩) | (go_simp;exact hw)) gS10 ?_
     simp only [zA,zB,zC]
     clear hb hw
     refine RgD.one (i:=10) (by kernel_rfl) ?_
     refine RgD.app elI (i:=10) (t:=249) (.tmp 243) (.tmp 248) rfl rfl (by rfl) rfl rfl HK10.out.ow.own (some ⟨w9.heap.size,0,none⟩) 1 1 [(rj.rs.length : Int)] rfl hz (by have h1:=HLL.out;unfold maxLen;omega) (by have h1:=HLL.out;omega) (Nat.le_of_lt HK10.out.mb.lt) ?_
     intro v11 w11 ho hb hg hv
     have HK11:=hI (Bk.app stays_i HF2.out (by omega) HK10.out ho hg hv (fun _ _=>trivial))
     have hc11 : w11.cell? ⟨w0.heap.size,14,none⟩=w10.cell? ⟨w0.heap.size,14,none⟩:=World.cell?_of_block (hg.block w0.heap.size HK10.out.mb.lt (fun c=>(HK10.out.ow.row _ c.symm).1 (.inl rfl)))
     have d11:=hc11.trans gS10.1
     have q011:=(hg.block _ (Array.getElem?_eq_some_iff.1 q010).1 (fun c=>HNE.out c.symm)).trans q010
     have gS11 : (fun U=>U.cell? ⟨w0.heap.size,14,none⟩=some (.slice Ao j co)∧U.heap[pb]?=some (.cells #[.string (str fnm),.slice qA ql.length qc,.slice bA bl.length bc] 94 (0,0))) w11:=⟨d11,q011⟩
     have ff11:=frz (hg.block w0.heap.size HK10.out.mb.lt (fun c=>(HK10.out.ow.row _ c.symm).1 (.inl rfl))) (HK10.out.cell (by omega)).2
     refine ⟨gS11,?_⟩
     simp only [zA,zB,zC]
     obtain ⟨A11,c11,rfl,_,_⟩:=ho.shape
     have hlen : (L ++ [(rj.rs.length : Int)]).length=j + 1:=by rw [List.length_append,HLL.out];rfl
     rw [hlen] at HK11 ⊢
     clear hlen ho hb hg hv hz hc11
     refine RgD.tk0 11 250 (h:=?_)
     simp only [zA,zB,zC]
     refine RgD.tk0 12 251 (h:=?_)
     simp only [zA,zB,zC]
     refine RgD.one (i:=13) (by kernel_rfl) ?_
     obtain ⟨w12,hw⟩ : ∃ W,w11.setCell ⟨w0.heap.size,14,none⟩ (.slice A11 (j + 1) c11)=W:=⟨_,rfl⟩
     rw [hw] at HK11
     refine RgD.store (i:=13) (w1:=w12) rfl rfl (by rfl) (by kernel_rfl) (by first | (go_simp;done) | (go_simp;exact hw) | (go_simp;rw [hw])) ?_
     refine RgD.done (by kernel_rfl) ?_ _
     clear hS0 hw d11 ff11 gS10 gS11 q010 q011 q09 gS9
     go_wp2_with fail
     go_roundw
     case rel=>exact ⟨j + 1,A11,c11,_,_,_,_,by omega,by go_num,by rw [HTK.out];exact HK11.out⟩
     case measure=>simp [intOf];omega
    ·obtain rfl : dm.length=j:=by omega
     rw [List.take_length] at hbk
     obtain ⟨Aq,cq,rfl,_,_⟩:=hbk.mb.op.shape
     obtain ⟨Al,cl,rfl,_,_⟩:=hbk.mb.ol.shape
     obtain ⟨Ar,cr,rfl,_,_⟩:=hbk.mb.or.shape
     obtain ⟨spa,spc,spl⟩:=sp
     obtain ⟨sga,sgc,sgl⟩:=sg
     obtain ⟨sha,shc,shl⟩:=sh
     obtain ⟨saa,sac,sal⟩:=sa
     obtain ⟨sda,sdc,sdl⟩:=sd
     have hbox : wr.heap[w0.heap.size]?=some (.cells #[.slice A1 n1 c1,.slice A2 n2 c2,.int .i64 za,.int .i64 zb,.int .i64 zc,.int .i64 zd,.slice A2 n2 c2,.int .i64 zf,.slice spa spl.length spc,.slice sga sgl.length sgc,.slice sha shl.length shc,.slice saa sal.length sac,.slice sda sdl.length sdc,.slice Avf Lf.length cf,.slice Ao dm.length co,.slice Aq m.ps.length cq,.slice Al m.ls.length cl,.slice Ar m.rs.length cr] 73 (0,0)):=by
      have h:=hbk.mb.box
      rw [HY2.out] at h
      exact h
     have hres : wr.heap[rb]?=some (.cells #[.int .i64 0,.int .i64 0,.int .i64 0,.int .i64 0,.slice none 0 0,.int .i64 0,.slice none 0 0,.slice none 0 0,.slice none 0 0,.slice none 0 0,.slice none 0 0,.slice none 0 0,.slice none 0 0,.slice none 0 0,.slice none 0 0,.slice none 0 0] 42 (0,0)):=HC.out.res wr hbk.mb.low
     obtain ⟨y0,y1,y2,y3,y4,y5,y6,y7,y8,y9,y10,y11,y12,y13,y14,y15,y16,y17,yf⟩:=cells18 hbox
     obtain ⟨g0,g1,g2,g3,g4,g5,g6,g7,g8,g9,g10,g11,g12,g13,g14,g15,gf⟩:=cells16 hres
     obtain ⟨w7,hw7⟩ : ∃ W,(((((((((((((((wr.setCell ⟨rb,0,none⟩ (.int .i64 za)).setCell ⟨rb,1,none⟩ (.int .i64 zb)).setCell ⟨rb,2,none⟩ (.int .i64 zc)).setCell ⟨rb,3,none⟩ (.int .i64 zd)).setCell ⟨rb,4,none⟩ (.slice A2 n2 c2)).setCell ⟨rb,5,none⟩ (.int .i64 zf)).setCell ⟨rb,6,none⟩ (.slice spa spl.length spc)).setCell ⟨rb,7,none⟩ (.slice sga sgl.length sgc)).setCell ⟨rb,8,none⟩ (.slice sha shl.length shc)).setCell ⟨rb,9,none⟩ (.slice saa sal.length sac)).setCell ⟨rb,10,none⟩ (.slice sda sdl.length sdc)).setCell ⟨rb,11,none⟩ (.slice Avf Lf.length cf)).setCell ⟨rb,12,none⟩ (.slice Ao dm.length co)).setCell ⟨rb,13,none⟩ (.slice Aq m.ps.length cq)).setCell ⟨rb,14,none⟩ (.slice Al m.ls.length cl)).setCell ⟨rb,15,none⟩ (.slice Ar m.rs.length cr)=W:=⟨_,rfl⟩
     have hp7 : putRow wr rb 0 [.int .i64 za,.int .i64 zb,.int .i64 zc,.int .i64 zd,.slice A2 n2 c2,.int .i64 zf,.slice spa spl.length spc,.slice sga sgl.length sgc,.slice sha shl.length shc,.slice saa sal.length sac,.slice sda sdl.length sdc,.slice Avf Lf.length cf,.slice Ao dm.length co,.slice Aq m.ps.length cq,.slice Al m.ls.length cl,.slice Ar m.rs.length cr]=w7:=hw7
     have HX7:=hI (show w7.heap[rb]?=some (.cells #[.int .i64 za,.int .i64 zb,.int .i64 zc,.int .i64 zd,.slice A2 n2 c2,.int .i64 zf,.slice spa spl.length spc,.slice sga sgl.length sgc,.slice sha shl.length shc,.slice saa sal.length sac,.slice sda sdl.length sdc,.slice Avf Lf.length cf,.slice Ao dm.length co,.slice Aq m.ps.length cq,.slice Al m.ls.length cl,.slice Ar m.rs.length cr] 42 (0,0)) by rw [← hp7];exact putRow_mid [] [.int .i64 0,.int .i64 0,.int .i64 0,.int .i64 0,.slice none 0 0,.int .i64 0,.slice none 0 0,.slice none 0 0,.slice none 0 0,.slice none 0 0,.slice none 0 0,.slice none 0 0,.slice none 0 0,.slice none 0 0,.slice none 0 0,.slice none 0 0] [] [.int .i64 za,.int .i64 zb,.int .i64 zc,.int .i64 zd,.slice A2 n2 c2,.int .i64 zf,.slice spa spl.length spc,.slice sga sgl.length sgc,.slice sha shl.length shc,.slice saa sal.length sac,.slice sda sdl.length sdc,.slice Avf Lf.length cf,.slice Ao dm.length co,.slice Aq m.ps.length cq,.slice Al m.ls.length cl,.slice Ar m.rs.length cr] rfl hres)
     have HFIN:=hI (show BkV BP w (.returned (.agg #[.int .i64 za,.int .i64 zb,.int .i64 zc,.int .i64 zd,.slice A2 n2 c2,.int .i64 zf,.slice spa spl.length spc,.slice sga sgl.length sgc,.slice sha shl.length shc,.slice saa sal.length sac,.slice sda sdl.length sdc,.slice Avf Lf.length cf,.slice Ao dm.length co,.slice Aq m.ps.length cq,.slice Al m.ls.length cl,.slice Ar m.rs.length cr])) w7 by
      have hoth : ∀ b,b ≠ rb→w7.heap[b]?=wr.heap[b]?:=fun b h=>by rw [← hp7];exact putRow_other _ _ _ _ _ h
      have hsz : wr.heap.size≤w7.heap.size:=by rw [← hp7,putRow_size];exact Nat.le_refl _
      have hrw:=HC.out.rw
      have hLd : (dmsI t tx (r1,[]) dm).2.length=dm.length:=by rw [dmsI_len];simp
      have hk7 : Keep (fun b=>¬ Dm w0 (.slice Aq m.ps.length cq) (.slice Al m.ls.length cl) (.slice Ar m.rs.length cr) b∧¬ (b=rb∨Value.ownBlock (.slice Ao dm.length co)=some b)) top wr w7:=⟨hsz,fun b hb _=>⟨trivial,hoth b fun c=>hb.2 (.inl c)⟩⟩
      have hk9 : Keep (fun b=>¬ Dm w0 (.slice Aq m.ps.length cq) (.slice Al m.ls.length cl) (.slice Ar m.rs.length cr) b∧¬ b=rb) top wr w7:=⟨hsz,fun b hb _=>⟨trivial,hoth b fun c=>hb.2 c⟩⟩
      have hk8 : Keep (fun b=>¬ b=rb) top wr w7:=⟨hsz,fun b hb _=>⟨trivial,hoth b hb⟩⟩
      have hkw : Keep (fun b=>w0.heap.size≤b) top wr w7:=⟨hsz,fun b hb _=>⟨trivial,hoth b (by omega)⟩⟩
      obtain ⟨A9,c9,e9,hl9⟩:=hbk.ow.list stays_i
      injection e9 with e1 e2 e3
      subst e1 e3
      have hlow:=hbk.mb.low
      have hg2:=HG2.out _ _ hbk.fin
      have hg1:=HG.out _ _ hg2.1
      have hor : Ow hdE HdR 1 46 (fun b=>¬ b=rb) wr w0.heap.size (.slice Ar m.rs.length cr) m.rs:=⟨hbk.mb.or,fun g e=>by have:=(World.ownsRow.lt hbk.mb.or g e).1;omega,fun x hx=>stays_h _ _ _ _ _ (Keep.weak fun b hb _=>⟨fun c=>hb.2 (.inl c),fun c=>hb.1 (.inr (.inr (.inr c)))⟩) (hbk.mb.sub x hx)⟩
      obtain ⟨A8,c8,e8,hl8⟩:=hor.list stays_h
      injection e8 with e1 e2 e3
      subst e1 e3
      refine ⟨⟨za,zb,zc,zd,⟨A2,c2,tx⟩,zf,⟨spa,spc,spl⟩,⟨sga,sgc,sgl⟩,⟨sha,shc,shl⟩,⟨saa,sac,sal⟩,⟨sda,sdc,sdl⟩,⟨Avf,cf,Lf⟩,⟨Ao,co,(dmsI t tx (r1,[]) dm).2⟩,⟨Aq,cq,m.ps⟩,⟨Al,cl,m.ls⟩,⟨Ar,cr,m.rs⟩⟩,?_,?_,⟨?_,?_,?_,?_,?_,?_,?_,?_,?_,?_,?_⟩,?_⟩
      ·simp only [Bo.e,Sv.v,HC.out.nx,hLd]
      ·rw [← HBP.out,← hbk.p];rfl
      ·rw [HC.out.nx]
       exact rd_other HC.out.bs.x (Nat.le_trans hlow.size hsz) (fun b o e hn=>(hoth b (HC.out.xb b o e hn)).trans (hlow.block b (by
        obtain ⟨b',o',e',hlt,_⟩:=HC.out.bs.x.2 hn
        have e2 : A2=some ⟨b,o,none⟩:=e
        rw [e2] at e'
        injection e' with e'
        injection e' with e'
        subst e'
        exact hlt)))
      ·exact Lg.keep stays_i hk7 hg1.1
      ·exact Lg.keep stays_i hk7 hg1.2.1
      ·exact Lg.keep stays_th hk7 hg1.2.2.1
      ·exact Lg.keep stays_ac hk7 hg1.2.2.2.1
      ·exact Lg.keep stays_de hk7 hg1.2.2.2.2
      ·exact Lg.keep stays_i hk7 hg2.2
      ·exact Lg.keep stays_i hk9 hl9
      ·exact Lg.keep stays_i hkw (own_lg stays_i (fun _ _ _=>trivial) hbk.mb.op)
      ·exact Lg.keep stays_i hkw (own_lg stays_i (fun _ _ _=>trivial) hbk.mb.ol)
      ·exact Lg.keep stays_h hk8 hl8
      ·have h1:=(HC.out.rd wr hlow).2.2
       rw [← hp7]
       exact putRow_below _ _ _ h1 hrw.1)
     clear hbk hbox hres hp7
     go_wp2_with ((with_reducible refine ret_bk 4 rb (.int .i64 za) (.int .i64 zb) (.int .i64 zc) (.int .i64 zd) (.slice A2 n2 c2) (.int .i64 zf) (.slice spa spl.length spc) (.slice sga sgl.length sgc) (.slice sha shl.length shc) (.slice saa sal.length sac) (.slice sda sdl.length sdc) (.slice Avf Lf.length cf) (.slice Ao dm.length co) (.slice Aq m.ps.length cq) (.slice Al m.ls.length cl) (.slice Ar m.rs.length cr) ?_ ?_ ?_ ?_ ?_);exact HX7.out;rfl;rfl;rfl;exact HFIN.out)
end Go.Proofs.YteibcfpepdbflaaGreat.BkK
