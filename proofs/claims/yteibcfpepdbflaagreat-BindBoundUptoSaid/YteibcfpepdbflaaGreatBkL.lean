/- bind.Book from its rules on. Conditions: sizes within the reach. -/
import Derived.Test.YteibcfpepdbflaaGreatBkK
open Go.Lib renaming hid → hI
open Go.Proofs.YteibcfpepdbflaaGreat.RgD renaming tk → tK, sA → zA, s0 → zB, s1 → zC
namespace Go.Proofs.YteibcfpepdbflaaGreat.BkL
open Go Go.RowKit BindP BindD BindO BindW BindN BindG BindX BindB BindS BindK BindT BindA BkA BkB BkC BkD BkE BkF BkG BkH BkI BkK TxA
open Byt (str)
theorem seq_hid {P : Program} {a b : Code} {Q : Exit→Act→World→Prop} {act : Act} {w : World} (h : ∀ K : Act→World→Prop,Hid (∀ a' w',Code.wp P b Q a' w'→K a' w')→Code.wp P a (Exit.then K Q) act w) : Code.wp P (a.seq b) Q act w:=wp_seq_k fun K hk=>h K (hI hk)
theorem yB_10 {a b c d : Int} {e : Value} {f : Int} {p g h ac v v' fu : Value} : upd (yB a b c d e f p g h ac v fu) 10 v'=yB a b c d e f p g h ac v' fu:=by
 funext j
 match j with
 | 0 | 1 | 2 | 3 | 4 | 5 | 6 | 7 | 8 | 9 | 10 | 11 | 12=>rfl
 | n + 13=>simp [upd,yB]
theorem desI_take {t : List Nm} {tx : List S} {r : Mp × List De} {l : List Rl} {j : Nat} (h : j < l.length) : desI t tx r (l.take (j + 1))=dewI t tx (desI t tx r (l.take j)) l[j]:=foldl_take _ _ h
theorem desI_len {t : List Nm} {tx : List S} : ∀ (l : List Rl) (r : Mp × List De),(desI t tx r l).2.length=r.2.length + l.length
 | [],r=>rfl
 | o :: l,r=>by
  have h:=desI_len (t:=t) (tx:=tx) l (dewI t tx r o)
  have e : (dewI t tx r o).2.length=r.2.length + 1:=by simp [dewI]
  rw [e] at h
  rw [List.length_cons]
  show (desI t tx (dewI t tx r o) l).2.length=_
  omega
theorem bk_put {α : Type} {enc : α→List Value} {R : (Nat→Prop)→World→α→Prop} {k : Nat} {E : TypeId} {F : (Nat→Prop)→World→Prop} {Z : Nat→Prop} {w0 : World} {tv xv : Value} {y : Nat→Value} {i : Nat} {v : Value} {l : List α} {r : Mp} {vp vl vr : Value} {m : Ms} {g : Nat} (hR : Stays R) (hF : Firm F) (hZ : Z g) (hD : ¬ Dm w0 vp vl vr g) (hW : w0.heap.size≤g) : ∀ (vs : List Value) (o : Nat) {w : World},Bk enc R k E F Z w0 tv xv y i v l r vp vl vr m w→Bk enc R k E F Z w0 tv xv y i v l r vp vl vr m (putRow w g o vs)
 | [],_,_,h=>h
 | u :: vs,o,_,h=>bk_put hR hF hZ hD hW vs (o + 1) (Bk.set hR hF h hZ hD hW o u)
theorem pcz6 {w : World} {b : Nat} {x0 x1 x2 x3 x4 x5 : Value} {t : TypeId} (h : w.heap[b]?=some (.cells #[x0,x1,x2,x3,x4,x5] t (0,0))) : w.cell? ⟨b,0,none⟩=some x0∧w.cell? ⟨b,1,none⟩=some x1∧w.cell? ⟨b,2,none⟩=some x2∧w.cell? ⟨b,3,none⟩=some x3∧w.cell? ⟨b,4,none⟩=some x4∧w.cell? ⟨b,5,none⟩=some x5∧∀ o,w.frozen? ⟨b,o,none⟩=false:=⟨by simp [World.cell?,h],by simp [World.cell?,h],by simp [World.cell?,h],by simp [World.cell?,h],by simp [World.cell?,h],by simp [World.cell?,h],fun o=>by simp [World.frozen?,h]⟩
set_option maxRecDepth 100000 in
set_option maxHeartbeats 64000000 in
theorem tail9 (w w0 : World) (so : So) (t : List Nm) (tx : List S) (A1 : Option Addr) (n1 c1 : Nat) (A2 : Option Addr) (n2 c2 : Nat) (sb rb : Nat) (HC : Hid (Cx w w0 so t tx A1 n1 A2 n2 sb rb)) (F : (Nat→Prop)→World→Prop) (HF : Hid (Firm F)) (za zb zc zd zf : Int) (sp sg : Sv Int) (sh : Sv Th) (sa : Sv Ac)
  (HG : Hid (∀ K U,F K U→Lg inE RtI K U sp.a sp.c sp.l∧Lg inE RtI K U sg.a sg.c sg.l∧Lg thE ThR K U sh.a sh.c sh.l∧Lg acE AcR K U sa.a sa.c sa.l)) (r0 : Mp) (n0 : Nat) (HN0 : Hid (r0.le n0∧n0 + 2 * so.ru.l.length + so.fn.l.length + so.dm.l.length≤2097152))
  (vp vl vr : Value) (m : Ms) (wq : World) (HK0 : Hid (Bk deE DeR 6 91 F (fun b=>b=rb) w0 (.slice A1 n1 c1) (.slice A2 n2 c2) (yB za zb zc zd (.slice A2 n2 c2) zf sp.v sg.v sh.v sa.v (.slice none 0 0) (.slice none 0 0)) 10 (.slice none 0 0) [] r0 vp vl vr m wq)) (BP : Bp)
  (HBP : Hid ((⟨za,zb,zc,zd,tx,zf,sp.l,sg.l,sh.l.map Th.p,sa.l.map fun a=>(a.me,lnP a.li),(desI t tx (r0,[]) so.ru.l).2,(fnsI t tx ((desI t tx (r0,[]) so.ru.l).1,[]) so.fn.l).2,(dmsI t tx ((fnsI t tx ((desI t tx (r0,[]) so.ru.l).1,[]) so.fn.l).1,[]) so.dm.l).2,(dmsI t tx ((fnsI t tx ((desI t tx (r0,[]) so.ru.l).1,[]) so.fn.l).1,[]) so.dm.l).1⟩ : Bp)=BP))
  (v0 v3 v7 v8 v9 v10 v11 v12 v13 v14 v15 v16 v17 v18 v19 v20 v21 v22 v23 v24 v25 v26 v27 v28 v29 v30 v31 v32 v33 v34 v35 v36 v37 v38 v39 v40 v41 v42 v43 v44 v45 v46 v47 v48 v49 v50 v51 v52 v53 v54 v55 v56 v57 v58 v59 v60 v61 v62 v63 v64 v65 v66 v67 v68 v69 v70 v71 v72 v73 v74 v75 v76 v77 v78 v79 v80 v81 v82 v83 v84 v85 v86 v87 v88 v89 v90 v91 v92 v93 v94 v95 v96 v97 v98 v99 v100 v101 v102 v103 v104 v105 v106 v107 v108 v109 v110 v111 v112 v113 v114 v115 v116 v117 v118 v119 v120 v121 v122 v123 v124 v125 v126 v127 v128 v129 v130 v131 v132 v133 v134 v135 v136 v137 v138 v139 v140 v141 v142 v143 v144 v145 v146 v147 v148 v149 v150 v151 v152 v153 v154 v155 v156 v157 v158 v159 v160 v161 v162 v163 v164 v165 v166 v167 v168 v169 v170 v171 v172 v173 v174 v175 v176 v177 v178 v179 v180 v181 v182 v183 v184 v185 v186 v187 v188 v189 v190 v191 v192 v193 v194 v195 v196 v197 v198 v199 v200 v201 v202 v203 v204 v205 v206 v207 v208 v209 v210 v211 v212 v213 v214 v215 v216 v217 v218 v219 v220 v221 v222 v223 v224 v225 v226 v227 v228 v229 v230 v231 v232 v233 v234 v235 v236 v237 v238 v239 v240 v241 v242 v243 v244 v245 v246 v247 v248 v249 v250 v251 v252 v253 v254 v255 v256 : Value) : Code.wp Tryz.prog (nth 9 body18) (bodyPost Tryz.prog Tryz.f7 (BkV BP w)) ⟨#[v0,.slice A1 n1 c1,.pointer (some ⟨sb,0,none⟩),v3,.pointer (some ⟨rb,0,none⟩),.pointer (some ⟨w0.heap.size,0,none⟩),.pointer (some ⟨w0.heap.size,2,none⟩),v7,v8,v9,v10,v11,v12,v13,v14,v15,v16,v17,v18,v19,v20,v21,v22,v23,v24,v25,v26,v27,v28,v29,v30,v31,v32,v33,v34,v35,v36,v37,v38,v39,v40,v41,v42,v43,v44,v45,v46,v47,v48,v49,v50,v51,v52,v53,v54,v55,v56,v57,v58,v59,v60,v61,v62,v63,v64,v65,v66,v67,v68,v69,v70,v71,v72,v73,v74,v75,v76,v77,v78,v79,v80,v81,v82,v83,v84,v85,v86,v87,v88,v89,v90,v91,v92,v93,v94,v95,v96,v97,v98,v99,v100,v101,v102,v103,v104,v105,v106,v107,v108,v109,v110,v111,v112,v113,v114,v115,v116,v117,v118,v119,v120,v121,v122,v123,v124,v125,v126,v127,v128,v129,v130,v131,v132,v133,v134,v135,v136,v137,v138,v139,v140,v141,v142,v143,v144,v145,v146,v147,v148,v149,v150,v151,v152,v153,v154,v155,v156,v157,v158,v159,v160,v161,v162,v163,v164,v165,v166,v167,v168,v169,v170,v171,v172,v173,v174,v175,v176,v177,v178,v179,v180,v181,v182,v183,v184,v185,v186,v187,v188,v189,v190,v191,v192,v193,v194,v195,v196,v197,v198,v199,v200,v201,v202,v203,v204,v205,v206,v207,v208,v209,v210,v211,v212,v213,v214,v215,v216,v217,v218,v219,v220,v221,v222,v223,v224,v225,v226,v227,v228,v229,v230,v231,v232,v233,v234,v235,v236,v237,v238,v239,v240,v241,v242,v243,v244,v245,v246,v247,v248,v249,v250,v251,v252,v253,v254,v255,v256],[]⟩ wq:=by
 obtain ⟨ti,by_,st,re,mx,⟨fA,fc,fl⟩,⟨pA,pc,pr⟩,⟨gA,gc,gl⟩,⟨oA,oc,ob⟩,⟨vA,vc,vb⟩,⟨rA,rc,ru⟩,⟨nA,nc,fn⟩,⟨dA,dc,dm⟩⟩:=so
 have HSRC:=hI (show ∀ U,Below w0.heap.size w0 U→U.heap[sb]?=some (.cells #[.string (str ti),.string (str by_),.string (str st),.int .i64 re,.int .i64 mx,.slice fA fl.length fc,.slice pA pr.length pc,.slice gA gl.length gc,.slice oA ob.length oc,.slice vA vb.length vc,.slice rA ru.length rc,.slice nA fn.length nc,.slice dA dm.length dc] 29 (0,0)) from fun U h=>HC.out.src U h)
 have HZ:=hI (show (ru.map Rl.m).sum≤1048576 by have hz:=HC.out.m;unfold So.m at hz;simp only at hz;omega)
 have zR : ru.length≤1048576:=Nat.le_trans (sum_len (m:=Rl.m) (fun _=>by unfold Rl.m;omega) ru) HZ.out
 have HN1:=hI (show r0.le n0∧n0 + 2 * ru.length + fn.length + dm.length≤2097152 from HN0.out)
 have HWW:=hI (show w.heap.size≤w0.heap.size by have:=HC.out.rw;omega)
 conv=>arg 2;whnf
 refine seq_hid fun KK HKK=>?_
 obtain ⟨x0,x1,x2,x3,x4,x5,x6,x7,x8,x9,x10,x11,x12,xf⟩:=cellz13 (HSRC.out _ HK0.out.mb.low)
 go_wp2_with fail
 go_loopw [170] (fun iv wr=>∃ (j : Nat) (Ao : Option Addr) (co : Nat) (vp vl vr : Value) (m : Ms),j≤ru.length∧iv=.int .i64 (j : Int)∧Bk deE DeR 6 91 F (fun b=>b=rb) w0 (.slice A1 n1 c1) (.slice A2 n2 c2) (yB za zb zc zd (.slice A2 n2 c2) zf sp.v sg.v sh.v sa.v (.slice none 0 0) (.slice none 0 0)) 10 (.slice Ao j co) (desI t tx (r0,[]) (ru.take j)).2 (desI t tx (r0,[]) (ru.take j)).1 vp vl vr m wr) (fun iv _=>ru.length - (intOf iv).toNat)
 case atStart=>exact ⟨0,none,0,_,_,_,_,Nat.zero_le _,rfl,HK0.out⟩
 case round=>
  obtain ⟨j,Ao,co,vp,vl,vr,m,hj,rfl,hbk⟩:=hrel
  clear x0 x1 x2 x3 x4 x5 x6 x7 x8 x9 x10 x11 x12 xf
  have HK:=hI hbk
  have k0 : (0 : Int)≤(j : Int):=by omega
  by_cases hlt : j < ru.length
  ·have k1 : (j : Int) < (ru.length : Int):=by omega
   obtain ⟨b,o,rfl,hbz,hc⟩:=Lg.at_ Rl.len (HC.out.rd wr hbk.mb.low).1.2.2.2.2.2.1 hlt
   have hmem : ru[j] ∈ ru:=List.getElem_mem hlt
   have htk:=desI_take (t:=t) (tx:=tx) (r:=(r0,[])) hlt
   have hrd:=(HC.out.rd wr hbk.mb.low).2.1.2.2.2.2.2.1.2 _ hmem
   have hsm:=sum_mem (m:=Rl.m) ru _ hmem
   obtain ⟨⟨rvb,rph,rno,rse,⟨wA,cw,wl⟩,⟨bA,bc,bl⟩⟩,hy⟩ : ∃ y,ru[j]=y:=⟨_,rfl⟩
   rw [hy] at hc htk hrd hsm
   have hmm : nB (stPs bl) + nEs (exPs wl) + 5≤Rl.m ⟨rvb,rph,rno,rse,⟨wA,cw,wl⟩,⟨bA,bc,bl⟩⟩:=by unfold Rl.m;simp only;omega
   have hz:=HZ.out
   have HBL:=hI (show nB (stPs bl)≤1048576∧nEs (exPs wl)≤1048575 by omega)
   have hle:=desI_le (t:=t) (tx:=tx) (ru.take j) (r0,[]) _ HN1.out.1
   rw [List.length_take,Nat.min_eq_left (by omega)] at hle
   obtain ⟨⟨rj,L⟩,hL⟩ : ∃ q,desI t tx (r0,[]) (ru.take j)=q:=⟨_,rfl⟩
   have HLL:=hI (show L.length=j by
    have h:=desI_len (t:=t) (tx:=tx) (ru.take j) (r0,[])
    rw [hL,List.length_take] at h
    simp only [List.length_nil] at h
    omega)
   rw [hL] at HK htk hle
   dsimp only at HK hle
   have HTK:=hI htk
   have HRL:=hI (show rj.le 2097150 by have h1:=HN1.out.2;exact mp_mono hle (by omega))
   have HML:=hI (show m.le 2097152 from ms_le (mp_mono (HK.out.p ▸ HRL.out) (by omega)))
   have HRD:=hI (show ∀ U,Below wr.heap.size wr U→Lx (fun b=>b < w.heap.size) U wA cw wl∧Ls (fun b=>b < w.heap.size) U bA bc bl from fun U h=>⟨Lg.below stays_x h hrd.1,Lg.below stays_s h hrd.2⟩)
   have e0 : wr.cell? ⟨b,o + j * 6,none⟩=some (.string (str rvb)):=hc 0 _ rfl
   have e1 : wr.cell? ⟨b,o + j * 6 + 1,none⟩=some (.int .i64 rph):=hc 1 _ rfl
   have e2 : wr.cell? ⟨b,o + j * 6 + 2,none⟩=some (.string (str rno)):=hc 2 _ rfl
   have e3 : wr.cell? ⟨b,o + j * 6 + 3,none⟩=some (.string (str rse)):=hc 3 _ rfl
   have e4 : wr.cell? ⟨b,o + j * 6 + 4,none⟩=some (.slice wA wl.length cw):=hc 4 _ rfl
   have e5 : wr.cell? ⟨b,o + j * 6 + 5,none⟩=some (.slice bA bl.length bc):=hc 5 _ rfl
   clear hc hy htk hL hbz hbk hmem hrd hsm hmm hz hle
   go_upto_region 28 with fail
   obtain ⟨w1,hw1⟩ : ∃ W,wr.alloc (.cells #[.string (str rvb),.int .i64 rph,.string (str rno),.string (str rse),.slice wA wl.length cw,.slice bA bl.length bc] 52)=W:=⟨_,rfl⟩
   obtain ⟨mm1,ms1,b1⟩:=made hw1
   rw [hw1]
   obtain ⟨pb,hpb⟩ : ∃ p,wr.heap.size=p:=⟨_,rfl⟩
   have HK1:=hI (Bk.below stays_de HF.out HK.out b1)
   have HND:=hI (show ¬ Dm w0 vp vl vr pb from fun c=>by have:=(HK.out.mb.dm c).2;omega)
   have HB1:=hI b1
   rw [hpb] at mm1 ⊢
   have HPB:=hI mm1
   have HPS:=hI (show pb < w1.heap.size by omega)
   obtain ⟨rk,hrk⟩ : ∃ q,(whnI t tx rj (exPs wl)).1=q:=⟨_,rfl⟩
   obtain ⟨wn,hwn⟩ : ∃ q,(whnI t tx rj (exPs wl)).2=q:=⟨_,rfl⟩
   have HWN:=hI (show whnI t tx rj (exPs wl)=(rk,wn) by rw [← hrk,← hwn])
   clear e0 e1 e2 e3 e4 e5 hw1 mm1 ms1 b1 hpb hrk hwn
   go_cut [17] (fun v wx=>∃ (db : Nat) (vp1 vl1 vr1 : Value) (m1 : Ms),v=.pointer (some ⟨db,0,none⟩)∧Bk deE DeR 6 91 F (fun b=>b=rb∨b=db) w0 (.slice A1 n1 c1) (.slice A2 n2 c2) (yB za zb zc zd (.slice A2 n2 c2) zf sp.v sg.v sh.v sa.v (.slice none 0 0) (.slice none 0 0)) 10 (.slice Ao j co) L rk vp1 vl1 vr1 m1 wx∧wx.heap[db]?=some (.cells #[.int .i64 (ofN t 5 rvb),.int .i64 rph,.int .i64 (thg t rno),.int .i64 (thg t rse),.int .i64 wn,.int .i64 0] 91 (0,0))∧wx.heap[pb]?=some (.cells #[.string (str rvb),.int .i64 rph,.string (str rno),.string (str rse),.slice wA wl.length cw,.slice bA bl.length bc] 52 (0,0))∧¬ Dm w0 vp1 vl1 vr1 db∧¬ Dm w0 vp1 vl1 vr1 pb∧w0.heap.size≤db∧Value.ownBlock (.slice Ao j co) ≠ some db∧(∀ b,b < w.heap.size→b < wr.heap.size→wx.heap[b]?=wr.heap[b]?)∧wr.heap.size≤wx.heap.size)
   case first=>
    have hS0 : w1.drew.heap[pb]?=some (.cells #[.string (str rvb),.int .i64 rph,.string (str rno),.string (str rse),.slice wA wl.length cw,.slice bA bl.length bc] 52 (0,0)):=HPB.out
    have HQ0:=hI hS0
    have HKD:=hI (Bk.below stays_de HF.out HK1.out (Below.drew (Below.refl _ _)))
    have HL0:=hI (HB1.out.trans ((Below.drew (Below.refl w1.heap.size w1)).mono HB1.out.size))
    refine RgD.begin_ [] (fun U=>U.heap[pb]?=some (.cells #[.string (str rvb),.int .i64 rph,.string (str rno),.string (str rse),.slice wA wl.length cw,.slice bA bl.length bc] 52 (0,0))) (by kernel_rfl) hS0 (fun hHeld=>?_)
    refine tK 0 174 (h:=?_)
    simp only [zA,zB,zC]
    refine tK 1 175 (h:=?_)
    simp only [zA,zB,zC]
    refine tK 2 176 (v:=.string (str rvb)) (hy:=by intro w0 hSw;obtain ⟨z0,z1,z2,z3,z4,z5,zf⟩:=pcz6 hSw;first | (go_simp;done) | (go_simp;with_reducible rfl) | (go_simp;intro hc;exfalso;omega)) (h:=?_)
    simp only [zA,zB,zC]
    refine tK 4 178 (h:=?_)
    simp only [zA,zB,zC]
    refine tK 5 179 (v:=.int .i64 rph) (hy:=by intro w0 hSw;obtain ⟨z0,z1,z2,z3,z4,z5,zf⟩:=pcz6 hSw;first | (go_simp;done) | (go_simp;with_reducible rfl) | (go_simp;intro hc;exfalso;omega)) (h:=?_)
    simp only [zA,zB,zC]
    refine tK 6 180 (h:=?_)
    simp only [zA,zB,zC]
    refine tK 7 181 (h:=?_)
    simp only [zA,zB,zC]
    refine tK 8 182 (v:=.string (str rno)) (hy:=by intro w0 hSw;obtain ⟨z0,z1,z2,z3,z4,z5,zf⟩:=pcz6 hSw;first | (go_simp;done) | (go_simp;with_reducible rfl) | (go_simp;intro hc;exfalso;omega)) (h:=?_)
    simp only [zA,zB,zC]
    refine tK 10 184 (h:=?_)
    simp only [zA,zB,zC]
    refine tK 11 185 (h:=?_)
    simp only [zA,zB,zC]
    refine tK 12 186 (v:=.string (str rse)) (hy:=by intro w0 hSw;obtain ⟨z0,z1,z2,z3,z4,z5,zf⟩:=pcz6 hSw;first | (go_simp;done) | (go_simp;with_reducible rfl) | (go_simp;intro hc;exfalso;omega)) (h:=?_)
    simp only [zA,zB,zC]
    refine tK 14 188 (h:=?_)
    simp only [zA,zB,zC]
    refine tK 15 189 (h:=?_)
    simp only [zA,zB,zC]
    refine tK 16 190 (v:=.slice wA wl.length cw) (hy:=by intro w0 hSw;obtain ⟨z0,z1,z2,z3,z4,z5,zf⟩:=pcz6 hSw;first | (go_simp;done) | (go_simp;with_reducible rfl) | (go_simp;intro hc;exfalso;omega)) (h:=?_)
    simp only [zA,zB,zC]
    refine RgD.two (i:=3) (j:=19) (by kernel_rfl) ?_ ?_
    ·refine RgD.call (i:=3) (t:=177) rfl rfl (by rfl) (by go_simp;exact ⟨rfl,rfl⟩) ?_
     have hKd:=HKD.out
     refine (number_w t HC.out.bs.up 5 rvb w1.drew (HC.out.bs.t.below hKd.mb.low) HC.out.bs.n1).mono ?_
     rintro r u1 ⟨rfl,hb⟩
     have HK1_:=hI (Bk.below stays_de HF.out hKd hb)
     have HQ1:=hI ((hb.block pb (Array.getElem?_eq_some_iff.1 HQ0.out).1).trans HQ0.out)
     have HW1:=hI ((HL0.out).trans (hb.mono (HL0.out).size))
     clear hb hKd
     refine ⟨_,rfl,HQ1.out,?_⟩
     simp only [zA,zB,zC]
     refine RgD.two (i:=9) (j:=19) (by kernel_rfl) ?_ ?_
     ·refine RgD.call (i:=9) (t:=183) rfl rfl (by rfl) (by go_simp;exact ⟨rfl,rfl⟩) ?_
      have hKd:=HK1_.out
      refine (thing_w _ w0 A1 A2 n1 c1 n2 c2 t tx HC.out.bs _ u1 vp vl vr m hKd.mb rno).mono ?_
      rintro r u2 ⟨rfl,hb⟩
      have HK2_:=hI (Bk.below stays_de HF.out hKd hb)
      have HQ2:=hI ((hb.block pb (Array.getElem?_eq_some_iff.1 HQ1.out).1).trans HQ1.out)
      have HW2:=hI ((HW1.out).trans (hb.mono (HW1.out).size))
      clear hb hKd
      refine ⟨_,rfl,HQ2.out,?_⟩
      simp only [zA,zB,zC]
      refine RgD.two (i:=13) (j:=19) (by kernel_rfl) ?_ ?_
      ·refine RgD.call (i:=13) (t:=187) rfl rfl (by rfl) (by go_simp;exact ⟨rfl,rfl⟩) ?_
       have hKd:=HK2_.out
       refine (thing_w _ w0 A1 A2 n1 c1 n2 c2 t tx HC.out.bs _ u2 vp vl vr m hKd.mb rse).mono ?_
       rintro r u3 ⟨rfl,hb⟩
       have HK3_:=hI (Bk.below stays_de HF.out hKd hb)
       have HQ3:=hI ((hb.block pb (Array.getElem?_eq_some_iff.1 HQ2.out).1).trans HQ2.out)
       have HW3:=hI ((HW2.out).trans (hb.mono (HW2.out).size))
       clear hb hKd
       refine ⟨_,rfl,HQ3.out,?_⟩
       simp only [zA,zB,zC]
       refine RgD.two (i:=17) (j:=19) (by kernel_rfl) ?_ ?_
       ·refine RgD.call (i:=17) (t:=191) rfl rfl (by rfl) (by go_simp;exact ⟨rfl,rfl⟩) ?_
        have hKd:=HK3_.out
        refine (when_w _ w0 A1 A2 n1 c1 n2 c2 t tx HC.out.bs _ u3 vp vl vr m hKd.mb HML.out wl wA cw (upto_dm stays_x hKd.mb HWW.out (HRD.out _ (HW3.out)).1) HBL.out.2).mono ?_
        intro r u4 hr9
        obtain ⟨vp9,vl9,vr9,m9,rfl,hp9,hM9,hF9⟩:=wh_mk hKd.mb hr9
        rw [HK.out.p,HWN.out] at hp9
        rw [HK.out.p,HWN.out]
        have HK4_:=hI (Bk.step stays_de HF.out hKd hM9 hp9 hF9)
        have HQ4:=hI ((hF9.block pb (Array.getElem?_eq_some_iff.1 HQ3.out).1 HND.out).trans HQ3.out)
        have HO4:=hI (show ∀ b,b < w.heap.size→b < wr.heap.size→u4.heap[b]?=wr.heap[b]? from fun b h1 h2=>(hF9.block b (Nat.lt_of_lt_of_le h2 (HW3.out).size) (fun c=>by have:=(hKd.mb.dm c).1;have:=HWW.out;omega)).trans ((HW3.out).block b h2))
        have HZ4:=hI (Nat.le_trans (HW3.out).size hF9.size)
        have HY4:=hI (show ¬ Dm w0 vp9 vl9 vr9 pb from fun c=>by
         rcases hF9.own pb c with c | c
         ·exact HND.out c
         ·have:=(Array.getElem?_eq_some_iff.1 (HQ3.out)).1;omega)
        clear hr9 hp9 hM9 hF9 hKd
        refine ⟨_,rfl,HQ4.out,?_⟩
        simp only [zA,zB,zC]
        refine tK 18 192 (h:=?_)
        simp only [zA,zB,zC]
        refine RgD.one (i:=19) (by kernel_rfl) ?_
        obtain ⟨u5,hw⟩ : ∃ W,u4.alloc (.cells #[.int .i64 0,.int .i64 0,.int .i64 0,.int .i64 0,.int .i64 0,.int .i64 0] 91)=W:=⟨_,rfl⟩
        obtain ⟨mm,ms,hb⟩:=made hw
        obtain ⟨db,hdb⟩ : ∃ p,u4.heap.size=p:=⟨_,rfl⟩
        rw [hdb] at mm
        have hKd:=HK4_.out
        have HNY:=hI (show ¬ Dm w0 vp9 vl9 vr9 db from fun c=>by have:=(hKd.mb.dm c).2;have h9 : u4.heap.size=db:=hdb;omega)
        have HDW:=hI (show w0.heap.size≤db∧Value.ownBlock (.slice Ao j co) ≠ some db from ⟨by have:=hKd.mb.lt;have h9 : u4.heap.size=db:=hdb;omega,fun c=>by have:=(hKd.ow.lt c).2;have h9 : u4.heap.size=db:=hdb;omega⟩)
        have HK5_:=hI (Bk.newZ stays_de HF.out (Z':=(fun b=>b=rb∨b=db)) hKd hb (fun b c=>by rcases c with c | c;exact .inl c;exact .inr (by have h9 : u4.heap.size=db:=hdb;omega)) (fun b c=>by rcases c with c | c;exact Nat.lt_of_lt_of_le (hKd.mb.xl b (.inl c)) hb.size;have h9 : u4.heap.size=db:=hdb;omega))
        have HQ5:=hI ((hb.block pb (Array.getElem?_eq_some_iff.1 HQ4.out).1).trans HQ4.out)
        have HD5:=hI mm
        have HO5:=hI (show ∀ b,b < w.heap.size→b < wr.heap.size→u5.heap[b]?=wr.heap[b]? from fun b h1 h2=>(hb.block b (Nat.lt_of_lt_of_le h2 HZ4.out)).trans (HO4.out b h1 h2))
        have HZ5:=hI (Nat.le_trans HZ4.out hb.size)
        refine RgD.eff (i:=19) (t:=17) (v:=.pointer (some ⟨db,0,none⟩)) (w1:=u5) rfl rfl (by rfl) (by first | (go_simp;done) | (go_simp;exact ⟨hdb,hw⟩) | (go_simp;rw [hw,hdb];rfl) | (go_simp;rw [hw,hdb])) HQ5.out ?_
        simp only [zA,zB,zC]
        clear hw mm ms hb hdb hKd
        refine RgD.one (i:=20) (by kernel_rfl) ?_
        obtain ⟨f0,f1,f2,f3,f4,f5,ff⟩:=pcz6 HD5.out
        have HNYY:=hI (show ¬ Dm w0 vp9 vl9 vr9 db from HNY.out)
        obtain ⟨u6,hw⟩ : ∃ W,putRow u5 db 0 [.int .i64 (ofN t 5 rvb),.int .i64 rph,.int .i64 (thg t rno),.int .i64 (thg t rse),.int .i64 wn,.int .i64 0]=W:=⟨_,rfl⟩
        have hd6 : u6.heap[db]?=some (.cells #[.int .i64 (ofN t 5 rvb),.int .i64 rph,.int .i64 (thg t rno),.int .i64 (thg t rse),.int .i64 wn,.int .i64 0] 91 (0,0)):=by rw [← hw];exact putRow_mid [] [.int .i64 0,.int .i64 0,.int .i64 0,.int .i64 0,.int .i64 0,.int .i64 0] [] [.int .i64 (ofN t 5 rvb),.int .i64 rph,.int .i64 (thg t rno),.int .i64 (thg t rse),.int .i64 wn,.int .i64 0] rfl HD5.out
        have hne : pb ≠ db:=fun c=>by have h1:=HD5.out;rw [← c,HQ5.out] at h1;injection h1 with h1;injection h1 with h1 h2;cases h2
        have hq6 : u6.heap[pb]?=some (.cells #[.string (str rvb),.int .i64 rph,.string (str rno),.string (str rse),.slice wA wl.length cw,.slice bA bl.length bc] 52 (0,0)):=by rw [← hw,putRow_other _ _ _ _ _ hne];exact HQ5.out
        have HK6_:=hI (show Bk deE DeR 6 91 F (fun b=>b=rb∨b=db) w0 (.slice A1 n1 c1) (.slice A2 n2 c2) (yB za zb zc zd (.slice A2 n2 c2) zf sp.v sg.v sh.v sa.v (.slice none 0 0) (.slice none 0 0)) 10 (.slice Ao j co) L rk vp9 vl9 vr9 m9 u6 by rw [← hw];exact bk_put stays_de HF.out (.inr rfl) HNY.out HDW.out.1 _ _ HK5_.out)
        have HO6:=hI (show ∀ b,b < w.heap.size→b < wr.heap.size→u6.heap[b]?=wr.heap[b]? from fun b h1 h2=>by rw [← hw,putRow_other _ _ _ _ _ (fun c=>by have:=HDW.out.1;have:=HWW.out;omega)];exact HO5.out b h1 h2)
        have HZ6:=hI (show wr.heap.size≤u6.heap.size by rw [← hw,putRow_size];exact HZ5.out)
        have HE:=hI (And.intro hd6 hq6)
        refine RgD.storeS (i:=20) (w1:=u6) rfl rfl (by rfl) (by first | (go_simp;done) | (go_simp;exact hw) | (go_simp;rw [hw])) hq6 ?_
        clear f0 f1 f2 f3 f4 f5 ff hw hd6 hq6 hne
        refine RgD.done (by kernel_rfl) ?_ _
        clear hS0
        go_wp2_with fail
        go_meet
        exact ⟨db,vp9,vl9,vr9,m9,rfl,HK6_.out,HE.out.1,HE.out.2,HNY.out,HY4.out,HDW.out.1,HDW.out.2,HO6.out,HZ6.out⟩
       ·obtain ⟨u7,hw⟩ : ∃ W,u3.alloc (.cells #[.int .i64 0,.int .i64 0,.int .i64 0,.int .i64 0,.int .i64 0,.int .i64 0] 91)=W:=⟨_,rfl⟩
        obtain ⟨mm,ms,hb⟩:=made hw
        obtain ⟨db,hdb⟩ : ∃ p,u3.heap.size=p:=⟨_,rfl⟩
        rw [hdb] at mm
        have hKd:=HK3_.out
        have HNX:=hI (show ¬ Dm w0 vp vl vr db from fun c=>by have:=(hKd.mb.dm c).2;have h9 : u3.heap.size=db:=hdb;omega)
        have HDW:=hI (show w0.heap.size≤db∧Value.ownBlock (.slice Ao j co) ≠ some db from ⟨by have:=hKd.mb.lt;have h9 : u3.heap.size=db:=hdb;omega,fun c=>by have:=(hKd.ow.lt c).2;have h9 : u3.heap.size=db:=hdb;omega⟩)
        have HK7_:=hI (Bk.newZ stays_de HF.out (Z':=(fun b=>b=rb∨b=db)) hKd hb (fun b c=>by rcases c with c | c;exact .inl c;exact .inr (by have h9 : u3.heap.size=db:=hdb;omega)) (fun b c=>by rcases c with c | c;exact Nat.lt_of_lt_of_le (hKd.mb.xl b (.inl c)) hb.size;have h9 : u3.heap.size=db:=hdb;omega))
        have HQ7:=hI ((hb.block pb (Array.getElem?_eq_some_iff.1 HQ3.out).1).trans HQ3.out)
        have HD7:=hI mm
        have HW7:=hI ((HW3.out).trans (hb.mono (HW3.out).size))
        refine RgD.eff (i:=19) (t:=17) (v:=.pointer (some ⟨db,0,none⟩)) (w1:=u7) rfl rfl (by rfl) (by first | (go_simp;done) | (go_simp;exact ⟨hdb,hw⟩) | (go_simp;rw [hw,hdb];rfl) | (go_simp;rw [hw,hdb])) HQ7.out ?_
        simp only [zA,zB,zC]
        clear hw mm ms hb hdb hKd
        refine RgD.one (i:=17) (by kernel_rfl) ?_
        refine RgD.call (i:=17) (t:=191) rfl rfl (by rfl) (by go_simp;exact ⟨rfl,rfl⟩) ?_
        have hKd:=HK7_.out
        refine (when_w _ w0 A1 A2 n1 c1 n2 c2 t tx HC.out.bs _ u7 vp vl vr m hKd.mb HML.out wl wA cw (upto_dm stays_x hKd.mb HWW.out (HRD.out _ (HW7.out)).1) HBL.out.2).mono ?_
        intro r u8 hr9
        obtain ⟨vp9,vl9,vr9,m9,rfl,hp9,hM9,hF9⟩:=wh_mk hKd.mb hr9
        rw [HK.out.p,HWN.out] at hp9
        rw [HK.out.p,HWN.out]
        have HK8_:=hI (Bk.step stays_de HF.out hKd hM9 hp9 hF9)
        have HQ8:=hI ((hF9.block pb (Array.getElem?_eq_some_iff.1 HQ7.out).1 HND.out).trans HQ7.out)
        have HO8:=hI (show ∀ b,b < w.heap.size→b < wr.heap.size→u8.heap[b]?=wr.heap[b]? from fun b h1 h2=>(hF9.block b (Nat.lt_of_lt_of_le h2 (HW7.out).size) (fun c=>by have:=(hKd.mb.dm c).1;have:=HWW.out;omega)).trans ((HW7.out).block b h2))
        have HZ8:=hI (Nat.le_trans (HW7.out).size hF9.size)
        have HY8:=hI (show ¬ Dm w0 vp9 vl9 vr9 pb from fun c=>by
         rcases hF9.own pb c with c | c
         ·exact HND.out c
         ·have:=(Array.getElem?_eq_some_iff.1 (HQ7.out)).1;omega)
        have HD8:=hI ((hF9.block db (Array.getElem?_eq_some_iff.1 HD7.out).1 HNX.out).trans HD7.out)
        have HNY:=hI (show ¬ Dm w0 vp9 vl9 vr9 db from fun c=>by
         rcases hF9.own db c with c | c
         ·exact HNX.out c
         ·have:=(Array.getElem?_eq_some_iff.1 (HD7.out)).1;omega)
        clear hr9 hp9 hM9 hF9 hKd
        refine ⟨_,rfl,HQ8.out,?_⟩
        simp only [zA,zB,zC]
        refine tK 18 192 (h:=?_)
        simp only [zA,zB,zC]
        refine RgD.one (i:=20) (by kernel_rfl) ?_
        obtain ⟨f0,f1,f2,f3,f4,f5,ff⟩:=pcz6 HD8.out
        have HNYY:=hI (show ¬ Dm w0 vp9 vl9 vr9 db from HNY.out)
        obtain ⟨u9,hw⟩ : ∃ W,putRow u8 db 0 [.int .i64 (ofN t 5 rvb),.int .i64 rph,.int .i64 (thg t rno),.int .i64 (thg t rse),.int .i64 wn,.int .i64 0]=W:=⟨_,rfl⟩
        have hd9 : u9.heap[db]?=some (.cells #[.int .i64 (ofN t 5 rvb),.int .i64 rph,.int .i64 (thg t rno),.int .i64 (thg t rse),.int .i64 wn,.int .i64 0] 91 (0,0)):=by rw [← hw];exact putRow_mid [] [.int .i64 0,.int .i64 0,.int .i64 0,.int .i64 0,.int .i64 0,.int .i64 0] [] [.int .i64 (ofN t 5 rvb),.int .i64 rph,.int .i64 (thg t rno),.int .i64 (thg t rse),.int .i64 wn,.int .i64 0] rfl HD8.out
        have hne : pb ≠ db:=fun c=>by have h1:=HD8.out;rw [← c,HQ8.out] at h1;injection h1 with h1;injection h1 with h1 h2;cases h2
        have hq9 : u9.heap[pb]?=some (.cells #[.string (str rvb),.int .i64 rph,.string (str rno),.string (str rse),.slice wA wl.length cw,.slice bA bl.length bc] 52 (0,0)):=by rw [← hw,putRow_other _ _ _ _ _ hne];exact HQ8.out
        have HK9_:=hI (show Bk deE DeR 6 91 F (fun b=>b=rb∨b=db) w0 (.slice A1 n1 c1) (.slice A2 n2 c2) (yB za zb zc zd (.slice A2 n2 c2) zf sp.v sg.v sh.v sa.v (.slice none 0 0) (.slice none 0 0)) 10 (.slice Ao j co) L rk vp9 vl9 vr9 m9 u9 by rw [← hw];exact bk_put stays_de HF.out (.inr rfl) HNY.out HDW.out.1 _ _ HK8_.out)
        have HO9:=hI (show ∀ b,b < w.heap.size→b < wr.heap.size→u9.heap[b]?=wr.heap[b]? from fun b h1 h2=>by rw [← hw,putRow_other _ _ _ _ _ (fun c=>by have:=HDW.out.1;have:=HWW.out;omega)];exact HO8.out b h1 h2)
        have HZ9:=hI (show wr.heap.size≤u9.heap.size by rw [← hw,putRow_size];exact HZ8.out)
        have HE:=hI (And.intro hd9 hq9)
        refine RgD.storeS (i:=20) (w1:=u9) rfl rfl (by rfl) (by first | (go_simp;done) | (go_simp;exact hw) | (go_simp;rw [hw])) hq9 ?_
        clear f0 f1 f2 f3 f4 f5 ff hw hd9 hq9 hne
        refine RgD.done (by kernel_rfl) ?_ _
        clear hS0
        go_wp2_with fail
        go_meet
        exact ⟨db,vp9,vl9,vr9,m9,rfl,HK9_.out,HE.out.1,HE.out.2,HNY.out,HY8.out,HDW.out.1,HDW.out.2,HO9.out,HZ9.out⟩
      ·obtain ⟨u10,hw⟩ : ∃ W,u2.alloc (.cells #[.int .i64 0,.int .i64 0,.int .i64 0,.int .i64 0,.int .i64 0,.int .i64 0] 91)=W:=⟨_,rfl⟩
       obtain ⟨mm,ms,hb⟩:=made hw
       obtain ⟨db,hdb⟩ : ∃ p,u2.heap.size=p:=⟨_,rfl⟩
       rw [hdb] at mm
       have hKd:=HK2_.out
       have HNX:=hI (show ¬ Dm w0 vp vl vr db from fun c=>by have:=(hKd.mb.dm c).2;have h9 : u2.heap.size=db:=hdb;omega)
       have HDW:=hI (show w0.heap.size≤db∧Value.ownBlock (.slice Ao j co) ≠ some db from ⟨by have:=hKd.mb.lt;have h9 : u2.heap.size=db:=hdb;omega,fun c=>by have:=(hKd.ow.lt c).2;have h9 : u2.heap.size=db:=hdb;omega⟩)
       have HK10_:=hI (Bk.newZ stays_de HF.out (Z':=(fun b=>b=rb∨b=db)) hKd hb (fun b c=>by rcases c with c | c;exact .inl c;exact .inr (by have h9 : u2.heap.size=db:=hdb;omega)) (fun b c=>by rcases c with c | c;exact Nat.lt_of_lt_of_le (hKd.mb.xl b (.inl c)) hb.size;have h9 : u2.heap.size=db:=hdb;omega))
       have HQ10:=hI ((hb.block pb (Array.getElem?_eq_some_iff.1 HQ2.out).1).trans HQ2.out)
       have HD10:=hI mm
       have HW10:=hI ((HW2.out).trans (hb.mono (HW2.out).size))
       refine RgD.eff (i:=19) (t:=17) (v:=.pointer (some ⟨db,0,none⟩)) (w1:=u10) rfl rfl (by rfl) (by first | (go_simp;done) | (go_simp;exact ⟨hdb,hw⟩) | (go_simp;rw [hw,hdb];rfl) | (go_simp;rw [hw,hdb])) HQ10.out ?_
       simp only [zA,zB,zC]
       clear hw mm ms hb hdb hKd
       refine RgD.one (i:=13) (by kernel_rfl) ?_
       refine RgD.call (i:=13) (t:=187) rfl rfl (by rfl) (by go_simp;exact ⟨rfl,rfl⟩) ?_
       have hKd:=HK10_.out
       refine (thing_w _ w0 A1 A2 n1 c1 n2 c2 t tx HC.out.bs _ u10 vp vl vr m hKd.mb rse).mono ?_
       rintro r u11 ⟨rfl,hb⟩
       have HK11_:=hI (Bk.below stays_de HF.out hKd hb)
       have HQ11:=hI ((hb.block pb (Array.getElem?_eq_some_iff.1 HQ10.out).1).trans HQ10.out)
       have HW11:=hI ((HW10.out).trans (hb.mono (HW10.out).size))
       have HD11:=hI ((hb.block db (Array.getElem?_eq_some_iff.1 HD10.out).1).trans HD10.out)
       clear hb hKd
       refine ⟨_,rfl,HQ11.out,?_⟩
       simp only [zA,zB,zC]
       refine RgD.one (i:=17) (by kernel_rfl) ?_
       refine RgD.call (i:=17) (t:=191) rfl rfl (by rfl) (by go_simp;exact ⟨rfl,rfl⟩) ?_
       have hKd:=HK11_.out
       refine (when_w _ w0 A1 A2 n1 c1 n2 c2 t tx HC.out.bs _ u11 vp vl vr m hKd.mb HML.out wl wA cw (upto_dm stays_x hKd.mb HWW.out (HRD.out _ (HW11.out)).1) HBL.out.2).mono ?_
       intro r u12 hr9
       obtain ⟨vp9,vl9,vr9,m9,rfl,hp9,hM9,hF9⟩:=wh_mk hKd.mb hr9
       rw [HK.out.p,HWN.out] at hp9
       rw [HK.out.p,HWN.out]
       have HK12_:=hI (Bk.step stays_de HF.out hKd hM9 hp9 hF9)
       have HQ12:=hI ((hF9.block pb (Array.getElem?_eq_some_iff.1 HQ11.out).1 HND.out).trans HQ11.out)
       have HO12:=hI (show ∀ b,b < w.heap.size→b < wr.heap.size→u12.heap[b]?=wr.heap[b]? from fun b h1 h2=>(hF9.block b (Nat.lt_of_lt_of_le h2 (HW11.out).size) (fun c=>by have:=(hKd.mb.dm c).1;have:=HWW.out;omega)).trans ((HW11.out).block b h2))
       have HZ12:=hI (Nat.le_trans (HW11.out).size hF9.size)
       have HY12:=hI (show ¬ Dm w0 vp9 vl9 vr9 pb from fun c=>by
        rcases hF9.own pb c with c | c
        ·exact HND.out c
        ·have:=(Array.getElem?_eq_some_iff.1 (HQ11.out)).1;omega)
       have HD12:=hI ((hF9.block db (Array.getElem?_eq_some_iff.1 HD11.out).1 HNX.out).trans HD11.out)
       have HNY:=hI (show ¬ Dm w0 vp9 vl9 vr9 db from fun c=>by
        rcases hF9.own db c with c | c
        ·exact HNX.out c
        ·have:=(Array.getElem?_eq_some_iff.1 (HD11.out)).1;omega)
       clear hr9 hp9 hM9 hF9 hKd
       refine ⟨_,rfl,HQ12.out,?_⟩
       simp only [zA,zB,zC]
       refine tK 18 192 (h:=?_)
       simp only [zA,zB,zC]
       refine RgD.one (i:=20) (by kernel_rfl) ?_
       obtain ⟨f0,f1,f2,f3,f4,f5,ff⟩:=pcz6 HD12.out
       have HNYY:=hI (show ¬ Dm w0 vp9 vl9 vr9 db from HNY.out)
       obtain ⟨u13,hw⟩ : ∃ W,putRow u12 db 0 [.int .i64 (ofN t 5 rvb),.int .i64 rph,.int .i64 (thg t rno),.int .i64 (thg t rse),.int .i64 wn,.int .i64 0]=W:=⟨_,rfl⟩
       have hd13 : u13.heap[db]?=some (.cells #[.int .i64 (ofN t 5 rvb),.int .i64 rph,.int .i64 (thg t rno),.int .i64 (thg t rse),.int .i64 wn,.int .i64 0] 91 (0,0)):=by rw [← hw];exact putRow_mid [] [.int .i64 0,.int .i64 0,.int .i64 0,.int .i64 0,.int .i64 0,.int .i64 0] [] [.int .i64 (ofN t 5 rvb),.int .i64 rph,.int .i64 (thg t rno),.int .i64 (thg t rse),.int .i64 wn,.int .i64 0] rfl HD12.out
       have hne : pb ≠ db:=fun c=>by have h1:=HD12.out;rw [← c,HQ12.out] at h1;injection h1 with h1;injection h1 with h1 h2;cases h2
       have hq13 : u13.heap[pb]?=some (.cells #[.string (str rvb),.int .i64 rph,.string (str rno),.string (str rse),.slice wA wl.length cw,.slice bA bl.length bc] 52 (0,0)):=by rw [← hw,putRow_other _ _ _ _ _ hne];exact HQ12.out
       have HK13_:=hI (show Bk deE DeR 6 91 F (fun b=>b=rb∨b=db) w0 (.slice A1 n1 c1) (.slice A2 n2 c2) (yB za zb zc zd (.slice A2 n2 c2) zf sp.v sg.v sh.v sa.v (.slice none 0 0) (.slice none 0 0)) 10 (.slice Ao j co) L rk vp9 vl9 vr9 m9 u13 by rw [← hw];exact bk_put stays_de HF.out (.inr rfl) HNY.out HDW.out.1 _ _ HK12_.out)
       have HO13:=hI (show ∀ b,b < w.heap.size→b < wr.heap.size→u13.heap[b]?=wr.heap[b]? from fun b h1 h2=>by rw [← hw,putRow_other _ _ _ _ _ (fun c=>by have:=HDW.out.1;have:=HWW.out;omega)];exact HO12.out b h1 h2)
       have HZ13:=hI (show wr.heap.size≤u13.heap.size by rw [← hw,putRow_size];exact HZ12.out)
       have HE:=hI (And.intro hd13 hq13)
       refine RgD.storeS (i:=20) (w1:=u13) rfl rfl (by rfl) (by first | (go_simp;done) | (go_simp;exact hw) | (go_simp;rw [hw])) hq13 ?_
       clear f0 f1 f2 f3 f4 f5 ff hw hd13 hq13 hne
       refine RgD.done (by kernel_rfl) ?_ _
       clear hS0
       go_wp2_with fail
       go_meet
       exact ⟨db,vp9,vl9,vr9,m9,rfl,HK13_.out,HE.out.1,HE.out.2,HNY.out,HY12.out,HDW.out.1,HDW.out.2,HO13.out,HZ13.out⟩
     ·obtain ⟨u14,hw⟩ : ∃ W,u1.alloc (.cells #[.int .i64 0,.int .i64 0,.int .i64 0,.int .i64 0,.int .i64 0,.int .i64 0] 91)=W:=⟨_,rfl⟩
      obtain ⟨mm,ms,hb⟩:=made hw
      obtain ⟨db,hdb⟩ : ∃ p,u1.heap.size=p:=⟨_,rfl⟩
      rw [hdb] at mm
      have hKd:=HK1_.out
      have HNX:=hI (show ¬ Dm w0 vp vl vr db from fun c=>by have:=(hKd.mb.dm c).2;have h9 : u1.heap.size=db:=hdb;omega)
      have HDW:=hI (show w0.heap.size≤db∧Value.ownBlock (.slice Ao j co) ≠ some db from ⟨by have:=hKd.mb.lt;have h9 : u1.heap.size=db:=hdb;omega,fun c=>by have:=(hKd.ow.lt c).2;have h9 : u1.heap.size=db:=hdb;omega⟩)
      have HK14_:=hI (Bk.newZ stays_de HF.out (Z':=(fun b=>b=rb∨b=db)) hKd hb (fun b c=>by rcases c with c | c;exact .inl c;exact .inr (by have h9 : u1.heap.size=db:=hdb;omega)) (fun b c=>by rcases c with c | c;exact Nat.lt_of_lt_of_le (hKd.mb.xl b (.inl c)) hb.size;have h9 : u1.heap.size=db:=hdb;omega))
      have HQ14:=hI ((hb.block pb (Array.getElem?_eq_some_iff.1 HQ1.out).1).trans HQ1.out)
      have HD14:=hI mm
      have HW14:=hI ((HW1.out).trans (hb.mono (HW1.out).size))
      refine RgD.eff (i:=19) (t:=17) (v:=.pointer (some ⟨db,0,none⟩)) (w1:=u14) rfl rfl (by rfl) (by first | (go_simp;done) | (go_simp;exact ⟨hdb,hw⟩) | (go_simp;rw [hw,hdb];rfl) | (go_simp;rw [hw,hdb])) HQ14.out ?_
      simp only [zA,zB,zC]
      clear hw mm ms hb hdb hKd
      refine RgD.one (i:=9) (by kernel_rfl) ?_
      refine RgD.call (i:=9) (t:=183) rfl rfl (by rfl) (by go_simp;exact ⟨rfl,rfl⟩) ?_
      have hKd:=HK14_.out
      refine (thing_w _ w0 A1 A2 n1 c1 n2 c2 t tx HC.out.bs _ u14 vp vl vr m hKd.mb rno).mono ?_
      rintro r u15 ⟨rfl,hb⟩
      have HK15_:=hI (Bk.below stays_de HF.out hKd hb)
      have HQ15:=hI ((hb.block pb (Array.getElem?_eq_some_iff.1 HQ14.out).1).trans HQ14.out)
      have HW15:=hI ((HW14.out).trans (hb.mono (HW14.out).size))
      have HD15:=hI ((hb.block db (Array.getElem?_eq_some_iff.1 HD14.out).1).trans HD14.out)
      clear hb hKd
      refine ⟨_,rfl,HQ15.out,?_⟩
      simp only [zA,zB,zC]
      refine RgD.one (i:=13) (by kernel_rfl) ?_
      refine RgD.call (i:=13) (t:=187) rfl rfl (by rfl) (by go_simp;exact ⟨rfl,rfl⟩) ?_
      have hKd:=HK15_.out
      refine (thing_w _ w0 A1 A2 n1 c1 n2 c2 t tx HC.out.bs _ u15 vp vl vr m hKd.mb rse).mono ?_
      rintro r u16 ⟨rfl,hb⟩
      have HK16_:=hI (Bk.below stays_de HF.out hKd hb)
      have HQ16:=hI ((hb.block pb (Array.getElem?_eq_some_iff.1 HQ15.out).1).trans HQ15.out)
      have HW16:=hI ((HW15.out).trans (hb.mono (HW15.out).size))
      have HD16:=hI ((hb.block db (Array.getElem?_eq_some_iff.1 HD15.out).1).trans HD15.out)
      clear hb hKd
      refine ⟨_,rfl,HQ16.out,?_⟩
      simp only [zA,zB,zC]
      refine RgD.one (i:=17) (by kernel_rfl) ?_
      refine RgD.call (i:=17) (t:=191) rfl rfl (by rfl) (by go_simp;exact ⟨rfl,rfl⟩) ?_
      have hKd:=HK16_.out
      refine (when_w _ w0 A1 A2 n1 c1 n2 c2 t tx HC.out.bs _ u16 vp vl vr m hKd.mb HML.out wl wA cw (upto_dm stays_x hKd.mb HWW.out (HRD.out _ (HW16.out)).1) HBL.out.2).mono ?_
      intro r u17 hr9
      obtain ⟨vp9,vl9,vr9,m9,rfl,hp9,hM9,hF9⟩:=wh_mk hKd.mb hr9
      rw [HK.out.p,HWN.out] at hp9
      rw [HK.out.p,HWN.out]
      have HK17_:=hI (Bk.step stays_de HF.out hKd hM9 hp9 hF9)
      have HQ17:=hI ((hF9.block pb (Array.getElem?_eq_some_iff.1 HQ16.out).1 HND.out).trans HQ16.out)
      have HO17:=hI (show ∀ b,b < w.heap.size→b < wr.heap.size→u17.heap[b]?=wr.heap[b]? from fun b h1 h2=>(hF9.block b (Nat.lt_of_lt_of_le h2 (HW16.out).size) (fun c=>by have:=(hKd.mb.dm c).1;have:=HWW.out;omega)).trans ((HW16.out).block b h2))
      have HZ17:=hI (Nat.le_trans (HW16.out).size hF9.size)
      have HY17:=hI (show ¬ Dm w0 vp9 vl9 vr9 pb from fun c=>by
       rcases hF9.own pb c with c | c
       ·exact HND.out c
       ·have:=(Array.getElem?_eq_some_iff.1 (HQ16.out)).1;omega)
      have HD17:=hI ((hF9.block db (Array.getElem?_eq_some_iff.1 HD16.out).1 HNX.out).trans HD16.out)
      have HNY:=hI (show ¬ Dm w0 vp9 vl9 vr9 db from fun c=>by
       rcases hF9.own db c with c | c
       ·exact HNX.out c
       ·have:=(Array.getElem?_eq_some_iff.1 (HD16.out)).1;omega)
      clear hr9 hp9 hM9 hF9 hKd
      refine ⟨_,rfl,HQ17.out,?_⟩
      simp only [zA,zB,zC]
      refine tK 18 192 (h:=?_)
      simp only [zA,zB,zC]
      refine RgD.one (i:=20) (by kernel_rfl) ?_
      obtain ⟨f0,f1,f2,f3,f4,f5,ff⟩:=pcz6 HD17.out
      have HNYY:=hI (show ¬ Dm w0 vp9 vl9 vr9 db from HNY.out)
      obtain ⟨u18,hw⟩ : ∃ W,putRow u17 db 0 [.int .i64 (ofN t 5 rvb),.int .i64 rph,.int .i64 (thg t rno),.int .i64 (thg t rse),.int .i64 wn,.int .i64 0]=W:=⟨_,rfl⟩
      have hd18 : u18.heap[db]?=some (.cells #[.int .i64 (ofN t 5 rvb),.int .i64 rph,.int .i64 (thg t rno),.int .i64 (thg t rse),.int .i64 wn,.int .i64 0] 91 (0,0)):=by rw [← hw];exact putRow_mid [] [.int .i64 0,.int .i64 0,.int .i64 0,.int .i64 0,.int .i64 0,.int .i64 0] [] [.int .i64 (ofN t 5 rvb),.int .i64 rph,.int .i64 (thg t rno),.int .i64 (thg t rse),.int .i64 wn,.int .i64 0] rfl HD17.out
      have hne : pb ≠ db:=fun c=>by have h1:=HD17.out;rw [← c,HQ17.out] at h1;injection h1 with h1;injection h1 with h1 h2;cases h2
      have hq18 : u18.heap[pb]?=some (.cells #[.string (str rvb),.int .i64 rph,.string (str rno),.string (str rse),.slice wA wl.length cw,.slice bA bl.length bc] 52 (0,0)):=by rw [← hw,putRow_other _ _ _ _ _ hne];exact HQ17.out
      have HK18_:=hI (show Bk deE DeR 6 91 F (fun b=>b=rb∨b=db) w0 (.slice A1 n1 c1) (.slice A2 n2 c2) (yB za zb zc zd (.slice A2 n2 c2) zf sp.v sg.v sh.v sa.v (.slice none 0 0) (.slice none 0 0)) 10 (.slice Ao j co) L rk vp9 vl9 vr9 m9 u18 by rw [← hw];exact bk_put stays_de HF.out (.inr rfl) HNY.out HDW.out.1 _ _ HK17_.out)
      have HO18:=hI (show ∀ b,b < w.heap.size→b < wr.heap.size→u18.heap[b]?=wr.heap[b]? from fun b h1 h2=>by rw [← hw,putRow_other _ _ _ _ _ (fun c=>by have:=HDW.out.1;have:=HWW.out;omega)];exact HO17.out b h1 h2)
      have HZ18:=hI (show wr.heap.size≤u18.heap.size by rw [← hw,putRow_size];exact HZ17.out)
      have HE:=hI (And.intro hd18 hq18)
      refine RgD.storeS (i:=20) (w1:=u18) rfl rfl (by rfl) (by first | (go_simp;done) | (go_simp;exact hw) | (go_simp;rw [hw])) hq18 ?_
      clear f0 f1 f2 f3 f4 f5 ff hw hd18 hq18 hne
      refine RgD.done (by kernel_rfl) ?_ _
      clear hS0
      go_wp2_with fail
      go_meet
      exact ⟨db,vp9,vl9,vr9,m9,rfl,HK18_.out,HE.out.1,HE.out.2,HNY.out,HY17.out,HDW.out.1,HDW.out.2,HO18.out,HZ18.out⟩
    ·obtain ⟨u19,hw⟩ : ∃ W,w1.drew.alloc (.cells #[.int .i64 0,.int .i64 0,.int .i64 0,.int .i64 0,.int .i64 0,.int .i64 0] 91)=W:=⟨_,rfl⟩
     obtain ⟨mm,ms,hb⟩:=made hw
     obtain ⟨db,hdb⟩ : ∃ p,w1.drew.heap.size=p:=⟨_,rfl⟩
     rw [hdb] at mm
     have hKd:=HKD.out
     have HNX:=hI (show ¬ Dm w0 vp vl vr db from fun c=>by have:=(hKd.mb.dm c).2;have h9 : w1.drew.heap.size=db:=hdb;omega)
     have HDW:=hI (show w0.heap.size≤db∧Value.ownBlock (.slice Ao j co) ≠ some db from ⟨by have:=hKd.mb.lt;have h9 : w1.drew.heap.size=db:=hdb;omega,fun c=>by have:=(hKd.ow.lt c).2;have h9 : w1.drew.heap.size=db:=hdb;omega⟩)
     have HK19_:=hI (Bk.newZ stays_de HF.out (Z':=(fun b=>b=rb∨b=db)) hKd hb (fun b c=>by rcases c with c | c;exact .inl c;exact .inr (by have h9 : w1.drew.heap.size=db:=hdb;omega)) (fun b c=>by rcases c with c | c;exact Nat.lt_of_lt_of_le (hKd.mb.xl b (.inl c)) hb.size;have h9 : w1.drew.heap.size=db:=hdb;omega))
     have HQ19:=hI ((hb.block pb (Array.getElem?_eq_some_iff.1 HQ0.out).1).trans HQ0.out)
     have HD19:=hI mm
     have HW19:=hI ((HL0.out).trans (hb.mono (HL0.out).size))
     refine RgD.eff (i:=19) (t:=17) (v:=.pointer (some ⟨db,0,none⟩)) (w1:=u19) rfl rfl (by rfl) (by first | (go_simp;done) | (go_simp;exact ⟨hdb,hw⟩) | (go_simp;rw [hw,hdb];rfl) | (go_simp;rw [hw,hdb])) HQ19.out ?_
     simp only [zA,zB,zC]
     clear hw mm ms hb hdb hKd
     refine RgD.one (i:=3) (by kernel_rfl) ?_
     refine RgD.call (i:=3) (t:=177) rfl rfl (by rfl) (by go_simp;exact ⟨rfl,rfl⟩) ?_
     have hKd:=HK19_.out
     refine (number_w t HC.out.bs.up 5 rvb u19 (HC.out.bs.t.below hKd.mb.low) HC.out.bs.n1).mono ?_
     rintro r u20 ⟨rfl,hb⟩
     have HK20_:=hI (Bk.below stays_de HF.out hKd hb)
     have HQ20:=hI ((hb.block pb (Array.getElem?_eq_some_iff.1 HQ19.out).1).trans HQ19.out)
     have HW20:=hI ((HW19.out).trans (hb.mono (HW19.out).size))
     have HD20:=hI ((hb.block db (Array.getElem?_eq_some_iff.1 HD19.out).1).trans HD19.out)
     clear hb hKd
     refine ⟨_,rfl,HQ20.out,?_⟩
     simp only [zA,zB,zC]
     refine RgD.one (i:=9) (by kernel_rfl) ?_
     refine RgD.call (i:=9) (t:=183) rfl rfl (by rfl) (by go_simp;exact ⟨rfl,rfl⟩) ?_
     have hKd:=HK20_.out
     refine (thing_w _ w0 A1 A2 n1 c1 n2 c2 t tx HC.out.bs _ u20 vp vl vr m hKd.mb rno).mono ?_
     rintro r u21 ⟨rfl,hb⟩
     have HK21_:=hI (Bk.below stays_de HF.out hKd hb)
     have HQ21:=hI ((hb.block pb (Array.getElem?_eq_some_iff.1 HQ20.out).1).trans HQ20.out)
     have HW21:=hI ((HW20.out).trans (hb.mono (HW20.out).size))
     have HD21:=hI ((hb.block db (Array.getElem?_eq_some_iff.1 HD20.out).1).trans HD20.out)
     clear hb hKd
     refine ⟨_,rfl,HQ21.out,?_⟩
     simp only [zA,zB,zC]
     refine RgD.one (i:=13) (by kernel_rfl) ?_
     refine RgD.call (i:=13) (t:=187) rfl rfl (by rfl) (by go_simp;exact ⟨rfl,rfl⟩) ?_
     have hKd:=HK21_.out
     refine (thing_w _ w0 A1 A2 n1 c1 n2 c2 t tx HC.out.bs _ u21 vp vl vr m hKd.mb rse).mono ?_
     rintro r u22 ⟨rfl,hb⟩
     have HK22_:=hI (Bk.below stays_de HF.out hKd hb)
     have HQ22:=hI ((hb.block pb (Array.getElem?_eq_some_iff.1 HQ21.out).1).trans HQ21.out)
     have HW22:=hI ((HW21.out).trans (hb.mono (HW21.out).size))
     have HD22:=hI ((hb.block db (Array.getElem?_eq_some_iff.1 HD21.out).1).trans HD21.out)
     clear hb hKd
     refine ⟨_,rfl,HQ22.out,?_⟩
     simp only [zA,zB,zC]
     refine RgD.one (i:=17) (by kernel_rfl) ?_
     refine RgD.call (i:=17) (t:=191) rfl rfl (by rfl) (by go_simp;exact ⟨rfl,rfl⟩) ?_
     have hKd:=HK22_.out
     refine (when_w _ w0 A1 A2 n1 c1 n2 c2 t tx HC.out.bs _ u22 vp vl vr m hKd.mb HML.out wl wA cw (upto_dm stays_x hKd.mb HWW.out (HRD.out _ (HW22.out)).1) HBL.out.2).mono ?_
     intro r u23 hr9
     obtain ⟨vp9,vl9,vr9,m9,rfl,hp9,hM9,hF9⟩:=wh_mk hKd.mb hr9
     rw [HK.out.p,HWN.out] at hp9
     rw [HK.out.p,HWN.out]
     have HK23_:=hI (Bk.step stays_de HF.out hKd hM9 hp9 hF9)
     have HQ23:=hI ((hF9.block pb (Array.getElem?_eq_some_iff.1 HQ22.out).1 HND.out).trans HQ22.out)
     have HO23:=hI (show ∀ b,b < w.heap.size→b < wr.heap.size→u23.heap[b]?=wr.heap[b]? from fun b h1 h2=>(hF9.block b (Nat.lt_of_lt_of_le h2 (HW22.out).size) (fun c=>by have:=(hKd.mb.dm c).1;have:=HWW.out;omega)).trans ((HW22.out).block b h2))
     have HZ23:=hI (Nat.le_trans (HW22.out).size hF9.size)
     have HY23:=hI (show ¬ Dm w0 vp9 vl9 vr9 pb from fun c=>by
      rcases hF9.own pb c with c | c
      ·exact HND.out c
      ·have:=(Array.getElem?_eq_some_iff.1 (HQ22.out)).1;omega)
     have HD23:=hI ((hF9.block db (Array.getElem?_eq_some_iff.1 HD22.out).1 HNX.out).trans HD22.out)
     have HNY:=hI (show ¬ Dm w0 vp9 vl9 vr9 db from fun c=>by
      rcases hF9.own db c with c | c
      ·exact HNX.out c
      ·have:=(Array.getElem?_eq_some_iff.1 (HD22.out)).1;omega)
     clear hr9 hp9 hM9 hF9 hKd
     refine ⟨_,rfl,HQ23.out,?_⟩
     simp only [zA,zB,zC]
     refine tK 18 192 (h:=?_)
     simp only [zA,zB,zC]
     refine RgD.one (i:=20) (by kernel_rfl) ?_
     obtain ⟨f0,f1,f2,f3,f4,f5,ff⟩:=pcz6 HD23.out
     have HNYY:=hI (show ¬ Dm w0 vp9 vl9 vr9 db from HNY.out)
     obtain ⟨u24,hw⟩ : ∃ W,putRow u23 db 0 [.int .i64 (ofN t 5 rvb),.int .i64 rph,.int .i64 (thg t rno),.int .i64 (thg t rse),.int .i64 wn,.int .i64 0]=W:=⟨_,rfl⟩
     have hd24 : u24.heap[db]?=some (.cells #[.int .i64 (ofN t 5 rvb),.int .i64 rph,.int .i64 (thg t rno),.int .i64 (thg t rse),.int .i64 wn,.int .i64 0] 91 (0,0)):=by rw [← hw];exact putRow_mid [] [.int .i64 0,.int .i64 0,.int .i64 0,.int .i64 0,.int .i64 0,.int .i64 0] [] [.int .i64 (ofN t 5 rvb),.int .i64 rph,.int .i64 (thg t rno),.int .i64 (thg t rse),.int .i64 wn,.int .i64 0] rfl HD23.out
     have hne : pb ≠ db:=fun c=>by have h1:=HD23.out;rw [← c,HQ23.out] at h1;injection h1 with h1;injection h1 with h1 h2;cases h2
     have hq24 : u24.heap[pb]?=some (.cells #[.string (str rvb),.int .i64 rph,.string (str rno),.string (str rse),.slice wA wl.length cw,.slice bA bl.length bc] 52 (0,0)):=by rw [← hw,putRow_other _ _ _ _ _ hne];exact HQ23.out
     have HK24_:=hI (show Bk deE DeR 6 91 F (fun b=>b=rb∨b=db) w0 (.slice A1 n1 c1) (.slice A2 n2 c2) (yB za zb zc zd (.slice A2 n2 c2) zf sp.v sg.v sh.v sa.v (.slice none 0 0) (.slice none 0 0)) 10 (.slice Ao j co) L rk vp9 vl9 vr9 m9 u24 by rw [← hw];exact bk_put stays_de HF.out (.inr rfl) HNY.out HDW.out.1 _ _ HK23_.out)
     have HO24:=hI (show ∀ b,b < w.heap.size→b < wr.heap.size→u24.heap[b]?=wr.heap[b]? from fun b h1 h2=>by rw [← hw,putRow_other _ _ _ _ _ (fun c=>by have:=HDW.out.1;have:=HWW.out;omega)];exact HO23.out b h1 h2)
     have HZ24:=hI (show wr.heap.size≤u24.heap.size by rw [← hw,putRow_size];exact HZ23.out)
     have HE:=hI (And.intro hd24 hq24)
     refine RgD.storeS (i:=20) (w1:=u24) rfl rfl (by rfl) (by first | (go_simp;done) | (go_simp;exact hw) | (go_simp;rw [hw])) hq24 ?_
     clear f0 f1 f2 f3 f4 f5 ff hw hd24 hq24 hne
     refine RgD.done (by kernel_rfl) ?_ _
     clear hS0
     go_wp2_with fail
     go_meet
     exact ⟨db,vp9,vl9,vr9,m9,rfl,HK24_.out,HE.out.1,HE.out.2,HNY.out,HY23.out,HDW.out.1,HDW.out.2,HO24.out,HZ24.out⟩
   case rest=>
    obtain ⟨db,vp1,vl1,vr1,m1,rfl,hk,hd,hq,hnd,hnp,hdw,hown,hoth,hsz⟩:=hcut
    obtain ⟨wa,hwa⟩ : ∃ W,W=wc:=⟨_,rfl⟩
    rw [← hwa] at hk hd hq hoth hsz ⊢
    have HKA:=hI hk
    have HDA:=hI hd
    have HNA:=hI (And.intro hnd (And.intro hdw hown))
    have HLA:=hI (show Ls (fun b=>¬ Dm w0 vp1 vl1 vr1 b) wa bA bc bl from upto_dm stays_s hk.mb HWW.out (Lg.keep stays_s ⟨hsz,fun b hb hl=>⟨hb,hoth b hb hl⟩⟩ (HRD.out wr (Below.refl _ _)).2))
    have HRK:=hI (show rk.le 2097151 by have h:=whnI_le (t:=t) (tx:=tx) (wh:=exPs wl) HRL.out;rw [HWN.out] at h;exact h)
    have HMA:=hI (show m1.le 2097152 from ms_le (mp_mono (hk.p ▸ HRK.out) (by omega)))
    obtain ⟨z0,z1,z2,z3,z4,z5,zf⟩:=pcz6 hq
    clear hk hd hq hnd hnp hdw hown hoth hsz hwa
    go_wp2_with fail
    refine (routine_w _ w0 A1 A2 n1 c1 n2 c2 t tx HC.out.bs _ wa vp1 vl1 vr1 m1 HKA.out.mb HMA.out [] none 0 (Lg.nil _) bl bA bc HLA.out HBL.out.1 (by simp)).mono ?_
    intro e w9 hr9
    obtain ⟨vp9,vl9,vr9,m9,rfl,hp9,hM9,hF9⟩:=rt_mk (t:=t) (tx:=tx) (pa:=[]) (l:=stPs bl) (m:=m1) hr9
    rw [HKA.out.p] at hp9
    have HK9:=hI (Bk.step stays_de HF.out HKA.out hM9 hp9 hF9)
    have hrs : (m1.rs.length : Int)=(rk.rs.length : Int):=by rw [← HKA.out.p];unfold Ms.p;simp
    rw [hrs]
    have hd9:=(hF9.block db (Array.getElem?_eq_some_iff.1 HDA.out).1 HNA.out.1).trans HDA.out
    have hnd9 : ¬ Dm w0 vp9 vl9 vr9 db:=fun c=>by
     rcases hF9.own db c with c | c
     ·exact HNA.out.1 c
     ·have:=(Array.getElem?_eq_some_iff.1 HDA.out).1;omega
    have HKS:=hI (Bk.set stays_de HF.out HK9.out (g:=db) (.inr rfl) hnd9 HNA.out.2.1 5 (.int .i64 (rk.rs.length : Int)))
    obtain ⟨f0,f1,f2,f3,f4,f5,ff⟩:=pcz6 hd9
    obtain ⟨ws,hws⟩ : ∃ W,w9.setCell ⟨db,5,none⟩ (.int .i64 (rk.rs.length : Int))=W:=⟨_,rfl⟩
    have hds : ws.heap[db]?=some (.cells #[.int .i64 (ofN t 5 rvb),.int .i64 rph,.int .i64 (thg t rno),.int .i64 (thg t rse),.int .i64 wn,.int .i64 (rk.rs.length : Int)] 91 (0,0)):=by rw [← hws];simp [World.setCell,Array.getElem?_modify,hd9]
    rw [hws] at HKS
    have HDS:=hI hds
    have HNE:=hI HNA.out.2.2
    clear hr9 hp9 hM9 hF9 hrs hd9 hnd9 z0 z1 z2 z3 z4 z5 zf hds
    go_upto_region 30 with fail
    clear f0 f1 f2 f3 f4 f5 ff hws
    have hS0 : ws.drew.cell? ⟨w0.heap.size,12,none⟩=some (.slice Ao j co)∧ws.drew.heap[db]?=some (.cells #[.int .i64 (ofN t 5 rvb),.int .i64 rph,.int .i64 (thg t rno),.int .i64 (thg t rse),.int .i64 wn,.int .i64 (rk.rs.length : Int)] 91 (0,0)):=⟨(HKS.out.cell (by omega)).1,HDS.out⟩
    refine RgD.begin_ [8,9,10] (fun U=>U.cell? ⟨w0.heap.size,12,none⟩=some (.slice Ao j co)∧U.heap[db]?=some (.cells #[.int .i64 (ofN t 5 rvb),.int .i64 rph,.int .i64 (thg t rno),.int .i64 (thg t rse),.int .i64 wn,.int .i64 (rk.rs.length : Int)] 91 (0,0))) (by kernel_rfl) hS0 (fun hHeld=>?_)
    refine tK 0 198 (h:=?_)
    simp only [zA,zB,zC]
    refine tK 1 199 (h:=?_)
    simp only [zA,zB,zC]
    refine tK 2 200 (h:=?_)
    simp only [zA,zB,zC]
    refine tK 3 201 (h:=?_)
    simp only [zA,zB,zC]
    refine tK 4 202 (v:=.slice Ao j co) (hy:=by intro w0 hSw;have z0:=hSw.1;first | (go_simp;done) | (go_simp;with_reducible rfl) | (go_simp;intro hc;exfalso;omega)) (h:=?_)
    simp only [zA,zB,zC]
    refine tK 5 203 (v:=.agg #[.int .i64 (ofN t 5 rvb),.int .i64 rph,.int .i64 (thg t rno),.int .i64 (thg t rse),.int .i64 wn,.int .i64 (rk.rs.length : Int)]) (hy:=by intro w0 hSw;obtain ⟨z0,z1,z2,z3,z4,z5,zf⟩:=pcz6 hSw.2;first | (go_simp;done) | (go_simp;with_reducible rfl) | (go_simp;intro hc;exfalso;omega)) (h:=?_)
    simp only [zA,zB,zC]
    refine RgD.one (i:=6) (by kernel_rfl) ?_
    obtain ⟨w10,hw⟩ : ∃ W,ws.drew.alloc (.cells #[.int .i64 (ofN t 5 rvb),.int .i64 rph,.int .i64 (thg t rno),.int .i64 (thg t rse),.int .i64 wn,.int .i64 (rk.rs.length : Int)] 91)=W:=⟨_,rfl⟩
    have hb:=(made hw).2.2
    have HK10:=hI (Bk.below stays_de HF.out (Bk.below stays_de HF.out HKS.out (Below.drew (Below.refl _ _))) hb)
    have hz : Sk.Rd deE w10 (some ⟨ws.heap.size,0,none⟩) 1 [(⟨ofN t 5 rvb,rph,thg t rno,thg t rse,wn,(rk.rs.length : Int)⟩ : De)]:=by rw [← hw];exact Sk.rd_lit (enc:=deE) _ 91 [(⟨ofN t 5 rvb,rph,thg t rno,thg t rse,wn,(rk.rs.length : Int)⟩ : De)] _ rfl 1 rfl
    have q010:=(hb.block _ (Array.getElem?_eq_some_iff.1 hS0.2).1).trans hS0.2
    have gS10 : (fun U=>U.cell? ⟨w0.heap.size,12,none⟩=some (.slice Ao j co)∧U.heap[db]?=some (.cells #[.int .i64 (ofN t 5 rvb),.int .i64 rph,.int .i64 (thg t rno),.int .i64 (thg t rse),.int .i64 wn,.int .i64 (rk.rs.length : Int)] 91 (0,0))) w10:=⟨(HK10.out.cell (by omega)).1,q010⟩
    refine RgD.eff (i:=6) (t:=204) (v:=.slice (some ⟨ws.heap.size,0,none⟩) 1 1) (w1:=w10) rfl rfl (by rfl) (by first | (go_simp;done) | (go_simp;with_reducible rfl) | (go_simp;rw [hw];rfl) | (go_simp;exact ⟨rfl,hw⟩) | (go_simp;exact hw)) gS10 ?_
    simp only [zA,zB,zC]
    clear hb hw
    refine RgD.one (i:=7) (by kernel_rfl) ?_
    refine RgD.app elD (i:=7) (t:=205) (.tmp 202) (.tmp 204) rfl rfl (by rfl) rfl rfl HK10.out.ow.own (some ⟨ws.heap.size,0,none⟩) 1 1 [(⟨ofN t 5 rvb,rph,thg t rno,thg t rse,wn,(rk.rs.length : Int)⟩ : De)] rfl hz (by have h1:=HLL.out;unfold maxLen;omega) (by have h1:=HLL.out;omega) (Nat.le_of_lt HK10.out.mb.lt) ?_
    intro v11 w11 ho hb hg hv
    have HK11:=hI (Bk.app stays_de HF.out (by omega) HK10.out ho hg hv (fun _ _=>trivial))
    have hc11 : w11.cell? ⟨w0.heap.size,12,none⟩=w10.cell? ⟨w0.heap.size,12,none⟩:=World.cell?_of_block (hg.block w0.heap.size HK10.out.mb.lt (fun c=>(HK10.out.ow.row _ c.symm).1 (.inl rfl)))
    have d11:=hc11.trans gS10.1
    have q011:=(hg.block _ (Array.getElem?_eq_some_iff.1 q010).1 (fun c=>HNE.out c.symm)).trans q010
    have gS11 : (fun U=>U.cell? ⟨w0.heap.size,12,none⟩=some (.slice Ao j co)∧U.heap[db]?=some (.cells #[.int .i64 (ofN t 5 rvb),.int .i64 rph,.int .i64 (thg t rno),.int .i64 (thg t rse),.int .i64 wn,.int .i64 (rk.rs.length : Int)] 91 (0,0))) w11:=⟨d11,q011⟩
    have ff11:=frz (hg.block w0.heap.size HK10.out.mb.lt (fun c=>(HK10.out.ow.row _ c.symm).1 (.inl rfl))) (HK10.out.cell (by omega)).2
    refine ⟨gS11,?_⟩
    simp only [zA,zB,zC]
    obtain ⟨A11,c11,rfl,_,_⟩:=ho.shape
    have hlen : (L ++ [(⟨ofN t 5 rvb,rph,thg t rno,thg t rse,wn,(rk.rs.length : Int)⟩ : De)]).length=j + 1:=by rw [List.length_append,HLL.out];rfl
    rw [hlen] at HK11 ⊢
    clear hlen ho hb hg hv hz hc11
    refine RgD.tk0 8 206 (h:=?_)
    simp only [zA,zB,zC]
    refine RgD.tk0 9 207 (h:=?_)
    simp only [zA,zB,zC]
    refine RgD.one (i:=10) (by kernel_rfl) ?_
    obtain ⟨w12,hw⟩ : ∃ W,w11.setCell ⟨w0.heap.size,12,none⟩ (.slice A11 (j + 1) c11)=W:=⟨_,rfl⟩
    rw [hw] at HK11
    refine RgD.store (i:=10) (w1:=w12) rfl rfl (by rfl) (by kernel_rfl) (by first | (go_simp;done) | (go_simp;exact hw) | (go_simp;rw [hw])) ?_
    refine RgD.done (by kernel_rfl) ?_ _
    clear hS0 hw d11 ff11 gS10 gS11 q010 q011
    have HKE:=hI (Bk.newZ stays_de HF.out (Z':=fun b=>b=rb) HK11.out (Below.refl _ _) (fun b c=>.inl (.inl c)) (fun b c=>HK11.out.mb.xl b (.inl (.inl c))))
    go_wp2_with fail
    go_roundw
    case rel=>exact ⟨j + 1,A11,c11,_,_,_,_,by omega,by go_num,by rw [HTK.out];unfold dewI;simp only [HWN.out];exact HKE.out⟩
    case measure=>simp [intOf];omega
  ·obtain rfl : ru.length=j:=by omega
   rw [List.take_length] at hbk
   obtain ⟨Avd,cd,F2,Y2,hv2,hY2,hF2,hG2,hk⟩:=Bk.next inE RtI 1 3 stays_de HF.out hbk (i':=11) (by omega) rfl
   rw [yB_10] at hY2
   subst hY2
   have hle:=desI_le (t:=t) (tx:=tx) ru (r0,[]) _ HN1.out.1
   have hG:=HG.out
   have HLAST:=hI (And.intro hle (And.intro hG (And.intro hF2 (And.intro hG2 hk))))
   clear hle hG hF2 hG2 hk hbk hv2
   go_wp2_with fail
   obtain ⟨hle,hG,hF2,hG2,hk⟩:=HLAST.out
   refine HKK.out _ _ ?_
   exact tail10 w w0 ⟨ti,by_,st,re,mx,⟨fA,fc,fl⟩,⟨pA,pc,pr⟩,⟨gA,gc,gl⟩,⟨oA,oc,ob⟩,⟨vA,vc,vb⟩,⟨rA,rc,ru⟩,⟨nA,nc,fn⟩,⟨dA,dc,dm⟩⟩ t tx A1 n1 c1 A2 n2 c2 sb rb HC F2 (hI hF2) za zb zc zd zf sp sg sh sa ⟨Avd,cd,(desI t tx (r0,[]) ru).2⟩ (hI fun K U h=>⟨(hG K U (hG2 K U h).1).1,(hG K U (hG2 K U h).1).2.1,(hG K U (hG2 K U h).1).2.2.1,(hG K U (hG2 K U h).1).2.2.2,(hG2 K U h).2⟩) _ (n0 + 2 * ru.length) (hI ⟨hle,by have:=HN1.out.2;omega⟩) vp vl vr m wr (hI hk) BP HBP _ _ _ _ _ _ _ _ _ _ _ _ _ _ _ _ _ _ _ _ _ _ _ _ _ _ _ _ _ _ _ _ _ _ _ _ _ _ _ _ _ _ _ _ _ _ _ _ _ _ _ _ _ _ _ _ _ _ _ _ _ _ _ _ _ _ _ _ _ _ _ _ _ _ _ _ _ _ _ _ _ _ _ _ _ _ _ _ _ _ _ _ _ _ _ _ _ _ _ _ _ _ _ _ _ _ _ _ _ _ _ _ _ _ _ _ _ _ _ _ _ _ _ _ _ _ _ _ _ _ _ _ _ _ _ _ _ _ _ _ _ _ _ _ _ _ _ _ _ _ _ _ _ _ _ _ _ _ _ _ _ _ _ _ _ _ _ _ _ _ _ _ _ _ _ _ _ _ _ _ _ _ _ _ _ _ _ _ _ _ _ _ _ _ _ _ _ _ _ _ _ _ _ _ _ _ _ _ _ _ _ _ _ _ _ _ _ _ _ _ _ _ _ _ _ _ _ _ _ _ _ _ _ _ _ _ _ _ _ _ _ _ _ _ _ _ _ _ _ _ _ _
end Go.Proofs.YteibcfpepdbflaaGreat.BkL
