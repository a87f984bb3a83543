/- A book, plain and as cells; the maker while one of its rows grows. No walk here. -/
import Derived.Test.YteibcfpepdbflaaGreatBkG
namespace Go.Proofs.YteibcfpepdbflaaGreat.BkI
open Go Go.RowKit BindP BindD BindO BindW BindN BindG BindX BindB BindS BindK BindT BindA BkA BkB BkC BkD BkE BkF BkG TxA
open Byt (str)
structure Ac where
 me : Bool
 li : Sv Ln
def acE (x : Ac) : List Value:=[.bool x.me,x.li.v]
theorem acE_len (x : Ac) : (acE x).length=2:=rfl
def AcR (K : Nat→Prop) (w : World) (x : Ac) : Prop:=Lg Ln.e Ln.R K w x.li.a x.li.c x.li.l
theorem stays_ac : Stays AcR:=fun _ _ _ _ _ h r=>Lg.keep Ln.stays h r
structure De where
 vb : Int
 ph : Int
 no : Int
 se : Int
 wh : Int
 bo : Int
def deE (x : De) : List Value:=[.int .i64 x.vb,.int .i64 x.ph,.int .i64 x.no,.int .i64 x.se,.int .i64 x.wh,.int .i64 x.bo]
theorem deE_len (x : De) : (deE x).length=6:=rfl
def DeR : (Nat→Prop)→World→De→Prop:=fun _ _ _=>True
theorem stays_de : Stays DeR:=fun _ _ _ _ _ _ _=>trivial
theorem elA : Sk.El Tryz.prog 36 87 acE (.agg #[.bool false,.slice none 0 0]) 2 32 where
 und:=Tryz.underlying36
 info:=by kernel_rfl
 len:=acE_len
 one:=fun x u hu=>by cases x;simp [acE,Sv.v] at hu;rcases hu with rfl | rfl <;> rfl
 zs:=rfl
 pos:=by omega
theorem elD : Sk.El Tryz.prog 37 91 deE (.agg #[.int .i64 0,.int .i64 0,.int .i64 0,.int .i64 0,.int .i64 0,.int .i64 0]) 6 48 where
 und:=Tryz.underlying37
 info:=by kernel_rfl
 len:=deE_len
 one:=fun x u hu=>by cases x;simp [deE] at hu;rcases hu with rfl | rfl | rfl | rfl | rfl | rfl <;> rfl
 zs:=rfl
 pos:=by omega
structure Bo where
 ti : Int
 by_ : Int
 re : Int
 mx : Int
 tx : Sv S
 fl : Int
 pr : Sv Int
 gl : Sv Int
 th : Sv Th
 ac : Sv Ac
 de : Sv De
 fu : Sv Int
 da : Sv Int
 pa : Sv Int
 lo : Sv Int
 rs : Sv (Sv St)
def Bo.e (b : Bo) : List Value:=[.int .i64 b.ti,.int .i64 b.by_,.int .i64 b.re,.int .i64 b.mx,b.tx.v,.int .i64 b.fl,b.pr.v,b.gl.v,b.th.v,b.ac.v,b.de.v,b.fu.v,b.da.v,b.pa.v,b.lo.v,b.rs.v]
def Bo.R (w : World) (b : Bo) : Prop:=Sq.Rd sv w b.tx.a b.tx.l.length b.tx.l∧Lg inE RtI top w b.pr.a b.pr.c b.pr.l∧Lg inE RtI top w b.gl.a b.gl.c b.gl.l∧Lg thE ThR top w b.th.a b.th.c b.th.l∧Lg acE AcR top w b.ac.a b.ac.c b.ac.l∧Lg deE DeR top w b.de.a b.de.c b.de.l ∧
 Lg inE RtI top w b.fu.a b.fu.c b.fu.l∧Lg inE RtI top w b.da.a b.da.c b.da.l∧Lg inE RtI top w b.pa.a b.pa.c b.pa.l∧Lg inE RtI top w b.lo.a b.lo.c b.lo.l∧Lg hdE HdR top w b.rs.a b.rs.c b.rs.l
theorem Bo.below {w w' : World} {b : Bo} (h : Below w.heap.size w w') (r : Bo.R w b) : Bo.R w' b:=⟨r.1.below h,Lg.below stays_i h r.2.1,Lg.below stays_i h r.2.2.1,Lg.below stays_th h r.2.2.2.1,Lg.below stays_ac h r.2.2.2.2.1,Lg.below stays_de h r.2.2.2.2.2.1,Lg.below stays_i h r.2.2.2.2.2.2.1,Lg.below stays_i h r.2.2.2.2.2.2.2.1,Lg.below stays_i h r.2.2.2.2.2.2.2.2.1,Lg.below stays_i h r.2.2.2.2.2.2.2.2.2.1,Lg.below stays_h h r.2.2.2.2.2.2.2.2.2.2⟩
def lnP (x : Sv Ln) : List (List (Int × List S)):=x.l.map fun l=>l.l.map fun s=>(s.ki,s.ws.l)
structure Bp where
 ti : Int
 by_ : Int
 re : Int
 mx : Int
 tx : List S
 fl : Int
 pr : List Int
 gl : List Int
 th : List Tp
 ac : List (Bool × List (List (Int × List S)))
 de : List De
 fu : List Int
 da : List Int
 m : Mp
def Bo.p (b : Bo) : Bp:=⟨b.ti,b.by_,b.re,b.mx,b.tx.l,b.fl,b.pr.l,b.gl.l,b.th.l.map Th.p,b.ac.l.map fun a=>(a.me,lnP a.li),b.de.l,b.fu.l,b.da.l,⟨b.pa.l,b.lo.l,b.rs.l.map fun s=>stPs s.l⟩⟩
def obwI (t : List Nm) (tx : List S) (pl : List Int) (r : Mp × List Tp) (o : Ob) : Mp × List Tp:=((objI t tx pl r.1 o).1,r.2 ++ [(objI t tx pl r.1 o).2])
def obsI (t : List Nm) (tx : List S) (pl : List Int) (r : Mp × List Tp) (l : List Ob) : Mp × List Tp:=l.foldl (obwI t tx pl) r
def dewI (t : List Nm) (tx : List S) (r : Mp × List De) (x : Rl) : Mp × List De:=
 (rtnI t tx (whnI t tx r.1 (exPs x.wh.l)).1 [] (stPs x.body.l),r.2 ++ [⟨ofN t 5 x.vb,x.ph,thg t x.no,thg t x.se,(whnI t tx r.1 (exPs x.wh.l)).2,((whnI t tx r.1 (exPs x.wh.l)).1.rs.length : Int)⟩])
def desI (t : List Nm) (tx : List S) (r : Mp × List De) (l : List Rl) : Mp × List De:=l.foldl (dewI t tx) r
def fnwI (t : List Nm) (tx : List S) (r : Mp × List Int) (x : BindO.Fn) : Mp × List Int:=(rtnI t tx r.1 x.ps.l (stPs x.body.l),r.2 ++ [(r.1.rs.length : Int)])
def fnsI (t : List Nm) (tx : List S) (r : Mp × List Int) (l : List BindO.Fn) : Mp × List Int:=l.foldl (fnwI t tx) r
def dmwI (t : List Nm) (tx : List S) (r : Mp × List Int) (x : BindO.Fn) : Mp × List Int:=(rtnI t tx r.1 [] (stPs x.body.l),r.2 ++ [(r.1.rs.length : Int)])
def dmsI (t : List Nm) (tx : List S) (r : Mp × List Int) (l : List BindO.Fn) : Mp × List Int:=l.foldl (dmwI t tx) r
def me : S:=[109,101]
def myself : S:=[109,121,115,101,108,102]
def m0 : Mp:=⟨[],[],[]⟩
def th2 (t : List Nm) (tx : List S) (pl : List Int) (st : S) : List Tp:=[⟨0,-1,0,0,false,List.replicate pl.length 0,[],[],[]⟩,⟨place tx you,-1,thg t st,0,false,pl,[me,myself],[],[]⟩]
def prl (s : So) : List Int:=s.pr.l.map Pr.num
def bookI (t : List Nm) (tx : List S) (s : So) : Bp:=
 let ob:=obsI t tx (prl s) (m0,th2 t tx (prl s) s.st) s.ob.l
 let de:=desI t tx (ob.1,[]) s.ru.l
 let fu:=fnsI t tx (de.1,[]) s.fn.l
 let da:=dmsI t tx (fu.1,[]) s.dm.l
 ⟨place tx s.ti,place tx s.by_,s.re,s.mx,tx,4 + s.fl.l.length,prl s,s.gl.l.map Pr.num,ob.2,s.vb.l.map fun v=>(v.me,lnP v.li),de.2,fu.2,da.2,da.1⟩
theorem foldl_take {α β : Type} (f : β→α→β) (r : β) {l : List α} {j : Nat} (h : j < l.length) : (l.take (j + 1)).foldl f r=f ((l.take j).foldl f r) l[j]:=by
 rw [List.take_succ_eq_append_getElem h,List.foldl_append]
 rfl
theorem objI_le {t : List Nm} {tx : List S} {pl : List Int} {m : Mp} {o : Ob} {n : Nat} (h : m.le n) : (objI t tx pl m o).1.le (n + o.xt.l.length):=wysI_le _ h
theorem mp_mono {m : Mp} {a b : Nat} (h : m.le a) (hab : a≤b) : m.le b:=⟨Nat.le_trans h.1 hab,Nat.le_trans h.2.1 hab,Nat.le_trans h.2.2 hab⟩
theorem obsI_le {t : List Nm} {tx : List S} {pl : List Int} : ∀ (l : List Ob) (r : Mp × List Tp) (n : Nat),r.1.le n→(obsI t tx pl r l).1.le (n + (l.map Ob.m).sum)
 | [],r,n,h=>h
 | o :: l,r,n,h=>by
  have h1:=obsI_le (t:=t) (tx:=tx) (pl:=pl) l (obwI t tx pl r o) (n + o.xt.l.length) (objI_le (t:=t) (tx:=tx) (pl:=pl) (o:=o) h)
  have h2:=sum_len (m:=Xt.m) (fun _=>by unfold Xt.m;omega) o.xt.l
  have h3 : (o.xt.l.map Xt.m).sum≤Ob.m o:=by unfold Ob.m;omega
  refine mp_mono h1 ?_
  rw [List.map_cons,List.sum_cons]
  omega
theorem desI_le {t : List Nm} {tx : List S} : ∀ (l : List Rl) (r : Mp × List De) (n : Nat),r.1.le n→(desI t tx r l).1.le (n + 2 * l.length)
 | [],r,n,h=>h
 | o :: l,r,n,h=>by
  have h1:=desI_le (t:=t) (tx:=tx) l (dewI t tx r o) (n + 1 + 1) (rtnI_le (whnI_le h))
  refine mp_mono h1 ?_
  rw [List.length_cons]
  omega
theorem fnsI_le {t : List Nm} {tx : List S} : ∀ (l : List BindO.Fn) (r : Mp × List Int) (n : Nat),r.1.le n→(fnsI t tx r l).1.le (n + l.length)
 | [],r,n,h=>h
 | o :: l,r,n,h=>by
  have h1:=fnsI_le (t:=t) (tx:=tx) l (fnwI t tx r o) (n + 1) (rtnI_le h)
  refine mp_mono h1 ?_
  rw [List.length_cons]
  omega
theorem dmsI_le {t : List Nm} {tx : List S} : ∀ (l : List BindO.Fn) (r : Mp × List Int) (n : Nat),r.1.le n→(dmsI t tx r l).1.le (n + l.length)
 | [],r,n,h=>h
 | o :: l,r,n,h=>by
  have h1:=dmsI_le (t:=t) (tx:=tx) l (dmwI t tx r o) (n + 1) (rtnI_le h)
  refine mp_mono h1 ?_
  rw [List.length_cons]
  omega
def upd (y : Nat→Value) (i : Nat) (v : Value) : Nat→Value:=fun j=>if j=i then v else y j
theorem upd_upd {y : Nat→Value} {i : Nat} {v v' : Value} : upd (upd y i v) i v'=upd y i v':=by
 funext j
 unfold upd
 split <;> rfl
theorem upd_old {y : Nat→Value} {i : Nat} {v : Value} (h : y i=v) : upd y i v=y:=by
 funext j
 unfold upd
 split
 ·rename_i e;rw [e,h]
 ·rfl
section
variable {X : Nat→Prop} {w0 : World} {tv xv : Value} {y : Nat→Value} {w w' : World} {vp vl vr : Value} {m : Ms}
theorem Mb.setY (h : Mb X w0 tv xv y w vp vl vr m) (i : Nat) (hi : i < 13) (v : Value) : Mb X w0 tv xv (upd y i v) (w.setCell ⟨w0.heap.size,i + 2,none⟩ v) vp vl vr m:=by
 have ho : ∀ b,b ≠ w0.heap.size→(w.setCell ⟨w0.heap.size,i + 2,none⟩ v).heap[b]?=w.heap[b]?:=fun b hb=>by simp [World.setCell,Array.getElem?_modify,Ne.symm hb]
 have hz : (w.setCell ⟨w0.heap.size,i + 2,none⟩ v).heap.size=w.heap.size:=by simp [World.setCell]
 refine ⟨?_,sk_keep h.op fun g e=>ho g fun c=>h.pW (c ▸ e),sk_keep h.ol fun g e=>ho g fun c=>h.lW (c ▸ e),sk_keep h.or fun g e=>ho g fun c=>h.rW (c ▸ e),fun s hs=>stays_h _ _ _ _ _ ⟨by rw [hz];exact Nat.le_refl _,fun b hb _=>⟨hb,ho b fun c=>hb.1 (.inl c)⟩⟩ (h.sub s hs),fun b hb=>by rw [hz];exact h.xl b hb,h.pW,h.lW,h.rW,h.pl,h.pr,h.lr,h.low.setCell (p:=⟨w0.heap.size,i + 2,none⟩) (Nat.le_refl _) _,by rw [hz];exact h.lt⟩
 have hb:=h.box
 obtain rfl | rfl | rfl | rfl | rfl | rfl | rfl | rfl | rfl | rfl | rfl | rfl | rfl : i=0∨i=1∨i=2∨i=3∨i=4∨i=5∨i=6∨i=7∨i=8∨i=9∨i=10∨i=11∨i=12:=by omega
 all_goals simp [World.setCell,Array.getElem?_modify,hb,upd]
end
structure Bk {α : Type} (enc : α→List Value) (R : (Nat→Prop)→World→α→Prop) (k : Nat) (E : TypeId) (Fin : (Nat→Prop)→World→Prop) (Z : Nat→Prop) (w0 : World) (tv xv : Value) (y : Nat→Value) (i : Nat) (v : Value) (l : List α) (r : Mp) (vp vl vr : Value) (m : Ms) (w : World) : Prop where
 mb : Mb (fun b=>Z b∨v.ownBlock=some b) w0 tv xv (upd y i v) w vp vl vr m
 p : m.p=r
 ow : Ow enc R k E (fun b=>¬ Dm w0 vp vl vr b∧¬ Z b) w w0.heap.size v l
 fin : Fin (fun b=>¬ Dm w0 vp vl vr b∧¬ (Z b∨v.ownBlock=some b)) w
def Firm (Fin : (Nat→Prop)→World→Prop) : Prop:=∀ (K K' : Nat→Prop) (w w' : World),Keep K K' w w'→Fin K w→Fin K' w'
section
variable {α : Type} {enc : α→List Value} {R : (Nat→Prop)→World→α→Prop} {k : Nat} {E : TypeId} {Fin : (Nat→Prop)→World→Prop} {Z : Nat→Prop} {w0 : World} {tv xv : Value} {y : Nat→Value} {i : Nat} {v : Value} {l : List α} {r : Mp} {vp vl vr : Value} {m : Ms} {w w' : World}
theorem Bk.below (hR : Stays R) (hF : Firm Fin) (h : Bk enc R k E Fin Z w0 tv xv y i v l r vp vl vr m w) (hb : Below w.heap.size w w') : Bk enc R k E Fin Z w0 tv xv y i v l r vp vl vr m w':=
 ⟨h.mb.below hb,h.p,h.ow.below hR hb,hF _ _ _ _ (Keep.below hb) h.fin⟩
theorem Bk.step (hR : Stays R) (hF : Firm Fin) (h : Bk enc R k E Fin Z w0 tv xv y i v l r vp vl vr m w) {vp' vl' vr' : Value} {m' : Ms} {r' : Mp} (hM : Mb (fun b=>Z b∨v.ownBlock=some b) w0 tv xv (upd y i v) w' vp' vl' vr' m') (hp : m'.p=r') (hf : Ft (Dm w0 vp vl vr) (Dm w0 vp' vl' vr') w w') :
  Bk enc R k E Fin Z w0 tv xv y i v l r' vp' vl' vr' m' w':=
 ⟨hM,hp,h.ow.keep hR (hf.keepx Z),hF _ _ _ _ (hf.keepx (fun b=>Z b∨v.ownBlock=some b)) h.fin⟩
theorem Bk.app (hR : Stays R) (hF : Firm Fin) (hi : i < 13) (h : Bk enc R k E Fin Z w0 tv xv y i v l r vp vl vr m w) {v' : Value} {l2 : List α} (ho : Sk.Own enc k E w' w0.heap.size v' (l ++ l2)) (hg : w.grownBy w' v.ownBlock) (hv : v'.ownBlock=v.ownBlock∨v'.ownBlock=some w.heap.size)
  (hx : ∀ x ∈ l2,R (fun b=>¬ Dm w0 vp vl vr b∧¬ (Z b∨v.ownBlock=some b)) w x) : Bk enc R k E Fin Z w0 tv xv y i v' (l ++ l2) r vp vl vr m (w'.setCell ⟨w0.heap.size,i + 2,none⟩ v'):=by
 have hrow : ∀ b,v.ownBlock=some b→¬ Dm w0 vp vl vr b∧¬ Z b:=fun b e=>h.ow.row b e
 have hlt:=h.mb.lt
 have hsz : ¬ Dm w0 vp vl vr w.heap.size∧¬ Z w.heap.size:=⟨fun c=>by have:=(h.mb.dm c).2;omega,fun c=>by have:=h.mb.xl _ (.inl c);omega⟩
 have ho' : Ow enc R k E (fun b=>¬ Dm w0 vp vl vr b∧¬ Z b) w' w0.heap.size v' (l ++ l2):=Ow.append hR h.ow ho hg hv hsz (fun x hx2=>hR _ _ _ _ _ (Keep.weak fun b hb _=>⟨⟨hb.1,fun c=>hb.2 (.inl c)⟩,fun c=>hb.2 (.inr c)⟩) (hx x hx2))
 have hM : Mb (fun b=>Z b∨v'.ownBlock=some b) w0 tv xv (upd y i v) w' vp vl vr m:=h.mb.newx hg (fun b e=>⟨.inr e,(hrow b e).1,(h.ow.lt e).1⟩) (fun b e=>by
  rcases e with e | e
  ·exact .inl (.inl e)
  ·rcases hv with c | c
   ·exact .inl (.inr (c ▸ e))
   ·rw [c] at e;injection e with e;exact .inr (by omega)) (fun b e=>by
  rcases e with e | e
  ·exact Nat.lt_of_lt_of_le (h.mb.xl b (.inl e)) hg.size
  ·exact (ho'.lt e).2)
 have hM2:=Mb.setY hM i hi v'
 rw [upd_upd] at hM2
 have hk : Keep (fun b=>¬ Dm w0 vp vl vr b) (fun b=>¬ Dm w0 vp vl vr b) w' (w'.setCell ⟨w0.heap.size,i + 2,none⟩ v'):=keep_set (i + 2) v' (fun c=>c (.inl rfl))
 refine ⟨hM2,h.p,ho'.keep hR ⟨hk.size,fun b hb hl=>⟨hb,(hk.blk b hb.1 hl).2⟩⟩,hF _ _ w' _ ⟨hk.size,fun b hb hl=>⟨hb,(hk.blk b hb.1 hl).2⟩⟩ (hF _ _ w _ ⟨hg.size,fun b hb hl=>⟨⟨hb.1,fun c=>?_⟩,hg.block b hl (fun c=>hb.2 (.inr c.symm))⟩⟩ h.fin)⟩
 rcases c with c | c
 ·exact hb.2 (.inl c)
 ·rcases hv with e | e
  ·rw [e] at c;exact hb.2 (.inr c)
  ·rw [e] at c;injection c with c;omega
theorem Bk.newZ (hR : Stays R) (hF : Firm Fin) (h : Bk enc R k E Fin Z w0 tv xv y i v l r vp vl vr m w) {Z' : Nat→Prop} (hb : Below w.heap.size w w') (hz : ∀ b,Z' b→Z b∨w.heap.size≤b) (hl : ∀ b,Z' b→b < w'.heap.size) : Bk enc R k E Fin Z' w0 tv xv y i v l r vp vl vr m w':=by
 have hlt:=h.mb.lt
 refine ⟨h.mb.newx (row:=none) ⟨hb.os,hb.tape,hb.output,hb.size,fun b hl _=>hb.block b hl⟩ (fun b e=>by cases e) (fun b e=>?_) (fun b e=>?_),h.p,h.ow.keep hR ⟨hb.size,fun b hk hl=>⟨⟨hk.1,fun c=>?_⟩,hb.block b hl⟩⟩,hF _ _ _ _ ⟨hb.size,fun b hk hl=>⟨⟨hk.1,fun c=>?_⟩,hb.block b hl⟩⟩ h.fin⟩
 ·rcases e with e | e
  ·rcases hz b e with c | c
   ·exact .inl (.inl c)
   ·exact .inr c
  ·exact .inl (.inr e)
 ·rcases e with e | e
  ·exact hl b e
  ·exact Nat.lt_of_lt_of_le (h.mb.xl b (.inr e)) hb.size
 ·rcases hz b c with c | c
  ·exact hk.2 c
  ·omega
 ·rcases c with c | c
  ·rcases hz b c with c | c
   ·exact hk.2 (.inl c)
   ·omega
  ·exact hk.2 (.inr c)
theorem Bk.set (hR : Stays R) (hF : Firm Fin) (h : Bk enc R k E Fin Z w0 tv xv y i v l r vp vl vr m w) {g : Nat} (hZ : Z g) (hD : ¬ Dm w0 vp vl vr g) (hW : w0.heap.size≤g) (o : Nat) (u : Value) : Bk enc R k E Fin Z w0 tv xv y i v l r vp vl vr m (w.setCell ⟨g,o,none⟩ u):=
 ⟨h.mb.setx o hD (.inl hZ) hW u,h.p,h.ow.keep hR (keep_set o u fun c=>c.2 hZ),hF _ _ _ _ (keep_set o u fun c=>c.2 (.inl hZ)) h.fin⟩
theorem Bk.cell (h : Bk enc R k E Fin Z w0 tv xv y i v l r vp vl vr m w) (hi : i < 13) : w.cell? ⟨w0.heap.size,i + 2,none⟩=some v∧∀ o,w.frozen? ⟨w0.heap.size,o,none⟩=false:=by
 have hb:=h.mb.box
 refine ⟨?_,fun o=>by simp [World.frozen?,hb]⟩
 obtain rfl | rfl | rfl | rfl | rfl | rfl | rfl | rfl | rfl | rfl | rfl | rfl | rfl : i=0∨i=1∨i=2∨i=3∨i=4∨i=5∨i=6∨i=7∨i=8∨i=9∨i=10∨i=11∨i=12:=by omega
 all_goals simp [World.cell?,hb,upd]
theorem Bk.next {β : Type} (enc' : β→List Value) (R' : (Nat→Prop)→World→β→Prop) (k' : Nat) (E' : TypeId) (hR : Stays R) (hF : Firm Fin) (h : Bk enc R k E Fin Z w0 tv xv y i v l r vp vl vr m w) {i' : Nat} (hne : i' ≠ i) (hy : y i'=.slice none 0 0) :
  ∃ A c Fin' y',v=.slice A l.length c∧y'=upd y i (.slice A l.length c)∧Firm Fin'∧(∀ K U,Fin' K U→Fin K U∧Lg enc R K U A c l)∧Bk enc' R' k' E' Fin' Z w0 tv xv y' i' (.slice none 0 0) [] r vp vl vr m w:=by
 obtain ⟨A,c,rfl,hl⟩:=h.ow.list hR
 refine ⟨A,c,fun K U=>Fin K U∧Lg enc R K U A c l,_,rfl,rfl,fun _ _ _ _ e x=>⟨hF _ _ _ _ e x.1,Lg.keep hR e x.2⟩,fun _ _ h=>h,?_,h.p,Ow.nil _ _,hF _ _ _ _ (Keep.weak fun b hb _=>⟨hb.1,fun e=>by
  rcases e with e | e
  ·exact hb.2 (.inl e)
  ·simp [Value.ownBlock] at e⟩) h.fin,hl.keep hR (Keep.weak fun b hb _=>⟨hb.1,fun e=>by
  rcases e with e | e
  ·exact hb.2 e
  ·simp [Value.ownBlock] at e⟩)⟩
 rw [upd_old (y:=upd y i (.slice A l.length c)) (by unfold upd;rw [if_neg hne];exact hy)]
 exact Mb.less h.mb (fun b e=>by
  rcases e with e | e
  ·exact .inl e
  ·simp [Value.ownBlock] at e)
end
end Go.Proofs.YteibcfpepdbflaaGreat.BkI
