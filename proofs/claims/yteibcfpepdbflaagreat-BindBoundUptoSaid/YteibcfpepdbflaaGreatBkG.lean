/- Things of a book, plain and as cells; flags and props of an object. No walk here. -/
import Derived.Test.YteibcfpepdbflaaGreatBkF
namespace Go.Proofs.YteibcfpepdbflaaGreat.BkG
open Go Go.RowKit BindP BindD BindO BindW BindN BindG BindX BindB BindS BindK BindT BindA BkA BkB BkC BkD BkE BkF
open Byt (str)
theorem setL_mid (a b c l : List Value) (h : l.length=b.length) : setL (a ++ b ++ c).toArray a.length l=(a ++ l ++ c).toArray:=by
 apply Array.ext_getElem?
 intro i
 rw [setL_get]
 simp only [List.size_toArray,List.length_append,List.getElem?_toArray]
 by_cases h1 : a.length≤i∧i < a.length + l.length∧i < a.length + b.length + c.length
 ·rw [if_pos h1,List.append_assoc,List.getElem?_append_right h1.1,List.getElem?_append_left (by omega)]
 ·rw [if_neg h1]
  by_cases h2 : i < a.length
  ·rw [List.append_assoc,List.append_assoc,List.getElem?_append_left h2,List.getElem?_append_left h2]
  ·rw [List.getElem?_append_right (by rw [List.length_append];omega),List.getElem?_append_right (by rw [List.length_append];omega),List.length_append,List.length_append,h]
theorem putRow_mid {w : World} {g : Nat} {t : TypeId} (a b c l : List Value) (hl : l.length=b.length) (h : w.heap[g]?=some (.cells (a ++ b ++ c).toArray t (0,0))) : (putRow w g a.length l).heap[g]?=some (.cells (a ++ l ++ c).toArray t (0,0)):=by
 rw [putRow_heap _ _ _ _ _ h,setL_mid _ _ _ _ hl]
structure Th where
 ti : Int
 tx : Int
 pa : Int
 fl : Int
 ro : Bool
 pr : Sv Int
 wo : Sv S
 ad : Sv S
 wy : Sv Wy
def thE (x : Th) : List Value:=[.int .i64 x.ti,.int .i64 x.tx,.int .i64 x.pa,.int .i64 x.fl,.bool x.ro,x.pr.v,x.wo.v,x.ad.v,x.wy.v]
theorem thE_len (x : Th) : (thE x).length=9:=rfl
def ThR (K : Nat→Prop) (w : World) (x : Th) : Prop:=Lg inE RtI K w x.pr.a x.pr.c x.pr.l∧Lg svE Rt K w x.wo.a x.wo.c x.wo.l∧Lg svE Rt K w x.ad.a x.ad.c x.ad.l∧Lg wyE RtW K w x.wy.a x.wy.c x.wy.l
theorem stays_th : Stays ThR:=fun _ _ _ _ _ h r=>⟨Lg.keep stays_i h r.1,Lg.keep stays_t h r.2.1,Lg.keep stays_t h r.2.2.1,Lg.keep stays_w h r.2.2.2⟩
theorem elTh : Sk.El Tryz.prog 35 80 thE (.agg #[.int .i64 0,.int .i64 0,.int .i64 0,.int .i64 0,.bool false,.slice none 0 0,.slice none 0 0,.slice none 0 0,.slice none 0 0]) 9 136 where
 und:=Tryz.underlying35
 info:=by kernel_rfl
 len:=thE_len
 one:=fun x u hu=>by cases x;simp [thE,Sv.v] at hu;rcases hu with rfl | rfl | rfl | rfl | rfl | rfl | rfl | rfl | rfl <;> rfl
 zs:=rfl
 pos:=by omega
structure Tp where
 ti : Int
 tx : Int
 pa : Int
 fl : Int
 ro : Bool
 pr : List Int
 wo : List S
 ad : List S
 wy : List Wy
def Th.p (x : Th) : Tp:=⟨x.ti,x.tx,x.pa,x.fl,x.ro,x.pr.l,x.wo.l,x.ad.l,x.wy.l⟩
def shl1 (n : Int) : Int:=IntKind.i64.wrap (1 * 2 ^ (min n.toNat 64))
def or64 (a b : Int) : Int:=bits BinOp.or IntKind.i64 a b
def flgI (t : List Nm) (z : Int) (fl : List S) : Int:=fl.foldl (fun z f=>or64 z (shl1 (ofN t 1 f))) z
theorem flgI_snoc (t : List Nm) (z : Int) (l : List S) (f : S) : flgI t z (l ++ [f])=or64 (flgI t z l) (shl1 (ofN t 1 f)):=by
 unfold flgI
 rw [List.foldl_append]
 rfl
def prpI (t : List Nm) (pl : List Int) (l : List Pr) : List Int:=l.foldl (fun z p=>z.set (ofN t 2 p.nm).toNat p.num) pl
theorem prpI_snoc (t : List Nm) (pl : List Int) (l : List Pr) (p : Pr) : prpI t pl (l ++ [p])=(prpI t pl l).set (ofN t 2 p.nm).toNat p.num:=by
 unfold prpI
 rw [List.foldl_append]
 rfl
theorem prpI_len (t : List Nm) : ∀ (l : List Pr) (pl : List Int),(prpI t pl l).length=pl.length
 | [],_=>rfl
 | a :: l,pl=>by
  have h:=prpI_len t l (pl.set (ofN t 2 a.nm).toNat a.num)
  rw [List.length_set] at h
  exact h
def objI (t : List Nm) (tx : List S) (pl : List Int) (m : Mp) (o : Ob) : Mp × Tp:=
 ((wysI t tx m o.xt.l).1,⟨place tx o.ti,txt tx o.tx,if o.inn=[] then 0 else ofN t 4 o.inn,flgI t 0 o.fl.l,o.room,prpI t pl o.pr.l,o.ws.l,o.adj.l,(wysI t tx m o.xt.l).2⟩)
structure Oj (w : World) (ob rb xb : Nat) (src : Array Value) (ti tx pa fl : Int) (ro : Bool) (vp : Value) (pl : List Int) (wv av yv : Value) (U : World) : Prop where
 src : U.heap[ob]?=some (.cells src 63 (0,0))
 res : U.heap[rb]?=some (.cells #[.int .i64 0,.int .i64 0,.int .i64 0,.int .i64 0,.bool false,.slice none 0 0,.slice none 0 0,.slice none 0 0,.slice none 0 0] 80 (0,0))
 x : U.heap[xb]?=some (.cells #[.int .i64 ti,.int .i64 tx,.int .i64 pa,.int .i64 fl,.bool ro,vp,wv,av,yv] 80 (0,0))
 own : Sk.Own inE 1 3 U w.heap.size vp pl
 low : Below w.heap.size w U
 lt : w.heap.size≤ob∧w.heap.size≤rb∧w.heap.size≤xb∧ob ≠ rb∧ob ≠ xb∧rb ≠ xb
 ne : vp.ownBlock ≠ some ob∧vp.ownBlock ≠ some rb∧vp.ownBlock ≠ some xb
section
variable {w : World} {ob rb xb : Nat} {src : Array Value} {ti tx pa fl : Int} {ro : Bool} {vp : Value} {pl : List Int} {wv av yv : Value} {U U' : World}
theorem Oj.below (h : Oj w ob rb xb src ti tx pa fl ro vp pl wv av yv U) (hb : Below U.heap.size U U') : Oj w ob rb xb src ti tx pa fl ro vp pl wv av yv U':=
 ⟨(hb.block _ (Array.getElem?_eq_some_iff.1 h.src).1).trans h.src,(hb.block _ (Array.getElem?_eq_some_iff.1 h.res).1).trans h.res,(hb.block _ (Array.getElem?_eq_some_iff.1 h.x).1).trans h.x,h.own.below hb,h.low.trans (hb.mono h.low.size),h.lt,h.ne⟩
theorem hset {W : World} {g o b : Nat} {v : Value} (h : b ≠ g) : (W.setCell ⟨g,o,none⟩ v).heap[b]?=W.heap[b]?:=by simp [World.setCell,Array.getElem?_modify,Ne.symm h]
theorem Oj.setPa (h : Oj w ob rb xb src ti tx pa fl ro vp pl wv av yv U) (z : Int) : Oj w ob rb xb src ti tx z fl ro vp pl wv av yv (U.setCell ⟨xb,2,none⟩ (.int .i64 z)):=
 ⟨(hset h.lt.2.2.2.2.1).trans h.src,(hset h.lt.2.2.2.2.2).trans h.res,by simp [World.setCell,Array.getElem?_modify,h.x],sk_keep h.own fun b e=>hset fun c=>h.ne.2.2 (c ▸ e),h.low.setCell (p:=⟨xb,2,none⟩) h.lt.2.2.1 _,h.lt,h.ne⟩
theorem Oj.setFl (h : Oj w ob rb xb src ti tx pa fl ro vp pl wv av yv U) (z : Int) : Oj w ob rb xb src ti tx pa z ro vp pl wv av yv (U.setCell ⟨xb,3,none⟩ (.int .i64 z)):=
 ⟨(hset h.lt.2.2.2.2.1).trans h.src,(hset h.lt.2.2.2.2.2).trans h.res,by simp [World.setCell,Array.getElem?_modify,h.x],sk_keep h.own fun b e=>hset fun c=>h.ne.2.2 (c ▸ e),h.low.setCell (p:=⟨xb,3,none⟩) h.lt.2.2.1 _,h.lt,h.ne⟩
theorem Oj.setPr {g n c i : Nat} (h : Oj w ob rb xb src ti tx pa fl ro (.slice (some ⟨g,0,none⟩) n c) pl wv av yv U) (hi : i < pl.length) (z : Int) : Oj w ob rb xb src ti tx pa fl ro (.slice (some ⟨g,0,none⟩) n c) (pl.set i z) wv av yv (U.setCell ⟨g,i,none⟩ (.int .i64 z)):=by
 have h1 : ob ≠ g:=fun e=>h.ne.1 (by rw [e];rfl)
 have h2 : rb ≠ g:=fun e=>h.ne.2.1 (by rw [e];rfl)
 have h3 : xb ≠ g:=fun e=>h.ne.2.2 (by rw [e];rfl)
 have ho:=own_set (enc:=inE) (fun _=>rfl) hi z h.own
 rw [Nat.mul_one] at ho
 exact ⟨(hset h1).trans h.src,(hset h2).trans h.res,(hset h3).trans h.x,ho,h.low.setCell (p:=⟨g,i,none⟩) (World.ownsRow.lt h.own g rfl).1 _,h.lt,h.ne⟩
end
end Go.Proofs.YteibcfpepdbflaaGreat.BkG
