/- clewref14.names, texts, pairs, when, funcs, rule: some truth value, without a panic; true: what they say. Conditions: sizes within the reach. -/
import Derived.Test.YteibcfpepdbflaaRtC
namespace Go.Proofs.Yteibcfpepdbflaa.RtD
open Go Go.RowKit BindP BindD BindO BindW BindG BindX BindB BindT RtS RtX RtY RtZ RtB RtC BindU
open Byt (str)
def NamesP (most : Int) (l : List S) : Prop:=(l.length : Int)≤most∧∀ s ∈ l,s ≠ []
theorem str_len {s : S} {n : Nat} (h : s.length≤n) : (str s).size≤n:=by show (s.toArray).size≤n;simp;exact h
theorem Lg.one {α : Type} {enc : α→List Value} {R : (Nat→Prop)→World→α→Prop} {K : Nat→Prop} {w : World} {A : Option Addr} {c : Nat} {l : List α} (hk : ∀ x,(enc x).length=1) (h : Lg enc R K w A c l) {i : Nat} (hi : i < l.length) :
  ∃ b o,A=some ⟨b,o,none⟩∧b < w.heap.size∧∀ u,(enc l[i])[0]?=some u→w.cell? ⟨b,o + i,none⟩=some u:=by
 obtain ⟨b,o,e,hb,hc⟩:=Lg.at_ hk h hi
 exact ⟨b,o,e,hb,fun u hu=>by have h:=hc 0 u hu;simpa using h⟩
set_option maxRecDepth 100000 in
set_option maxHeartbeats 2000000 in
theorem names_o (l : List S) (A : Option Addr) (c : Nat) (most : Int) (w : World) (hl : Lg svE Rt top w A c l) (hz : (l.map fun x=>x.length + 1).sum≤1048576) :
  Calls Try.prog 22 #[.slice A l.length c,.int .i64 most] w (SomeQ (NamesP most l) w):=by
 have hn : l.length≤1048576:=Nat.le_trans (sum_len (m:=fun x : S=>x.length + 1) (fun _=>by omega) l) hz
 obtain ⟨m,hm⟩ : ∃ m,l.length=m:=⟨_,rfl⟩
 have HM:=Lib.hid hm
 have HL:=Lib.hid hl
 have HZ:=Lib.hid hz
 rw [hm] at hn ⊢
 clear hm hl hz
 by_cases h1 : (m : Int)≤most
 ·have q : decide (most < (m : Int))=false:=decide_eq_false (by omega)
  have H1:=Lib.hid h1
  clear h1
  go_enter Try.func22,Try.ntmps22
  go_wp2_with fail
  go_loop [5] (fun iv=>∃ j : Nat,j≤m∧iv=.int .i64 (j : Int)∧Hid (∀ s ∈ l.take j,s ≠ [])) (fun iv=>m - (intOf iv).toNat)
  case atStart=>exact ⟨0,Nat.zero_le _,rfl,Lib.hid (by simp)⟩
  case round=>
   obtain ⟨j,hj,rfl,HT⟩:=hrel
   by_cases hlt : j < m
   ·have hjl : j < l.length:=by rw [HM.out];exact hlt
    obtain ⟨b,o,rfl,hb,hc⟩:=Lg.one (fun _=>rfl) HL.out hjl
    have hmem : l[j] ∈ l:=List.getElem_mem hjl
    obtain ⟨y,hy⟩ : ∃ y,l[j]=y:=⟨_,rfl⟩
    have HTK:=Lib.hid (show l.take (j + 1)=l.take j ++ [y] by rw [List.take_succ_eq_append_getElem hjl,hy])
    rw [hy] at hc hmem
    have hys : y.length≤1048576:=by
     have h1:=sum_mem (m:=fun x : S=>x.length + 1) l _ hmem
     have:=HZ.out
     omega
    have HYS:=Lib.hid hys
    have c0 : w.cell? ⟨b,o + j,none⟩=some (.string (str y)):=hc _ rfl
    have k0 : (0 : Int)≤(j : Int):=by omega
    have k1 : (j : Int) < (m : Int):=by omega
    clear hc hmem hy hys hjl
    go_wp2_with (go_at_call 21;refine (name14_o _ (Nat.le_trans (str_len HYS.out) (by omega)) _).mono ?_;rintro e w1 ⟨b1,rfl,hp,rfl⟩;have HP:=Lib.hid hp;clear hp;cases b1)
    all_goals first
     | (go_round
        case rel=>exact ⟨j + 1,by omega,by go_num,Lib.hid (by
         intro s hs
         rw [HTK.out] at hs
         rcases List.mem_append.1 hs with hs | hs
         ·exact HT.out s hs
         ·rw [List.mem_singleton] at hs;rw [hs];exact pos_ne (HP.out (by trivial)))⟩
        case measure=>simp [intOf];omega)
     | (go_ret;exact ⟨_,rfl,(fun h=>absurd h (by decide)),rfl⟩)
   ·obtain rfl : m=j:=by omega
    have HTK:=Lib.hid (show l.take m=l from List.take_of_length_le (by rw [HM.out];exact Nat.le_refl _))
    go_wp2_with fail
    go_ret
    exact ⟨_,rfl,(fun _=>⟨by rw [HM.out];exact H1.out,by have h:=HT.out;rw [HTK.out] at h;exact h⟩),rfl⟩
 ·have q : decide (most < (m : Int))=true:=decide_eq_true (by omega)
  clear h1
  go_enter Try.func22,Try.ntmps22
  go_wp2_with fail
  go_ret
  exact ⟨_,rfl,(fun h=>absurd h (by decide)),rfl⟩
set_option maxRecDepth 100000 in
set_option maxHeartbeats 2000000 in
theorem texts_o (l : List S) (A : Option Addr) (c : Nat) (most : Int) (w : World) (hl : Lg svE Rt top w A c l) (hz : (l.map fun x=>x.length + 1).sum≤1048576) :
  Calls Try.prog 57 #[.slice A l.length c,.int .i64 most] w (SomeQ ((l.length : Int)≤most) w):=by
 have hn : l.length≤1048576:=Nat.le_trans (sum_len (m:=fun x : S=>x.length + 1) (fun _=>by omega) l) hz
 obtain ⟨m,hm⟩ : ∃ m,l.length=m:=⟨_,rfl⟩
 have HM:=Lib.hid hm
 have HL:=Lib.hid hl
 have HZ:=Lib.hid hz
 rw [hm] at hn ⊢
 clear hm hl hz
 by_cases h1 : (m : Int)≤most
 ·have q : decide (most < (m : Int))=false:=decide_eq_false (by omega)
  have H1:=Lib.hid h1
  clear h1
  go_enter Try.func57,Try.ntmps57
  go_wp2_with fail
  go_loop [5] (fun iv=>∃ j : Nat,j≤m∧iv=.int .i64 (j : Int)) (fun iv=>m - (intOf iv).toNat)
  case atStart=>exact ⟨0,Nat.zero_le _,rfl⟩
  case round=>
   obtain ⟨j,hj,rfl⟩:=hrel
   by_cases hlt : j < m
   ·have hjl : j < l.length:=by rw [HM.out];exact hlt
    obtain ⟨b,o,rfl,hb,hc⟩:=Lg.one (fun _=>rfl) HL.out hjl
    have hmem : l[j] ∈ l:=List.getElem_mem hjl
    obtain ⟨y,hy⟩ : ∃ y,l[j]=y:=⟨_,rfl⟩
    rw [hy] at hc hmem
    have hys : y.length≤1048576:=by
     have h1:=sum_mem (m:=fun x : S=>x.length + 1) l _ hmem
     have:=HZ.out
     omega
    have HYS:=Lib.hid hys
    have c0 : w.cell? ⟨b,o + j,none⟩=some (.string (str y)):=hc _ rfl
    have k0 : (0 : Int)≤(j : Int):=by omega
    have k1 : (j : Int) < (m : Int):=by omega
    clear hc hmem hy hys hjl
    go_wp2_with (go_at_call 20;refine (isText_o _ (Nat.le_trans (str_len HYS.out) (by omega)) _).mono ?_;rintro e w1 ⟨b1,rfl,rfl⟩;cases b1)
    all_goals first
     | (go_round
        case rel=>exact ⟨j + 1,by omega,by go_num⟩
        case measure=>simp [intOf];omega)
     | (go_ret;exact ⟨_,rfl,(fun h=>absurd h (by decide)),rfl⟩)
   ·obtain rfl : m=j:=by omega
    go_wp2_with fail
    go_ret
    exact ⟨_,rfl,(fun _=>H1.out),rfl⟩
 ·have q : decide (most < (m : Int))=true:=decide_eq_true (by omega)
  clear h1
  go_enter Try.func57,Try.ntmps57
  go_wp2_with fail
  go_ret
  exact ⟨_,rfl,(fun h=>absurd h (by decide)),rfl⟩
def PairsP (most : Int) (l : List Pr) : Prop:=(l.length : Int)≤most∧∀ p ∈ l,p.nm ≠ []
set_option maxRecDepth 100000 in
set_option maxHeartbeats 2000000 in
theorem pairs_o (l : List Pr) (A : Option Addr) (c : Nat) (most : Int) (w : World) (hl : Lg Pr.e Pr.R top w A c l) (hz : (l.map Pr.m).sum≤1048576) :
  Calls Try.prog 23 #[.slice A l.length c,.int .i64 most] w (SomeQ (PairsP most l) w):=by
 have hn : l.length≤1048576:=Nat.le_trans (sum_len (m:=Pr.m) (fun _=>by unfold Pr.m;omega) l) hz
 obtain ⟨m,hm⟩ : ∃ m,l.length=m:=⟨_,rfl⟩
 have HM:=Lib.hid hm
 have HL:=Lib.hid hl
 have HZ:=Lib.hid hz
 rw [hm] at hn ⊢
 clear hm hl hz
 by_cases h1 : (m : Int)≤most
 ·have q : decide (most < (m : Int))=false:=decide_eq_false (by omega)
  have H1:=Lib.hid h1
  clear h1
  go_enter Try.func23,Try.ntmps23
  go_wp2_with fail
  go_loop [5] (fun iv=>∃ j : Nat,j≤m∧iv=.int .i64 (j : Int)∧Hid (∀ s ∈ l.take j,s.nm ≠ [])) (fun iv=>m - (intOf iv).toNat)
  case atStart=>exact ⟨0,Nat.zero_le _,rfl,Lib.hid (by simp)⟩
  case round=>
   obtain ⟨j,hj,rfl,HT⟩:=hrel
   by_cases hlt : j < m
   ·have hjl : j < l.length:=by rw [HM.out];exact hlt
    obtain ⟨b,o,rfl,hb,hc⟩:=Lg.at_ Pr.len HL.out hjl
    have hmem : l[j] ∈ l:=List.getElem_mem hjl
    obtain ⟨⟨y,z⟩,hy⟩ : ∃ y,l[j]=y:=⟨_,rfl⟩
    have HTK:=Lib.hid (show l.take (j + 1)=l.take j ++ [⟨y,z⟩] by rw [List.take_succ_eq_append_getElem hjl,hy])
    rw [hy] at hc hmem
    have hys : y.length≤1048576:=by
     have h1:=sum_mem (m:=Pr.m) l _ hmem
     unfold Pr.m at h1
     simp only [] at h1
     have:=HZ.out
     unfold Pr.m at this
     omega
    have HYS:=Lib.hid hys
    have c0 : w.cell? ⟨b,o + j * 2,none⟩=some (.string (str y)):=hc 0 _ rfl
    have c1 : w.cell? ⟨b,o + j * 2 + 1,none⟩=some (.int .i64 z):=hc 1 _ rfl
    have k0 : (0 : Int)≤(j : Int):=by omega
    have k1 : (j : Int) < (m : Int):=by omega
    clear hc hmem hy hys hjl
    go_wp2_with (go_at_call 21;refine (name14_o _ (Nat.le_trans (str_len HYS.out) (by omega)) _).mono ?_;rintro e w1 ⟨b1,rfl,hp,rfl⟩;have HP:=Lib.hid hp;clear hp;cases b1)
    all_goals first
     | (go_round
        case rel=>exact ⟨j + 1,by omega,by go_num,Lib.hid (by
         intro s hs
         rw [HTK.out] at hs
         rcases List.mem_append.1 hs with hs | hs
         ·exact HT.out s hs
         ·rw [List.mem_singleton] at hs;rw [hs];exact pos_ne (HP.out (by trivial)))⟩
        case measure=>simp [intOf];omega)
     | (go_ret;exact ⟨_,rfl,(fun h=>absurd h (by decide)),rfl⟩)
   ·obtain rfl : m=j:=by omega
    have HTK:=Lib.hid (show l.take m=l from List.take_of_length_le (by rw [HM.out];exact Nat.le_refl _))
    go_wp2_with fail
    go_ret
    exact ⟨_,rfl,(fun _=>⟨by rw [HM.out];exact H1.out,by have h:=HT.out;rw [HTK.out] at h;exact h⟩),rfl⟩
 ·have q : decide (most < (m : Int))=true:=decide_eq_true (by omega)
  clear h1
  go_enter Try.func23,Try.ntmps23
  go_wp2_with fail
  go_ret
  exact ⟨_,rfl,(fun h=>absurd h (by decide)),rfl⟩
end Go.Proofs.Yteibcfpepdbflaa.RtD
