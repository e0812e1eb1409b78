/- Lemmas and contracts on the way to the statement; no condition of their own beyond those written. -/
import Derived.Test.YthehbckogieimaaGreatXVztoZl
import Derived.RangeFuncWrites
import Derived.RangeFuncNested
import Derived.RangeFuncBox
import Derived.RangeFuncLeaves
import Derived.Shelf.Abstract
import Derived.OwnWalkIn
import Derived.TacticsInMore
import Derived.LoopNIn
import Derived.LoopIn
import Derived.Maps.AppendAt
import Derived.Sort.CutIn
import Derived.Deep.CutRange
import Derived.Deep.CutBlock
import Derived.IntWalk
import Derived.Great.BuildSlice
import Derived.ArgAppend
import Derived.Laws.CopyOwn
import Derived.StillTailTactics
import Derived.Deep.MidRow
import Derived.WalkSpells
import Derived.WalkLawsBesides
import Derived.OwnWalk
import Derived.OrdersHeld
import Derived.Deep.OwnRows
import Derived.WalkKit
import Derived.Lib.Hide
import Derived.Laws.OwnMore
import Derived.Test.YthehbckogieimaaGreatProg
import Derived.Outline
import Derived.Deep.DeepFit
import Derived.BigQuiet
import Derived.Deep.QuietTactic
import Derived.Sort.OwnSortedInts
import Derived.WideMake
import Derived.MapKept
import Derived.ChangeMaps5
import Derived.Shelf.Sort.Plain
import Derived.Lib.ConvBytes
import Derived.ChangeKeysEq
import Derived.Laws.Cells
import Derived.Laws.Rows
import Derived.Laws.Tables
import Derived.Deep.WholeRow
import Derived.OrdersIn
import Derived.TacticsIn
import Derived.Deep.LoopGhost
import Derived.Lib.SlicesSearch
import Derived.Stop.BytesEq
import Derived.Shelf.SlSortCmp.Whole1
import Derived.Ground.SlsfProg
set_option linter.unusedVariables false
set_option linter.unusedSimpArgs false
set_option maxRecDepth 100000
set_option maxHeartbeats 8000000
namespace Go.Proofs.YthehbckogieimaaGreat
open Go.RowKit
open Go.Proofs
attribute [local irreducible] Go.Calls Go.wpStill
def lessL:List Int→List Int→Bool
 | [],[]=>false
 | [],_ :: _=>true
 | _ :: _,[]=>false
 | x :: a,y :: b=>if x=y then lessL a b else decide (x<y)
theorem lessL_irr:∀ a:List Int,lessL a a=false
 | []=>rfl
 | x :: a=>by rw [lessL,if_pos rfl]; exact lessL_irr a
theorem lessL_trans:∀ {a b c:List Int},lessL a b=true→lessL b c=true→lessL a c=true
 | [],[],_,h,_=>by simp [lessL] at h
 | [],_ :: _,[],_,h=>by simp [lessL] at h
 | [],_ :: _,_ :: _,_,_=>rfl
 | _ :: _,[],_,h,_=>by simp [lessL] at h
 | _ :: _,_ :: _,[],_,h=>by simp [lessL] at h
 | x :: a,y :: b,z :: c,h,h'=>by
  rw [lessL] at h h' ⊢
  by_cases e1:x=y
  ·rw [if_pos e1] at h
   by_cases e2:y=z
   ·rw [if_pos e2] at h'; rw [if_pos (e1.trans e2)]; exact lessL_trans h h'
   ·rw [if_neg e2] at h'; rw [if_neg (by omega)]; simp at h' ⊢; omega
  ·rw [if_neg e1] at h
   by_cases e2:y=z
   ·rw [if_neg (by omega)]; simp at h ⊢; omega
   ·rw [if_neg e2] at h'; simp at h h'; rw [if_neg (by omega)]; simp; omega
theorem lessL_total:∀ {a b:List Int},lessL a b=false→a≠b→lessL b a=true
 | [],[],_,h=>absurd rfl h
 | [],_ :: _,h,_=>by simp [lessL] at h
 | _ :: _,[],_,_=>rfl
 | x :: a,y :: b,h,hn=>by
  rw [lessL] at h ⊢
  by_cases e:x=y
  ·rw [if_pos e] at h; rw [if_pos e.symm]
   exact lessL_total h (fun e2=>hn (by rw [e,e2]))
  ·rw [if_neg e] at h; rw [if_neg (by omega)]; simp at h ⊢; omega
theorem lessL_drop {a b:List Int} {k:Nat} (ha:k<a.length) (hb:k<b.length):lessL (a.drop k) (b.drop k)=if a[k]=b[k] then lessL (a.drop (k+1)) (b.drop (k+1)) else decide (a[k]<b[k]):=by
 rw [List.drop_eq_getElem_cons ha,List.drop_eq_getElem_cons hb,lessL]
theorem lessL_end {a b:List Int} {k:Nat} (h:¬ (k<a.length∧k<b.length)) (hk:k≤a.length) (hk2:k≤b.length):lessL (a.drop k) (b.drop k)=decide (a.length<b.length):=by
 by_cases h1:k<a.length
 ·have h2:k=b.length:=by omega
  rw [List.drop_eq_getElem_cons h1,List.drop_of_length_le (l:=b) (by omega)];simp [lessL]; omega
 ·rw [List.drop_of_length_le (l:=a) (by omega)]
  by_cases h2:k<b.length
  ·rw [List.drop_eq_getElem_cons h2]; simp [lessL]; omega
  ·rw [List.drop_of_length_le (l:=b) (by omega)]; simp [lessL]; omega
theorem Less_q (v1 v2:Value) (l1 l2:List Int) (w:World) (h1:Rg.Ints w v1 l1) (h2:Rg.Ints w v2 l2) :
  Calls Tryz.prog 73 #[v1,v2] w fun e w'=>e=.returned (.bool (lessL l1 l2))∧∃ k,w'=w.drewN k:=by
 obtain ⟨a1,c1,rfl,n1,m1,_,k1⟩:=h1.shape;obtain ⟨a2,c2,rfl,n2,m2,_,k2⟩:=h2.shape;clear h1 h2;have K1:=ι k1;have K2:=ι k2;clear k1 k2
 go_enter Tryz.func73,Tryz.ntmps73
 go_wp2
 go_loopw [5] (fun v wr=>∃ i:Nat,v=.int .i64 i∧i≤l1.length∧i≤l2.length∧Hid (∃ k,wr=w.drewN k)∧Hid (lessL (l1.drop i) (l2.drop i)=lessL l1 l2)) (fun v _=>l1.length - (intOf v).toNat)
 case atStart=>exact ⟨0,rfl,by omega,by omega,⟨0,rfl⟩,rfl⟩
 case round =>
  obtain ⟨i,rfl,hi,hi2,hw,hs⟩:=hrel
  by_cases hlt:i<l1.length
  ·by_cases hlt2:i<l2.length
   ·obtain ⟨b1,o1,rfl,hb1,d1⟩:=K1.out (by omega)
    obtain ⟨b2,o2,rfl,hb2,d2⟩:=K2.out (by omega)
    have x1:wr.cell? ⟨b1,o1+i,none⟩=some (.int .i64 l1[i]):=by obtain ⟨k,e⟩:=hw.out; rw [e]; exact d1 i hlt
    have x2:wr.cell? ⟨b2,o2+i,none⟩=some (.int .i64 l2[i]):=by obtain ⟨k,e⟩:=hw.out; rw [e]; exact d2 i hlt2
    have hd:=lessL_drop hlt hlt2;generalize l1[i]=x at *;generalize l2[i]=y at *;have Hd:=ι hd;clear d1 d2 hd
    by_cases he:x=y
    ·have hb:(x != y)=false:=by rw [he]; simp
     have He:=ι he;clear he;go_wp2
     go_quiet (fail)
     go_wp2
     go_roundw
     case rel=>exact ⟨i+1,by go_num,by omega,by omega,by obtain ⟨k,e⟩:=hw.out; rw [e]; exact ⟨_,World.drewN_drewN _ _ _⟩,by have:=hs.out; rw [Hd.out,if_pos He.out] at this; exact this⟩
     case measure=>simp [intOf]; omega
    ·have hb:(x != y)=true:=by rw [bne_iff_ne]; exact he
     have He:=ι he;clear he;go_wp2
     go_quiet (fail)
     go_wp2
     go_quiet (fail)
     go_wp2;go_ret;exact ⟨Rg.ret_bool (by rw [← hs.out,Hd.out,if_neg He.out]),by obtain ⟨k,e⟩:=hw.out; rw [e]; exact ⟨_,by rw [World.drewN_drewN,World.drewN_drewN]⟩⟩
   ·go_wp2
    go_ret;exact ⟨Rg.ret_bool (by rw [← hs.out,lessL_end (by omega) (by omega) (by omega)]),hw.out⟩
  ·go_wp2
   go_ret;exact ⟨Rg.ret_bool (by rw [← hs.out,lessL_end (by omega) (by omega) (by omega)]),hw.out⟩
def Asc (L:List (List Int)):Prop:=∀ i j (hi:i<L.length) (hj:j<L.length),i<j→lessL L[i] L[j]=true
structure Place (L:List (List Int)) (x:List Int) (lo:Nat):Prop where
 le:lo≤L.length
 lt:∀ i (h:i<L.length),i<lo→lessL L[i] x=true
 ge:∀ i (h:i<L.length),lo≤i→lessL L[i] x=false
theorem Place.mem {L:List (List Int)} {x:List Int} {lo:Nat} (h:Place L x lo) (hs:Asc L):x∈L↔∃ hl:lo<L.length,L[lo]=x:=by
 constructor
 ·intro hx
  obtain ⟨j,hj,rfl⟩:=List.getElem_of_mem hx
  have h1:¬ j<lo:=fun e=>by have:=h.lt j hj e; rw [lessL_irr] at this; cases this
  have h2:¬ lo<j:=fun e=>by
   have:=hs lo j (by omega) hj e;have h3:=h.ge lo (by omega) (Nat.le_refl _);rw [this] at h3; cases h3
  obtain rfl:lo=j:=by omega
  exact ⟨hj,rfl⟩
 ·rintro ⟨hl,rfl⟩; exact List.getElem_mem hl
def putIn (L:List (List Int)) (lo:Nat) (x:List Int):List (List Int):=L.take lo++(x :: L.drop lo)
theorem mem_putIn {L:List (List Int)} {lo:Nat} {x y:List Int}:y∈putIn L lo x↔y∈L∨y=x:=by
 unfold putIn;rw [List.mem_append,List.mem_cons]
 constructor
 ·rintro (h | h | h)
  ·exact .inl (List.mem_of_mem_take h)
  ·exact .inr h
  ·exact .inl (List.mem_of_mem_drop h)
 ·rintro (h | h)
  ·rw [← List.take_append_drop lo L,List.mem_append] at h
   rcases h with h | h
   ·exact .inl h
   ·exact .inr (.inr h)
  ·exact .inr (.inl h)
theorem asc_iff (L:List (List Int)):Asc L↔L.Pairwise (fun a b=>lessL a b=true):=by
 rw [List.pairwise_iff_getElem];exact ⟨fun h i j hi hj hij=>h i j hi hj hij,fun h i j hi hj hij=>h i j hi hj hij⟩
theorem asc_putIn {L:List (List Int)} {lo:Nat} {x:List Int} (h:Place L x lo) (hs:Asc L) (hx:x∉L):Asc (putIn L lo x):=by
 rw [asc_iff] at hs ⊢;unfold putIn;rw [← List.take_append_drop lo L,List.pairwise_append] at hs;obtain ⟨h1,h2,h3⟩:=hs;rw [List.pairwise_append,List.pairwise_cons];refine ⟨h1,⟨fun b hb=>?_,h2⟩,fun a ha b hb=>?_⟩
 ·obtain ⟨j,hj,rfl⟩:=List.getElem_of_mem hb
  rw [List.getElem_drop];refine lessL_total (h.ge _ (by simp at hj; omega) (by omega)) (fun e=>hx ?_);rw [← e]; exact List.getElem_mem _
 ·rcases List.mem_cons.1 hb with rfl | hb
  ·obtain ⟨j,hj,rfl⟩:=List.getElem_of_mem ha
   rw [List.getElem_take];exact h.lt j (by simp at hj; omega) (by simp at hj; omega)
  ·exact h3 a ha b hb
def PlacePost (L:List (List Int)) (x:List Int) (w:World) (e:Ending) (w':World):Prop :=
 ∃ lo:Nat,e=.returned (.tuple #[.int .i64 lo,.bool (decide (x∈L))])∧Place L x lo∧Below w.heap.size w w'
theorem place_any (lv xv:Value) (L:List (List Int)) (x:List Int) (w:World) (h:Rg.Rows w lv L) (hx:Rg.Ints w xv x) (hs:Asc L) (hL:L.length<1000000) :
  Calls Tryz.prog 105 #[lv,xv] w (PlacePost L x w):=by
 obtain ⟨aa,acap,rfl,hac,ham,_,har⟩:=h.shape;obtain ⟨xn,xa,xc,hxn,rfl,_⟩:=hx.len;have Har:=ι har;have Hx:=ι hx;clear har h hx hxn;generalize hD:decide (x∈L)=D0;have HD:=ι hD;clear hD
 go_enter Tryz.func105,Tryz.ntmps105
 go_wp2
 go_loopw [6,7] (fun vl vh wr=>∃ lo hi:Nat,vl=.int .i64 lo∧vh=.int .i64 hi∧lo≤hi∧hi≤L.length∧Hid (∀ i (h:i<L.length),i<lo→lessL L[i] x=true)∧Hid (∀ i (h:i<L.length),hi≤i→lessL L[i] x=false)∧Hid (∃ k,wr=w.drewN k)) (fun vl vh _=>(intOf vh).toNat - (intOf vl).toNat)
 case atStart=>exact ⟨0,L.length,rfl,rfl,by omega,by omega,fun i h h0=>by omega,fun i h h0=>by omega,⟨0,rfl⟩⟩
 case round =>
  obtain ⟨lo,hi,rfl,rfl,hle,hhi,h1,h2,hw⟩:=hrel
  by_cases hlt:lo<hi
  ·obtain ⟨m,hm⟩:∃ m,m=(lo+hi) / 2:=⟨_,rfl⟩
   have hm1:lo≤m:=by omega
   have hm2:m<hi:=by omega
   have hmI:((lo:Int)+(hi:Int)) / 2=(m:Int):=by omega
   have hmL:m<L.length:=by omega
   obtain ⟨g,o,rfl,hg,hgr⟩:=Har.out (by omega);obtain ⟨u,eu,hu⟩:=hgr m hmL
   have e0:wr.cell? ⟨g,o+m,none⟩=some u:=by obtain ⟨k,e⟩:=hw.out; rw [e]; exact eu
   have hu1:Rg.Ints wr u L[m]:=by obtain ⟨k,e⟩:=hw.out; rw [e]; exact hu
   have hx1:Rg.Ints wr (.slice xa xn xc) x:=by obtain ⟨k,e⟩:=hw.out; rw [e]; exact Hx.out
   have hq:=Less_q _ _ _ _ wr hu1 hx1;clear hm hgr eu hu hu1 hx1
   cases hbq:lessL L[m] x
   ·rw [hbq] at hq
    have Hq:=ι hq;have Hbq:=ι hbq;clear hq hbq
    go_wp2_with (go_at_call 73; refine Hq.out.mono ?_; rintro e w' ⟨rfl,k,rfl⟩)
    go_roundw
    case rel =>
     refine ⟨lo,m,rfl,rfl,by omega,by omega,h1.out,fun i h hi'=>?_,by obtain ⟨k,e⟩:=hw.out; rw [e]; exact ⟨_,World.drewN_drewN _ _ _⟩⟩
     rcases Nat.lt_or_ge m i with hmi | hmi
     ·cases hh:lessL L[i] x
      ·rfl
      ·have:=lessL_trans (hs m i (by omega) h hmi) hh
       rw [Hbq.out] at this; cases this
     ·obtain rfl:i=m:=by omega
      exact Hbq.out
    case measure=>simp [intOf]; omega
   ·rw [hbq] at hq
    have Hq:=ι hq;have Hbq:=ι hbq;clear hq hbq
    go_wp2_with (go_at_call 73; refine Hq.out.mono ?_; rintro e w' ⟨rfl,k,rfl⟩)
    go_roundw
    case rel =>
     refine ⟨m+1,hi,by go_num,rfl,by omega,by omega,fun i h hi'=>?_,h2.out,by obtain ⟨k,e⟩:=hw.out; rw [e]; exact ⟨_,World.drewN_drewN _ _ _⟩⟩
     rcases Nat.lt_or_ge i m with hmi | hmi
     ·exact lessL_trans (hs i m h (by omega) hmi) Hbq.out
     ·obtain rfl:i=m:=by omega
      exact Hbq.out
    case measure=>simp [intOf]; omega
  ·obtain rfl:lo=hi:=by omega
   have hP:Place L x lo:=⟨hhi,h1.out,h2.out⟩;clear h1 h2;have hmem:=hP.mem hs;have HP:=ι hP;have hbw:=ι (show Below w.heap.size w wr by obtain ⟨k,e⟩:=hw.out; rw [e]; exact Rg.drewN (Below.refl _ _) _)
   by_cases hlo:lo<L.length
   ·obtain ⟨g,o,rfl,hg,hgr⟩:=Har.out (by omega)
    obtain ⟨u,eu,hu⟩:=hgr lo hlo
    have e0:wr.cell? ⟨g,o+lo,none⟩=some u:=by obtain ⟨k,e⟩:=hw.out; rw [e]; exact eu
    have hu1:Rg.Ints wr u L[lo]:=by obtain ⟨k,e⟩:=hw.out; rw [e]; exact hu
    have hx1:Rg.Ints wr (.slice xa xn xc) x:=by obtain ⟨k,e⟩:=hw.out; rw [e]; exact Hx.out
    have hd:decide (L[lo]=x)=D0:=by
     rw [← HD.out];exact decide_eq_decide.2 ⟨fun e=>hmem.2 ⟨hlo,e⟩,fun e=>(hmem.1 e).2⟩
    have hq:=ι (Same_any hu1 hx1 (ι hd) hbw.out);clear hmem hgr eu hu hu1 hx1 hd hP
    go_wp2_with (go_at_call 33; refine hq.out.mono ?_; rintro e w' ⟨rfl,hbs⟩)
    go_ret2
    exact ⟨lo,by rw [HD.out]; rfl,HP.out,hbs⟩
   ·have hd:false=D0:=by
     rw [← HD.out];exact (decide_eq_false (fun e=>hlo (hmem.1 e).1)).symm
    subst hd;clear hmem hP;go_wp2
    go_ret2
    exact ⟨lo,by rw [HD.out]; rfl,HP.out,hbw.out⟩
end Go.Proofs.YthehbckogieimaaGreat

namespace Go.Proofs.YthehbckogieimaaGreat
open Go.RowKit
open Go.Proofs
attribute [local irreducible] Go.Calls Go.wpList
def cmpI (x y:Int):Int:=if x<y then -1 else if y<x then 1 else 0
def cmpL:List Int→List Int→Int
 | [],[]=>0
 | [],_ :: _=>-1
 | _ :: _,[]=>1
 | x :: a,y :: b=>if cmpI x y=0 then cmpL a b else cmpI x y
theorem cmpL_lt:∀ (a b:List Int),decide (cmpL a b<0)=lessL a b
 | [],[]=>rfl
 | [],_ :: _=>rfl
 | _ :: _,[]=>rfl
 | x :: a,y :: b=>by
  unfold cmpL lessL cmpI
  by_cases h1:x=y
  ·subst h1
   simp only [Int.lt_irrefl,if_false,if_true];exact cmpL_lt a b
  ·by_cases h2:x<y
   ·simp [h1,h2]
   ·have h3:y<x:=by omega
    simp [h1,h2,h3]
theorem cmpL_drop {a b:List Int} {k:Nat} (ha:k<a.length) (hb:k<b.length):cmpL (a.drop k) (b.drop k)=if cmpI a[k] b[k]=0 then cmpL (a.drop (k+1)) (b.drop (k+1)) else cmpI a[k] b[k]:=by
 rw [List.drop_eq_getElem_cons ha,List.drop_eq_getElem_cons hb,cmpL]
theorem cmpL_one {a b:List Int} {k:Nat} (ha:k<a.length) (hb:b.length≤k):cmpL (a.drop k) (b.drop k)=1:=by
 rw [List.drop_eq_getElem_cons ha,List.drop_of_length_le (l:=b) hb,cmpL]
theorem cmpL_end {a b:List Int} {k:Nat} (ha:a.length≤k) (hb:k≤b.length) (hk:k≤a.length):cmpL (a.drop k) (b.drop k)=if a.length<b.length then -1 else 0:=by
 have e:k=a.length:=by omega
 subst e;rw [List.drop_of_length_le (l:=a) (Nat.le_refl _)]
 by_cases h:a.length<b.length
 ·rw [List.drop_eq_getElem_cons h,if_pos h,cmpL]
 ·rw [List.drop_of_length_le (l:=b) (by omega),if_neg h,cmpL]
theorem cmpCmp_any (x y:Int) (w:World):Calls Tryz.prog 172 #[.int .i64 x,.int .i64 y] w fun e w'=>e=.returned (.int .i64 (cmpI x y))∧w'=w:=by
 by_cases h1:x<y
 ·go_enter Tryz.func172,Tryz.ntmps172
  go_wp2;go_ret;exact ⟨by rw [show cmpI x y = -1 by unfold cmpI; rw [if_pos (by omega)]]; rfl,rfl⟩
 ·by_cases h2:y<x
  ·go_enter Tryz.func172,Tryz.ntmps172
   go_wp2;go_ret;exact ⟨by rw [show cmpI x y=1 by unfold cmpI; rw [if_neg (by omega),if_pos (by omega)]]; rfl,rfl⟩
  ·go_enter Tryz.func172,Tryz.ntmps172
   go_wp2;go_ret;exact ⟨by rw [show cmpI x y=0 by unfold cmpI; rw [if_neg (by omega),if_neg (by omega)]]; rfl,rfl⟩
theorem Compare_any (v1 v2:Value) (l1 l2:List Int) (w:World) (h1:Rg.Ints w v1 l1) (h2:Rg.Ints w v2 l2) :
  Calls Tryz.prog 90 #[v1,v2] w fun e w'=>e=.returned (.int .i64 (cmpL l1 l2))∧w'=w:=by
 obtain ⟨a1,c1,rfl,n1,m1,_,k1⟩:=h1.shape;obtain ⟨a2,c2,rfl,n2,m2,_,k2⟩:=h2.shape;clear h1 h2;have K1:=ι k1;have K2:=ι k2;clear k1 k2
 go_enter Tryz.func90,Tryz.ntmps90
 go_wp2
 go_loopw [11] (fun v wr=>∃ i:Nat,v=.int .i64 i∧i≤l1.length∧i≤l2.length∧Hid (w=wr)∧Hid (cmpL (l1.drop i) (l2.drop i)=cmpL l1 l2)) (fun v _=>l1.length - (intOf v).toNat)
 case atStart=>exact ⟨0,rfl,by omega,by omega,rfl,rfl⟩
 case round =>
  obtain ⟨i,rfl,hi,hi2,hw,hs⟩:=hrel;have hw2:=hw.out;subst hw2;clear hw
  by_cases hlt:i<l1.length
  ·by_cases hlt2:i<l2.length
   ·obtain ⟨b1,o1,rfl,hb1,d1⟩:=K1.out (by omega)
    obtain ⟨b2,o2,rfl,hb2,d2⟩:=K2.out (by omega);have x1:=d1 i hlt;have x2:=d2 i hlt2;have hd:=cmpL_drop hlt hlt2;generalize l1[i]=x at *;generalize l2[i]=y at *;have Hd:=ι hd;have HC:=ι (cmpCmp_any x y w);clear d1 d2 hd;obtain ⟨c,hc⟩:∃ c,Hid (cmpI x y=c):=⟨_,ι rfl⟩;rw [hc.out] at HC
    have hge:¬ (l2.length:Int)≤(i:Int):=by omega
    by_cases he:c=0
    ·subst he
     go_wp2_with (go_at_call 172; refine HC.out.mono ?_; rintro e w' ⟨rfl,rfl⟩)
     go_roundw
     case rel=>exact ⟨i+1,by go_num,by omega,by omega,by first | exact ι rfl | exact ι trivial,ι (by have:=hs.out; rw [Hd.out,if_pos hc.out] at this; exact this)⟩
     case measure=>simp [intOf]; omega
    ·have HR:=ι (show c=cmpL l1 l2 by rw [← hs.out,Hd.out,if_neg (by rw [hc.out]; exact he),hc.out])
     go_wp2_with (go_at_call 172; refine HC.out.mono ?_; rintro e w' ⟨rfl,rfl⟩)
     go_ret;exact ⟨by rw [← HR.out]; rfl,rfl⟩
   ·have hge:(l2.length:Int)≤(i:Int):=by omega
    obtain ⟨b1,o1,rfl,hb1,d1⟩:=K1.out (by omega);have x1:=d1 i hlt;generalize l1[i]=x at *;clear d1;go_wp2;go_ret;exact ⟨by rw [← hs.out,cmpL_one hlt (by omega)]; rfl,rfl⟩
  ·have he:=cmpL_end (a:=l1) (b:=l2) (k:=i) (by omega) hi2 hi
   have HE:=ι (he.symm.trans hs.out);clear he
   by_cases hl:l1.length<l2.length
   ·have hlN:(l1.length:Int)<(l2.length:Int):=by omega
    go_wp2;go_ret;exact ⟨by rw [← HE.out,if_pos (by omega)]; rfl,rfl⟩
   ·have hlN:¬ (l1.length:Int)<(l2.length:Int):=by omega
    go_wp2;go_ret;exact ⟨by rw [← HE.out,if_neg (by omega)]; rfl,rfl⟩
end Go.Proofs.YthehbckogieimaaGreat

namespace Go.Proofs.YthehbckogieimaaGreat
open Go.RowKit
open Go.Proofs
open Go.Proofs.Ob
open Go.Proofs.Cm (Gd Gr)
attribute [local irreducible] Go.Calls Go.wpList
def lenV:Value→Nat
 | .slice _ n _=>n
 | _=>0
theorem run_sliceHiP (w:World) (b:Addr) (n c k:Nat) (h:k≤c):(Instr.sliceAt 22 (.slice (some b) n c) none (some (.int .i64 (k:Int))) none).run Tryz.prog w=.ok (.slice (some b) k c) w:=by
 simp [Instr.sliceAt,Instr.slice,run_underlying Tryz.underlying22,Instr.sliceBounds,Instr.sliceBound,asIntOf,h,Addr.add]
theorem exec_sliceHiP {o:Oper} {a:Act} {w:World} {v r:Value} {k:Nat} (x y:Operand) (ho:o.op=.slice 22 x none (some y) none) (hx:a.eval x=v) (hy:a.eval y=.int .i64 (k:Int)) (hr:(Instr.sliceAt 22 v none (some (.int .i64 (k:Int))) none).run Tryz.prog w=.ok r w) :
  (execOp a.eval o).run Tryz.prog w=.ok (.value r) w:=by
 unfold execOp;simp only [ho,hx,hy,Sem.run_bind,Sem.run_pure,Option.map]
 first | (rw [hr]; rfl) | (erw [hr]; rfl) | simp [hr]
theorem ofN_back (l:List Nat):(Ma.ofN l).map Int.toNat=l:=by
 unfold Ma.ofN;rw [List.map_map];exact List.map_id'' (fun _=>rfl) l
theorem ofN_inj' {a b:List Nat} (h:Ma.ofN a=Ma.ofN b):a=b:=by rw [← ofN_back a,h,ofN_back]
theorem memP {y:List Nat} {A:List (List Nat)}:Ma.ofN y∈A.map Ma.ofN↔y∈A :=
 ⟨fun h=>by obtain ⟨z,hz,e⟩:=List.mem_map.1 h; exact ofN_inj' e▸hz,fun h=>List.mem_map_of_mem h⟩
def putN (A:List (List Nat)) (k:Nat) (y:List Nat):List (List Nat):=A.take k++(y :: A.drop k)
theorem putN_map (A:List (List Nat)) (k:Nat) (y:List Nat):(putN A k y).map Ma.ofN=putIn (A.map Ma.ofN) k (Ma.ofN y):=by simp [putN,putIn]
theorem len_putN {A:List (List Nat)} {k:Nat} {y:List Nat} (h:k≤A.length):(putN A k y).length=A.length+1:=by simp [putN]; omega
theorem mem_putN {A:List (List Nat)} {k:Nat} {x y:List Nat}:x∈putN A k y↔x∈A∨x=y:=by
 rw [← memP,putN_map,mem_putIn,memP];exact ⟨fun h=>h.imp id ofN_inj',fun h=>h.imp id (congrArg _)⟩
structure EO (d:Nat) (gs:List (List Nat)) (most:Nat) (A T:List (List Nat)):Prop where
 asc:Asc (A.map Ma.ofN)
 inG:∀ y∈A,Gr d (·∈gs) y
 one:Ma.oneN d∈A
 sub:∀ y∈T,y∈A
 le:A.length≤most
 tl:T.length≤A.length
 clo:∀ z∈A,z∈T∨∀ g∈gs,Ma.mulN z g∈A
structure EJ (d:Nat) (gs:List (List Nat)) (most:Nat) (A T:List (List Nat)) (x:List Nat) (i:Nat):Prop where
 asc:Asc (A.map Ma.ofN)
 inG:∀ y∈A,Gr d (·∈gs) y
 one:Ma.oneN d∈A
 sub:∀ y∈T,y∈A
 le:A.length≤most
 tl:T.length≤A.length
 xA:x∈A
 clo:∀ z∈A,z∈T∨z=x∨∀ g∈gs,Ma.mulN z g∈A
 don:∀ j (h:j<gs.length),j<i→Ma.mulN x gs[j]∈A
def AllE (d:Nat) (gs A:List (List Nat)):Prop:=Asc (A.map Ma.ofN)∧∀ y,y∈A↔Gr d (·∈gs) y
def OverE (d:Nat) (gs:List (List Nat)) (most:Nat):Prop:=∃ L:List (List Nat),L.Nodup∧(∀ y∈L,Gr d (·∈gs) y)∧L.length=most+1
theorem asc_one (l:List (List Int)) (h:l.length≤1):Asc l:=fun i j hi hj hij=>by omega
theorem EO.start {d:Nat} {gs:List (List Nat)} {most:Nat} (h:1≤most):EO d gs most [Ma.oneN d] [Ma.oneN d] :=
 ⟨asc_one _ (by simp),fun y hy=>by rw [List.mem_singleton] at hy; subst hy; exact .one,by simp,fun y hy=>hy,by simpa using h,by simp,fun z hz=>.inl hz⟩
theorem EO.pop {d:Nat} {gs:List (List Nat)} {most:Nat} {A T:List (List Nat)} {x:List Nat} (h:EO d gs most A (T++[x])):EJ d gs most A T x 0 :=
 ⟨h.asc,h.inG,h.one,fun y hy=>h.sub y (List.mem_append_left _ hy),h.le,by have:=h.tl; simp at this; omega,h.sub x (by simp),fun z hz=>by
  rcases h.clo z hz with e | e
  ·rcases List.mem_append.1 e with e | e
   ·exact .inl e
   ·exact .inr (.inl (by simpa using e))
  ·exact .inr (.inr e),fun j _ hj=>by omega⟩
theorem EJ.hit {d:Nat} {gs:List (List Nat)} {most:Nat} {A T:List (List Nat)} {x:List Nat} {i:Nat} (h:EJ d gs most A T x i) (hi:i<gs.length) (hy:Ma.mulN x gs[i]∈A):EJ d gs most A T x (i+1) :=
 ⟨h.asc,h.inG,h.one,h.sub,h.le,h.tl,h.xA,h.clo,fun j hj hji=>by
  rcases Nat.lt_or_ge j i with e | e
  ·exact h.don j hj e
  ·obtain rfl:j=i:=by omega
   exact hy⟩
theorem EJ.new {d:Nat} {gs:List (List Nat)} {most:Nat} {A T:List (List Nat)} {x:List Nat} {i k:Nat} (h:EJ d gs most A T x i) (hi:i<gs.length) (hg:∀ s∈gs,Gd d s) (hy:Ma.mulN x gs[i]∉A) (hm:A.length<most) (hP:Place (A.map Ma.ofN) (Ma.ofN (Ma.mulN x gs[i])) k) :
  EJ d gs most (putN A k (Ma.mulN x gs[i])) (T++[Ma.mulN x gs[i]]) x (i+1):=by
 have hk:k≤A.length:=by have:=hP.le; simpa using this
 have hG:Gr d (·∈gs) (Ma.mulN x gs[i]):=(Gr.isG hg).mul _ _ (h.inG x h.xA) (.gen _ (List.getElem_mem hi));refine ⟨?_,fun y hy=>?_,mem_putN.2 (.inl h.one),fun y hy=>?_,by rw [len_putN hk]; omega,by rw [len_putN hk,List.length_append]; have:=h.tl; simp; omega,mem_putN.2 (.inl h.xA),fun z hz=>?_,fun j hj hji=>?_⟩
 ·rw [putN_map]; exact asc_putIn hP h.asc (fun e=>hy (memP.1 e))
 ·rcases mem_putN.1 hy with e | rfl
  ·exact h.inG y e
  ·exact hG
 ·rcases List.mem_append.1 hy with e | e
  ·exact mem_putN.2 (.inl (h.sub y e))
  ·exact mem_putN.2 (.inr (by simpa using e))
 ·rcases mem_putN.1 hz with e | rfl
  ·rcases h.clo z e with e | e | e
   ·exact .inl (List.mem_append_left _ e)
   ·exact .inr (.inl e)
   ·exact .inr (.inr fun g hg=>mem_putN.2 (.inl (e g hg)))
  ·exact .inl (by simp)
 ·rcases Nat.lt_or_ge j i with e | e
  ·exact mem_putN.2 (.inl (h.don j hj e))
  ·obtain rfl:j=i:=by omega
   exact mem_putN.2 (.inr rfl)
theorem EJ.out {d:Nat} {gs:List (List Nat)} {most:Nat} {A T:List (List Nat)} {x:List Nat} {i:Nat} (h:EJ d gs most A T x i) (hi:gs.length≤i):EO d gs most A T :=
 ⟨h.asc,h.inG,h.one,h.sub,h.le,h.tl,fun z hz=>by
  rcases h.clo z hz with e | rfl | e
  ·exact .inl e
  ·refine .inr fun g hg=>?_
   obtain ⟨j,hj,rfl⟩:=List.getElem_of_mem hg;exact h.don j hj (by omega)
  ·exact .inr e⟩
theorem EO.done {d:Nat} {gs:List (List Nat)} {most:Nat} {A:List (List Nat)} (h:EO d gs most A []) (hg:∀ s∈gs,Gd d s):AllE d gs A :=
 ⟨h.asc,fun y=>⟨h.inG y,fun hy=>Cm.gr_ind hg (P:=fun z=>z∈A) h.one (fun x s _ hx hs=>by
  rcases h.clo x hx with e | e
  ·simp at e
  ·exact e s hs) hy⟩⟩
theorem asc_nodup {A:List (List Nat)} (h:Asc (A.map Ma.ofN)):A.Nodup:=by
 rw [asc_iff] at h;rw [List.pairwise_map] at h
 exact h.imp fun hab e=>by subst e; rw [lessL_irr] at hab; cases hab
theorem EJ.over {d:Nat} {gs:List (List Nat)} {most:Nat} {A T:List (List Nat)} {x:List Nat} {i:Nat} (h:EJ d gs most A T x i) (hi:i<gs.length) (hg:∀ s∈gs,Gd d s) (hy:Ma.mulN x gs[i]∉A) (hm:¬ A.length<most):OverE d gs most :=
 ⟨Ma.mulN x gs[i] :: A,List.nodup_cons.2 ⟨hy,asc_nodup h.asc⟩,fun y hy'=>by
  rcases List.mem_cons.1 hy' with rfl | e
  ·exact (Gr.isG hg).mul _ _ (h.inG x h.xA) (.gen _ (List.getElem_mem hi))
  ·exact h.inG y e,by have:=h.le; simp; omega⟩
theorem RowH.withM {B:Nat} {F M N:Nat→Prop} {W:World} {v:Value} {l:List (List Nat)} (h:RowH B F M W v l) (hN:∀ k,v.ownBlock=some k→¬ N k):RowH B F N W v l:=⟨h.size,h.own,fun k e=>⟨(h.off k e).1,hN k e⟩⟩
theorem RowH.pop {B:Nat} {F M:Nat→Prop} {W:World} {a:Option Addr} {n c:Nat} {l:List (List Nat)} {x:List Nat} (h:RowH B F M W (.slice a (n+1) c) (l++[x])) (hn:l.length=n):RowH B F M W (.slice a n c) l:=by
 obtain ⟨us,⟨h1,h2⟩,h3⟩:=h.own
 have hl:us.length=n+1:=by simp [hn] at h1; exact h1
 have he:Rg.FElts F W (us.take n) (l.map Ma.ofN):=by
  have:=h3.take n
  rwa [List.map_append,List.take_append_of_le_length (by rw [List.length_map,hn]; exact Nat.le_refl _),List.take_of_length_le (l:=l.map Ma.ofN) (by rw [List.length_map,hn]; exact Nat.le_refl _)] at this
 refine ⟨h.size,⟨us.take n,⟨by simp [hn,hl],?_⟩,he⟩,fun k e=>h.off k (by cases a with | none=>simp [Value.ownBlock] at e | some b=>exact e)⟩
 rcases h2 with ⟨_,h2⟩ | ⟨g,cap,cur,hv,hg,hc,h5,h6,h7,h8⟩
 ·simp at h2
 ·simp only [Value.slice.injEq] at hv
  obtain ⟨rfl,_,rfl⟩:=hv;refine .inr ⟨g,c,cur,by rw [hn],hg,hc,by simp at h5; omega,h6,h7,?_⟩;have:=congrArg (List.take n) h8;rw [List.take_take] at this;rw [← this]
  congr 1
  simp [hn]
theorem RowH.at {B:Nat} {F M:Nat→Prop} {W:World} {v:Value} {l:List (List Nat)} (h:RowH B F M W v l) {i:Nat} (hi:i<l.length):∃ b c u,v=.slice (some ⟨b,0,none⟩) l.length c∧l.length≤c∧b<W.heap.size∧W.cell? ⟨b,i,none⟩=some u∧FP F W u l[i]:=by
 obtain ⟨us,h1,h2⟩:=h.own;obtain ⟨-,a,c,rfl,h3,h4,h5⟩:=Rg.own_elts h1 h2;rw [List.length_map] at h3;obtain ⟨g,rfl,hg,hx⟩:=h5 (by rw [List.length_map]; omega);obtain ⟨u,hu1,hu2⟩:=hx i (by simpa using hi);exact ⟨g,c,u,congrArg (fun n=>Value.slice _ n c) (List.length_map ..),h3,hg,hu1,by rw [List.getElem_map] at hu2; exact hu2⟩
structure Room (B:Nat) (F:Nat→Prop) (W:World) (g n c:Nat) (l:List (List Nat)) (cur:Array Value) (us:List Value):Prop where
 heap:W.heap[g]?=some (.cells cur 51 (0,0))
 size:cur.size=c
 le:n+1≤c
 cm:c≤maxLen
 lo:B≤g
 ul:us.length=n
 ll:l.length=n
 elts:Rg.FElts F W us (l.map Ma.ofN)
 take:∃ u,cur.toList.take (n+1)=us++[u]
theorem RowH.room {B:Nat} {F M:Nat→Prop} {W:World} {v:Value} {l:List (List Nat)} {z:List Nat} (h:RowH B F M W v (l++[z])):∃ g c cur us,v=.slice (some ⟨g,0,none⟩) (l.length+1) c∧Room B F W g l.length c l cur us:=by
 obtain ⟨us,⟨h1,h2⟩,h3⟩:=h.own
 have hl:us.length=l.length+1:=by simpa using h1
 have he:Rg.FElts F W (us.take l.length) (l.map Ma.ofN):=by
  have:=h3.take l.length
  rwa [List.map_append,List.take_append_of_le_length (Nat.le_of_eq (List.length_map ..).symm),List.take_of_length_le (l:=l.map Ma.ofN) (Nat.le_of_eq (List.length_map ..))] at this
 rcases h2 with ⟨_,h2⟩ | ⟨g,cap,cur,hv,hg,hc,h5,h6,h7,h8⟩
 ·simp at h2
 ·refine ⟨g,cap,cur,us.take l.length,by rw [hv]; simp,⟨hc,by omega,by simpa using h5,h6,hg,by simp [hl],rfl,he,us[l.length],?_⟩⟩
  rw [List.length_append,List.length_singleton,Nat.mul_one] at h8;rw [h8,List.take_append_getElem (by omega),List.take_of_length_le (by omega)]
theorem Room.cell {B:Nat} {F:Nat→Prop} {W:World} {g n c:Nat} {l:List (List Nat)} {cur:Array Value} {us:List Value} (h:Room B F W g n c l cur us) {k:Nat}:∀ j v,(us.drop k)[j]?=some v→W.cell? ((⟨g,k,none⟩:Addr).add j)=some v:=fun j v hv=>by
 obtain ⟨u,h6⟩:=h.take;have hj:=(List.getElem?_eq_some_iff.1 hv).1;have h7:=congrArg (fun l=>l[k+j]?) h6;have hul:=h.ul;simp at hj;rw [List.getElem?_take_of_lt (by omega),List.getElem?_append_left (by omega)] at h7;rw [List.getElem?_drop] at hv
 have h8:W.cell? ⟨g,k+j,none⟩=some v:=by
  rw [cell_of_row W _ _ _ _ _ h.heap,← Array.getElem?_toList,h7,hv]
 rw [Addr.add_mid]; exact h8
theorem Room.put {B:Nat} {F M:Nat→Prop} {W W3:World} {g n c k:Nat} {l:List (List Nat)} {cur:Array Value} {us:List Value} (h:Room B F W g n c l cur us) (hB:B≤W.heap.size) (hoff:¬ F g∧¬ M g) (hk:k≤n) (hk3:Rg.Kp (fun z=>z=g) W W3) (h3:W3.heap[g]?=some (.cells (splice cur.toList (k+1) (us.drop k)).toArray 51 (0,0))) {xv:Value} {y:List Nat} (hy:FP F W xv y) :
  RowH B F M (W3.setCell ⟨g,k,none⟩ xv) (.slice (some ⟨g,0,none⟩) (n+1) c) (putN l k y)∧Rg.Kp (fun z=>z=g) W (W3.setCell ⟨g,k,none⟩ xv):=by
 have hkp:Rg.Kp (fun z=>z=g) W (W3.setCell ⟨g,k,none⟩ xv):=hk3.trans (M':=fun z=>z=g) (Rg.Kp.of_setCell rfl) (fun _ _ e=>e);have hFg:∀ z,F z→¬ z=g:=fun z hz e=>hoff.1 (e▸hz);obtain ⟨u,h6⟩:=h.take
 have hlenc:n+1≤cur.toList.length:=by rw [Array.length_toList,h.size]; exact h.le
 have hspl:=Rg.splice_set (x:=xv) h6 h.ul hk hlenc
 have hl:(putN l k y).length=n+1:=by rw [len_putN (by rw [h.ll]; exact hk),h.ll]
 have hul:=h.ul;refine ⟨⟨Nat.le_trans hB hkp.size,⟨us.take k++(xv :: us.drop k),⟨by rw [hl]; simp [hul]; omega,.inr ⟨g,c,_,by rw [hl],h.lo,heap_setCell_same W3 g k _ _ xv h3,by rw [hl]; exact h.le,h.cm,?_,?_⟩⟩,?_⟩,fun z e=>?_⟩,hkp⟩
 ·rw [Array.size_setIfInBounds,List.size_toArray,length_splice cur.toList (k+1) (us.drop k) (by rw [List.length_drop,hul,Array.length_toList,h.size]; have:=h.le; omega),Array.length_toList,h.size,Nat.mul_one]
 ·rw [hl,Nat.mul_one,← hspl]
  simp
 ·have e1:(putN l k y).map Ma.ofN=(l.map Ma.ofN).take k++([Ma.ofN y]++(l.map Ma.ofN).drop k):=by simp [putN]
  rw [e1];exact ((h.elts.kp hkp hFg).take k).app ((Rg.FElts.one (Rg.FI.kp hy hkp hFg)).app ((h.elts.kp hkp hFg).drop k))
 ·simp only [Value.ownBlock,Option.some.injEq] at e
  subst e;exact hoff
structure ElI (w W:World) (F:Nat→Prop) (av tv:Value) (A T:List (List Nat)):Prop where
 bel:Below w.heap.size w W
 ra:RowH w.heap.size F (fun _=>False) W av A
 rt:RowH w.heap.size F (fun _=>False) W tv T
 dis:∀ k,av.ownBlock=some k→tv.ownBlock≠some k
 Flt:∀ z,F z→z<W.heap.size
theorem RowH.up0 {B:Nat} {F:Nat→Prop} {W W':World} {v:Value} {l:List (List Nat)} (h:RowH B F (fun _=>False) W v l) (hb:Below W.heap.size W W'):RowH B (Fup F W W') (fun _=>False) W' v l :=
 h.upk (N:=fun _=>False) (Rg.Kp.of_below hb) (fun _ _=>id) (fun _=>id)
theorem ElI.up {w W W':World} {F:Nat→Prop} {av tv:Value} {A T:List (List Nat)} (h:ElI w W F av tv A T) (hb:Below W.heap.size W W'):ElI w W' (Fup F W W') av tv A T :=
 ⟨Rg.acc h.bel hb,h.ra.up0 hb,h.rt.up0 hb,h.dis,fun z hz=>by
  rcases hz with hz | hz
  ·exact Nat.lt_of_lt_of_le (h.Flt z hz) hb.size
  ·exact hz.2⟩
theorem ElI.pop {w W:World} {F:Nat→Prop} {av:Value} {a:Option Addr} {n c:Nat} {A T:List (List Nat)} {x:List Nat} (h:ElI w W F av (.slice a (n+1) c) A (T++[x])) (hn:T.length=n):ElI w W F av (.slice a n c) A T :=
 ⟨h.bel,h.ra,h.rt.pop hn,fun k e e2=>h.dis k e (by cases a with | none=>simp [Value.ownBlock] at e2 | some b=>exact e2),h.Flt⟩
theorem ElI.kpA {w W X:World} {F:Nat→Prop} {av av' tv:Value} {A A' T:List (List Nat)} (h:ElI w W F av tv A T) (hk:Rg.Kp (fun k=>av.ownBlock=some k) W X) (hr:RowH w.heap.size F (fun k=>tv.ownBlock=some k) X av' A'):ElI w X F av' tv A' T :=
 ⟨Rg.Kp.below h.bel hk (fun k e=>(h.ra.lt k e).1),hr.withM (fun _ _=>id),h.rt.kp hk (fun z hz e=>(h.ra.off z e).1 hz) (fun k e1 e2=>h.dis k e2 e1),fun k e=>(hr.off k e).2,fun z hz=>Nat.lt_of_lt_of_le (h.Flt z hz) hk.size⟩
theorem ElI.kpT {w W X:World} {F:Nat→Prop} {av tv tv':Value} {A T T':List (List Nat)} (h:ElI w W F av tv A T) (hk:Rg.Kp (fun k=>tv.ownBlock=some k) W X) (hr:RowH w.heap.size F (fun k=>av.ownBlock=some k) X tv' T'):ElI w X F av tv' A T' :=
 ⟨Rg.Kp.below h.bel hk (fun k e=>(h.rt.lt k e).1),h.ra.kp hk (fun z hz e=>(h.rt.off z e).1 hz) (fun k e1 e2=>h.dis k e1 e2),hr.withM (fun _ _=>id),fun k e1 e2=>(hr.off k e2).2 e1,fun z hz=>Nat.lt_of_lt_of_le (h.Flt z hz) hk.size⟩
theorem FP.nil0 (F:Nat→Prop) (w:World):FP F w (.slice none 0 0) []:=⟨none,0,rfl,Nat.le_refl _,Nat.zero_le _,Nat.zero_le _,fun h=>absurd h (Nat.lt_irrefl 0)⟩
theorem ElI.growA {w W:World} {F:Nat→Prop} {av tv:Value} {A T:List (List Nat)} (h:ElI w W F av tv A T) (hn:A.length<1000000) (ty:TypeId) :
  ∃ a c X,(Builtin.append_ #[22,22] ty #[av,.slice (some ⟨W.heap.size,0,none⟩) 1 1]).run Tryz.prog (W.alloc (.cells #[.slice none 0 0] 51))=.ok (.slice a (A.length+1) c) X∧ElI w X F (.slice a (A.length+1) c) tv (A++[[]]) T∧Rg.Kp (fun k=>av.ownBlock=some k) W X:=by
 obtain ⟨a,c,X,r1,r2,r3⟩:=(h.ra.withM (N:=fun k=>tv.ownBlock=some k) (fun k e1 e2=>h.dis k e1 e2)).push (FP.nil0 F W) ⟨none,0,0,rfl⟩ h.Flt (fun k e=>(h.rt.lt k e).2) hn ty;exact ⟨a,c,X,r1,h.kpA r3 r2,r3⟩
theorem ElI.growT {w W:World} {F:Nat→Prop} {av tv:Value} {A T:List (List Nat)} (h:ElI w W F av tv A T) {u:Value} {y:List Nat} (hu:FP F W u y) (hs:∃ a m c,u=.slice a m c) (hn:T.length<1000000) (ty:TypeId) :
  ∃ a c X,(Builtin.append_ #[22,22] ty #[tv,.slice (some ⟨W.heap.size,0,none⟩) 1 1]).run Tryz.prog (W.alloc (.cells #[u] 51))=.ok (.slice a (T.length+1) c) X∧ElI w X F av (.slice a (T.length+1) c) A (T++[y])∧Rg.Kp (fun k=>tv.ownBlock=some k) W X:=by
 obtain ⟨a,c,X,r1,r2,r3⟩:=(h.rt.withM (N:=fun k=>av.ownBlock=some k) (fun k e1 e2=>h.dis k e2 e1)).push hu hs h.Flt (fun k e=>(h.ra.lt k e).2) hn ty;exact ⟨a,c,X,r1,h.kpT r3 r2,r3⟩
theorem ElI.fpA {w W X:World} {F:Nat→Prop} {av tv u:Value} {A T:List (List Nat)} {y:List Nat} (h:ElI w W F av tv A T) (hk:Rg.Kp (fun k=>av.ownBlock=some k) W X) (hy:FP F W u y):FP F X u y:=Rg.FI.kp hy hk (fun z hz e=>(h.ra.off z e).1 hz)
theorem ElI.fpT {w W X:World} {F:Nat→Prop} {av tv u:Value} {A T:List (List Nat)} {y:List Nat} (h:ElI w W F av tv A T) (hk:Rg.Kp (fun k=>tv.ownBlock=some k) W X) (hy:FP F W u y):FP F X u y:=Rg.FI.kp hy hk (fun z hz e=>(h.rt.off z e).1 hz)
theorem ElI.put {w W W3:World} {F:Nat→Prop} {g n c k:Nat} {tv u:Value} {A T:List (List Nat)} {y:List Nat} {cur:Array Value} {us:List Value} (h:ElI w W F (.slice (some ⟨g,0,none⟩) (n+1) c) tv (A++[[]]) T) (hr:Room w.heap.size F W g n c A cur us) (hk:k≤n) (hk3:Rg.Kp (fun z=>z=g) W W3) (h3:W3.heap[g]?=some (.cells (splice cur.toList (k+1) (us.drop k)).toArray 51 (0,0))) (hy:FP F W u y) :
  ElI w (W3.setCell ⟨g,k,none⟩ u) F (.slice (some ⟨g,0,none⟩) (n+1) c) tv (putN A k y) T∧Rg.Kp (fun z=>(Value.slice (some ⟨g,0,none⟩) (n+1) c).ownBlock=some z) W (W3.setCell ⟨g,k,none⟩ u):=by
 obtain ⟨q1,q2⟩:=hr.put (M:=fun z=>tv.ownBlock=some z) h.ra.size ⟨(h.ra.off g rfl).1,h.dis g rfl⟩ hk hk3 h3 hy;have q3:Rg.Kp (fun z=>(Value.slice (some ⟨g,0,none⟩) (n+1) c).ownBlock=some z) W (W3.setCell ⟨g,k,none⟩ u):=q2.weak (fun z e=>by subst e; rfl);exact ⟨h.kpA q3 q1,q3⟩
def ElPost (d:Nat) (gs:List (List Nat)) (most:Nat) (w:World) (e:Ending) (w':World):Prop :=
 ∃ v,e=.returned v∧Below w.heap.size w w'∧((∃ A,Rg.Rows w' v (A.map Ma.ofN)∧AllE d gs A∧A.length≤most)∨(v=.slice none 0 0∧OverE d gs most))

theorem Edcl2 (args:Array Value) (w:World):(callFunc 105 args).run Tryz.prog w=.ok (.enter 105 args) w:=by kernel_rfl
theorem exec_sliceLoP {o:Oper} {a:Act} {w:World} {v r:Value} {k:Nat} (x y:Operand) (ho:o.op=.slice 22 x (some y) none none) (hx:a.eval x=v) (hy:a.eval y=.int .i64 (k:Int)) (hr:(Instr.sliceAt 22 v (some (.int .i64 (k:Int))) none none).run Tryz.prog w=.ok r w) :
  (execOp a.eval o).run Tryz.prog w=.ok (.value r) w:=by
 unfold execOp;simp only [ho,hx,hy,Sem.run_bind,Sem.run_pure,Option.map]
 first | (rw [hr]; rfl) | (erw [hr]; rfl) | simp [hr]
def cutA (g k c:Nat):Addr:=if c=k then ⟨g,0,none⟩ else ⟨g,k,none⟩
theorem cutA_in {g k c:Nat} (h:k<c):cutA g k c=⟨g,k,none⟩:=by unfold cutA; rw [if_neg (by omega)]
theorem run_sliceLoP (w:World) (g n c k:Nat) (h:k≤n) (hc:n≤c):(Instr.sliceAt 22 (.slice (some ⟨g,0,none⟩) n c) (some (.int .i64 (k:Int))) none none).run Tryz.prog w=.ok (.slice (some (cutA g k c)) (n - k) (c - k)) w:=by
 unfold cutA
 by_cases e:c=k
 ·simp [Instr.sliceAt,Instr.slice,run_underlying Tryz.underlying22,Instr.sliceBounds,Instr.sliceBound,asIntOf,h,hc,Addr.add,e]
  try omega
 ·by_cases e2:k=0
  ·subst e2
   simp [Instr.sliceAt,Instr.slice,run_underlying Tryz.underlying22,Instr.sliceBounds,Instr.sliceBound,asIntOf,h,hc,Addr.add,e]
  ·simp [Instr.sliceAt,Instr.slice,run_underlying Tryz.underlying22,Instr.sliceBounds,Instr.sliceBound,asIntOf,h,hc,Addr.add,e,e2]
theorem exec_copy {o:Oper} {a:Act} {w w':World} {v vd vs:Value} (d s:Operand) (dT sT:TypeId) (ho:o.op=.call { callee:=.builtin .copy,args:=#[d,s],argTypes:=#[dT,sT] }) (hd:a.eval d=vd) (hs:a.eval s=vs)
  (hr:(Builtin.copy_ #[dT,sT] o.type #[vd,vs]).run Tryz.prog w=.ok v w'):(execOp a.eval o).run Tryz.prog w=.ok (.value v) w':=by
 unfold execOp;simp only [ho,resolve,invoke,builtin,Sem.run_bind,Sem.run_pure,Result.andThen_ok,List.map_toArray,List.map_cons,List.map_nil,hd,hs,hr]
theorem permSz:(Tryz.prog.info? 51).map (·.size)=some 1:=by kernel_rfl
theorem Room.copy {B:Nat} {F:Nat→Prop} {W:World} {g n c k:Nat} {l:List (List Nat)} {cur:Array Value} {us:List Value} (h:Room B F W g n c l cur us) (hk:k≤n) (ty:TypeId) :
  ∃ v W3,(Builtin.copy_ #[22,22] ty #[.slice (some (cutA g (k+1) c)) (n+1 - (k+1)) (c - (k+1)),.slice (some (cutA g k c)) (n+1 - k) (c - k)]).run Tryz.prog W=.ok v W3 ∧
   W3.heap[g]?=some (.cells (splice cur.toList (k+1) (us.drop k)).toArray 51 (0,0))∧Rg.Kp (fun z=>z=g) W W3:=by
 have hul:=h.ul;have hc:=h.le
 have hlen:(us.drop k).length=n - k:=by rw [List.length_drop,hul]
 rcases Nat.lt_or_ge k n with hlt | hge
 ·have hrun:=run_copy_row (P:=Tryz.prog) W 22 22 ty 51 g (k+1) (n+1 - (k+1)) (c - (k+1)) ⟨g,k,none⟩ (n+1 - k) (c - k) cur 51 (us.drop k) Tryz.underlying22 permSz h.heap (by rw [hlen]; show _=min _ _; omega) h.cell (by rw [hlen,h.size]; omega) (fun u hu=>h.elts.oneCell u (List.mem_of_mem_drop hu))
  refine ⟨_,W.setRow g (cur.toList.take (k+1)++us.drop k++cur.toList.drop (k+1+(us.drop k).length)).toArray,by rw [cutA_in (by omega),cutA_in (by omega)]; exact hrun,?_,⟨rfl,rfl,rfl,by simp [World.setRow],fun j _ hj=>setRow_other W g j _ hj⟩⟩
  simpa [splice] using setRow_heap W g _ _ 51 _ h.heap
 ·have hrun:=run_copy_none (P:=Tryz.prog) W 22 22 ty 51 (some (cutA g (k+1) c)) (some (cutA g k c)) (n+1 - (k+1)) (c - (k+1)) (n+1 - k) (c - k) Tryz.underlying22 permSz (by show min _ _=_; omega)
  refine ⟨_,_,hrun,?_,Rg.Kp.refl _ _⟩;have e:us.drop k=[]:=List.drop_eq_nil_of_le (by omega);rw [h.heap,e];simp [splice]
theorem RowH.one {B:Nat} {F M:Nat→Prop} {W:World} {u:Value} {x:List Nat} (hB:B≤W.heap.size) (hu:FP F W u x) (hs:∃ a m c,u=.slice a m c) (hF:∀ k,F k→k<W.heap.size) (hM:∀ k,M k→k<W.heap.size) :
  RowH B F M (W.alloc (.cells #[u] 51)) (.slice (some ⟨W.heap.size,0,none⟩) 1 1) [x]:=by
 have hb:Below W.heap.size W (W.alloc (.cells #[u] 51)):=(Below.refl _ _).alloc (Nat.le_refl _) _;refine ⟨Nat.le_trans hB hb.size,⟨[u],⟨rfl,.inr ⟨W.heap.size,1,#[u],rfl,hB,by show (W.heap.push _)[W.heap.size]?=_; simp,Nat.le_refl _,by decide,rfl,rfl⟩⟩,?_⟩,fun k e=>?_⟩
 ·exact Rg.FElts.one (Rg.FI.kp hu (Rg.Kp.of_below hb) (fun _ _=>id))
 ·simp only [Value.ownBlock,Option.some.injEq] at e
  subst e;exact ⟨fun h=>Nat.lt_irrefl _ (hF _ h),fun h=>Nat.lt_irrefl _ (hM _ h)⟩
theorem ElI.init (w:World):ElI w w (fun _=>False) (.slice none 0 0) (.slice none 0 0) [] [] :=
 ⟨Below.refl _ _,RowH.nil _ _ _ _ (Nat.le_refl _),RowH.nil _ _ _ _ (Nat.le_refl _),fun k e=>by simp [Value.ownBlock] at e,fun _ h=>h.elim⟩
theorem ElI.newA {w W:World} {F:Nat→Prop} {u:Value} {y:List Nat} (h:ElI w W F (.slice none 0 0) (.slice none 0 0) [] []) (hu:FP F W u y) (hs:∃ a m c,u=.slice a m c) :
  ElI w (W.alloc (.cells #[u] 51)) F (.slice (some ⟨W.heap.size,0,none⟩) 1 1) (.slice none 0 0) [y] [] :=
 ⟨h.bel.alloc h.bel.size _,RowH.one h.bel.size hu hs h.Flt (fun _ e=>e.elim),RowH.nil _ _ _ _ (Nat.le_trans h.bel.size (by simp)),fun k _ e=>by simp [Value.ownBlock] at e,fun z hz=>Nat.lt_of_lt_of_le (h.Flt z hz) (by simp)⟩
theorem ElI.newT {w W:World} {F:Nat→Prop} {av u:Value} {A:List (List Nat)} {y:List Nat} (h:ElI w W F av (.slice none 0 0) A []) (hu:FP F W u y) (hs:∃ a m c,u=.slice a m c) :
  ElI w (W.alloc (.cells #[u] 51)) F av (.slice (some ⟨W.heap.size,0,none⟩) 1 1) A [y]:=by
 have hb:Below W.heap.size W (W.alloc (.cells #[u] 51)):=(Below.refl _ _).alloc (Nat.le_refl _) _;refine ⟨h.bel.alloc h.bel.size _,h.ra.kp (N:=fun _=>False) (Rg.Kp.of_below hb) (fun _ _=>id) (fun _ _=>id),RowH.one h.bel.size hu hs h.Flt (fun _ e=>e.elim),fun k e e2=>?_,fun z hz=>Nat.lt_of_lt_of_le (h.Flt z hz) hb.size⟩;simp only [Value.ownBlock,Option.some.injEq] at e2;subst e2;exact Nat.lt_irrefl _ (h.ra.lt _ e).2
theorem last_or (T:List (List Nat)):T=[]∨∃ T' x,T=T'++[x]:=by
 rcases T.eq_nil_or_concat with h | ⟨l,b,h⟩
 ·exact .inl h
 ·exact .inr ⟨l,b,by simpa using h⟩
theorem Elements_any (d:Nat) (gv:Value) (gs:List (List Nat)) (most:Nat) (w:World) (hd1:1≤d) (hd:d≤64) (hgr:Rg.Rows w gv (gs.map Ma.ofN)) (hG:∀ s∈gs,Gd d s) (hgl:gs.length≤1000) (hm:1≤most) (hm2:most≤100000) :
  Calls Tryz.prog 32 #[.int .i64 d,gv,.int .i64 most] w (ElPost d gs most w):=by
 obtain ⟨ga,gc,hsh,-,-,-,har⟩:=hgr.shape;rw [List.length_map] at hsh;subst hsh;have HGR:=ι hgr;have HG:=ι hG;have EL:=ι (ElI.init w);clear hgr hG har;obtain ⟨F,hF⟩:∃ F:Nat→Prop,(fun _=>False)=F:=⟨_,rfl⟩;rw [hF] at EL;clear hF
 go_enter Tryz.func32,Tryz.ntmps32
 go_upto_region 0 with (fail);refine wp_region_list ?_;refine Rg.la 6 (.slice none 0 0) ?_;go_frame;go_upto_region 1 with (fail);refine wp_region_list ?_;refine Rg.lm 14 (.int .i64 ((d:Nat):Int)) ?_;go_frame;refine list_ask (some 15) rfl rfl _ _ (exec_fn1 101 _ _ rfl rfl (Zkcl0 _ _)) ?_;refine (kitOne_any d w (by omega)).mono ?_;rintro e1 w1 ⟨ov,rfl,hov,hb⟩;obtain ⟨o1,p1,q1,rfl⟩:=FP.shape' (FP.new (F:=fun _=>True) hov) (Cm.gd_one d) hd1;have hov2:=FP.new (F:=F) hov;refine ⟨_,rfl,?_⟩;go_frame;replace EL:=ι (EL.out.up hb);have OV:=ι hov2;generalize Fup F w w1=F1 at *;clear hb;have hel:=EL.out.newA OV.out ⟨_,_,_,rfl⟩;refine Rg.lr 16 (Rg.exec_buildSlice _ _ _ rfl (.slice (some ⟨o1,p1,none⟩) d q1) rfl (run_build1P w1 _ ⟨_,_,_,rfl⟩)) ?_;go_frame;generalize w1.alloc (.cells #[.slice (some ⟨o1,p1,none⟩) d q1] 51)=w2 at *;refine Rg.la 7 (.slice (some ⟨w1.heap.size,0,none⟩) 1 1) ?_;go_frame
 replace EL:=ι hel;clear OV hov hov2 hel;go_upto_region 2 with (fail);refine wp_region_list ?_;refine Rg.lm 17 (.int .i64 ((d:Nat):Int)) ?_;go_frame;refine list_ask (some 18) rfl rfl _ _ (exec_fn1 101 _ _ rfl rfl (Zkcl0 _ _)) ?_;refine (kitOne_any d w2 (by omega)).mono ?_;rintro e1 w3 ⟨ov,rfl,hov,hb⟩;obtain ⟨o2,p2,q2,rfl⟩:=FP.shape' (FP.new (F:=fun _=>True) hov) (Cm.gd_one d) hd1;have hov2:=FP.new (F:=F1) hov;refine ⟨_,rfl,?_⟩;go_frame;replace EL:=ι (EL.out.up hb);have OV:=ι hov2;generalize Fup F1 w2 w3=F2 at *;clear hb;have hel:=EL.out.newT OV.out ⟨_,_,_,rfl⟩;refine Rg.lr 19 (Rg.exec_buildSlice _ _ _ rfl (.slice (some ⟨o2,p2,none⟩) d q2) rfl (run_build1P w3 _ ⟨_,_,_,rfl⟩)) ?_;go_frame;generalize w3.alloc (.cells #[.slice (some ⟨o2,p2,none⟩) d q2] 51)=w4 at *;refine Rg.la 8 (.slice (some ⟨w3.heap.size,0,none⟩) 1 1) ?_;go_frame;replace EL:=ι hel
 clear OV hov hov2 hel;have EO0:=ι (EO.start (d:=d) (gs:=gs) hm);go_wp2
 go_loopw [7,8] (fun av tv wr=>∃ (F:Nat→Prop) (A T:List (List Nat)),Hid (ElI w wr F av tv A T)∧Hid (EO d gs most A T)) (fun av tv _=>2*(most - lenV av)+lenV tv)
 case atStart=>exact ⟨_,_,_,EL,EO0⟩
 case round =>
  clear EL EO0;obtain ⟨F,A,T,EL,EO0⟩:=hrel;obtain ⟨aa,ac,hsh⟩:=EL.out.ra.shape;subst hsh;have HAL:=ι EO0.out.le
  rcases last_or T with rfl | ⟨T,x,rfl⟩
  ·obtain ⟨ta,tc,hsh⟩:=EL.out.rt.shape
   subst hsh;go_upto_region 3 with (fail);refine wp_region_list ?_;refine Rg.lm 20 (.slice ta ([]:List (List Nat)).length tc) ?_;go_frame;refine Rg.lr 21 (exec_len _ _ _ rfl Tryz.underlying22 _ _ _ rfl) ?_;go_frame;refine Rg.lr 22 (exec_bin (R:=.bool false) .gtr _ _ _ rfl rfl rfl (b_gtr _ (decide_eq_false (by decide)))) ?_;go_frame;go_upto_region 18 with (fail);refine wp_region_list ?_;refine Rg.lm 76 (.slice aa A.length ac) ?_;go_frame;refine Rg.la 6 (.slice aa A.length ac) ?_;go_frame;go_wp2;go_ret;exact ⟨_,rfl,EL.out.bel,.inl ⟨A,EL.out.ra.rows (by have:=HAL.out; omega),EO0.out.done HG.out,HAL.out⟩⟩
  ·obtain ⟨ta,tc,hsh⟩:=EL.out.rt.shape
   rw [List.length_append,List.length_singleton] at hsh;subst hsh;obtain ⟨tb,tc2,xv,e1,e2,e3,e4,e5⟩:=EL.out.rt.at (i:=T.length) (by simp);simp only [List.length_append,List.length_singleton,Value.slice.injEq,true_and] at e1;obtain ⟨rfl,rfl⟩:=e1;rw [show (T++[x])[T.length]'(by simp)=x by simp] at e5;have CT:=ι e4;have XV:=ι e5;have HTC:=ι (show T.length≤tc by rw [List.length_append,List.length_singleton] at e2; omega);have HTL:=ι (show T.length<1000000 by have:=EO0.out.tl; have:=HAL.out; simp at *; omega);clear e2 e3 e4 e5;go_upto_region 3 with (fail);refine wp_region_list ?_;refine Rg.lm 20 (.slice (some ⟨tb,0,none⟩) (T.length+1) tc) ?_;go_frame;refine Rg.lr 21 (exec_len _ _ _ rfl Tryz.underlying22 _ _ _ rfl) ?_;go_frame;refine Rg.lr 22 (exec_bin (R:=.bool true) .gtr _ _ _ rfl rfl rfl (b_gtr _ (decide_eq_true (by omega)))) ?_;go_frame;have htl:T.length<1000000:=HTL.out
   go_upto_region 4 with (fail);refine wp_region_list ?_;refine Rg.lm 23 (.slice (some ⟨tb,0,none⟩) (T.length+1) tc) ?_;go_frame;refine Rg.lm 24 (.slice (some ⟨tb,0,none⟩) (T.length+1) tc) ?_;go_frame;refine Rg.lr 25 (exec_len _ _ _ rfl Tryz.underlying22 _ _ _ rfl) ?_;go_frame;refine Rg.lr 26 (exec_bin (R:=.int .i64 ((T.length:Nat):Int)) .sub _ _ _ rfl rfl rfl (b_sub _ (by omega) (by omega))) ?_;go_frame;refine Rg.lr 27 (exec_indexS slPerms _ _ rfl tb (0) ((T.length+1)) tc (T.length) rfl rfl (by omega)) ?_;go_frame;refine Rg.lr 28 (Rg.exec_load (v:=xv) _ _ rfl ⟨tb,0+T.length,none⟩ rfl (Rg.run_loadSl _ _ Tryz.underlying51 ((congrArg (fun k=>wr.cell? ⟨tb,k,none⟩) (Nat.zero_add T.length)).trans CT.out))) ?_;go_frame;refine Rg.la 9 (xv) ?_;go_frame;go_upto_region 5 with (fail);refine wp_region_list ?_;refine Rg.lm 29 (.slice (some ⟨tb,0,none⟩) (T.length+1) tc) ?_;go_frame
   refine Rg.lm 30 (.slice (some ⟨tb,0,none⟩) (T.length+1) tc) ?_;go_frame;refine Rg.lr 31 (exec_len _ _ _ rfl Tryz.underlying22 _ _ _ rfl) ?_;go_frame;refine Rg.lr 32 (exec_bin (R:=.int .i64 ((T.length:Nat):Int)) .sub _ _ _ rfl rfl rfl (b_sub _ (by omega) (by omega))) ?_;go_frame;refine Rg.lr 33 (exec_sliceHiP _ _ rfl rfl rfl (run_sliceHiP _ _ _ _ _ HTC.out)) ?_;go_frame;refine Rg.la 8 (.slice (some ⟨tb,0,none⟩) T.length tc) ?_;go_frame;go_upto_region 6 with (fail);refine wp_region_list ?_;refine Rg.la 10 (.int .i64 ((0:Nat):Int)) ?_;go_frame;have EL1:=ι (EL.out.pop rfl);have EJ0:=ι EO0.out.pop;obtain ⟨M0,hM0⟩:∃ M,Hid (2*(most - A.length)+(T.length+1)=M):=⟨_,ι rfl⟩;have HM:=ι (show 2*(most - A.length)+T.length+1≤M0 by have:=hM0.out; omega);clear EL CT htl;go_wp2
   go_loopw [7,8,10] (fun av tv iv wr=>∃ (i:Nat) (F:Nat→Prop) (A T:List (List Nat)),iv=.int .i64 i∧i≤gs.length∧Hid (ElI w wr F av tv A T)∧Hid (EJ d gs most A T x i)∧Hid (FP F wr xv x)∧Hid (2*(most - A.length)+T.length+1≤M0)) (fun _ _ iv _=>gs.length - (intOf iv).toNat)
   case atStart=>exact ⟨0,_,_,_,rfl,Nat.zero_le _,EL1,EJ0,XV,HM⟩
   case round =>
    clear EL1 EJ0 XV HM HAL EO0 HTC HTL;obtain ⟨i,F,A2,T2,rfl,hi,EL,EJ0,XV,HM⟩:=hrel;obtain ⟨a2,c2,hsh⟩:=EL.out.ra.shape;subst hsh;obtain ⟨t2,tc2,hsh⟩:=EL.out.rt.shape;subst hsh;have HAL:=ι EJ0.out.le
    by_cases hin:i<gs.length
    case neg =>
     go_upto_region 7 with (fail);refine wp_region_list ?_;refine Rg.lm 34 (.int .i64 ((i:Nat):Int)) ?_;go_frame;refine Rg.lm 35 (.slice ga gs.length gc) ?_;go_frame;refine Rg.lr 36 (exec_len _ _ _ rfl Tryz.underlying22 _ _ _ rfl) ?_;go_frame;refine Rg.lr 37 (exec_bin (R:=.bool false) .lss _ _ _ rfl rfl rfl (b_lss _ (decide_eq_false (by omega)))) ?_;go_frame;go_wp2
     go_roundw
     case rel=>exact ⟨_,_,_,EL,ι (EJ0.out.out (by omega))⟩
     case measure =>
      have h1:=HM.out;have h2:=hM0.out;simp only [lenV];omega
    case pos =>
     obtain ⟨gb,go,rfl,hgb,hge⟩:∃ gb go,ga=some ⟨gb,go,none⟩∧gb<w.heap.size∧∀ j (h:j<gs.length),∃ u,w.cell? ⟨gb,go+j,none⟩=some u∧Rg.NP w u gs[j]:=by
      obtain ⟨ga',gc',hsh,-,-,-,har⟩:=HGR.out.shape;rw [List.length_map] at hsh;simp only [Value.slice.injEq,true_and] at hsh;obtain ⟨rfl,rfl⟩:=hsh;obtain ⟨b,o,e,hb,hx⟩:=har (by rw [List.length_map]; omega);refine ⟨b,o,e,hb,fun j hj=>?_⟩;obtain ⟨u,h1,h2⟩:=hx j (by rw [List.length_map]; exact hj);exact ⟨u,h1,by rw [List.getElem_map] at h2; exact h2⟩
     obtain ⟨gu,hgc,hgu⟩:=hge i hin;have CG:=ι ((Below.cell (p:=⟨gb,go+i,none⟩) EL.out.bel hgb).trans hgc);obtain ⟨gi,HGI⟩:∃ z,Hid (gs[i]'hin=z):=⟨_,ι rfl⟩;have GU:=ι (show Rg.NP wr gu gi by rw [← HGI.out]; exact Rg.NP.below hgu EL.out.bel);have GDI:=ι (show Gd d gi by rw [← HGI.out]; exact HG.out _ (List.getElem_mem hin));have GDX:=ι ((Gr.isG HG.out).gd _ (EJ0.out.inG x EJ0.out.xA));obtain ⟨y,hy⟩:∃ y,Hid (Ma.mulN x gi=y):=⟨_,ι rfl⟩;have HIN:=ι hin;clear hgb hge hgc hgu;go_upto_region 7 with (fail);refine wp_region_list ?_;refine Rg.lm 34 (.int .i64 ((i:Nat):Int)) ?_;go_frame;refine Rg.lm 35 (.slice (some ⟨gb,go,none⟩) gs.length gc) ?_;go_frame;refine Rg.lr 36 (exec_len _ _ _ rfl Tryz.underlying22 _ _ _ rfl) ?_;go_frame;refine Rg.lr 37 (exec_bin (R:=.bool true) .lss _ _ _ rfl rfl rfl (b_lss _ (decide_eq_true (by omega)))) ?_;go_frame;go_upto_region 9 with (fail)
     refine wp_region_list ?_;refine Rg.lm 40 (xv) ?_;go_frame;refine Rg.lm 41 (.slice (some ⟨gb,go,none⟩) gs.length gc) ?_;go_frame;refine Rg.lm 42 (.int .i64 ((i:Nat):Int)) ?_;go_frame;refine Rg.lr 43 (exec_indexS slPerms _ _ rfl gb (go) (gs.length) gc (i) rfl rfl hin) ?_;go_frame;refine Rg.lr 44 (Rg.exec_load (v:=gu) _ _ rfl ⟨gb,go+i,none⟩ rfl (Rg.run_loadSl _ _ Tryz.underlying51 CG.out)) ?_;go_frame;refine list_ask (some 45) rfl rfl _ _ (exec_fn 72 _ _ _ rfl rfl rfl (Zlcl4 _ _)) ?_;refine (kitMul_any _ _ x gi wr XV.out.np GU.out (fun z hz=>by rw [GDI.out.2]; exact gd_mem GDX.out hz) (by rw [GDX.out.2]; omega)).mono ?_;rintro e1 w301 ⟨mv,rfl,hmv,hb⟩;rw [hy.out] at hmv;have GDY:=ι (show Gd d y by rw [← hy.out]; exact Cm.gd_mul GDX.out GDI.out);obtain ⟨yb,yo,yc,rfl⟩:=FP.shape' (FP.new (F:=fun _=>True) hmv) GDY.out hd1;have hmv2:=FP.new (F:=F) hmv;refine ⟨_,rfl,?_⟩
     go_frame;replace EL:=ι (EL.out.up hb);replace XV:=ι (XV.out.up hb);have YV:=ι hmv2;generalize Fup F wr w301=F3 at *;clear hb;refine Rg.la 11 (.slice (some ⟨yb,yo,none⟩) d yc) ?_;go_frame;clear hmv hmv2 GU CG;obtain ⟨bm,hbm⟩:∃ b,Hid (decide (Ma.ofN y∈A2.map Ma.ofN)=b):=⟨_,ι rfl⟩;go_upto_region 10 with (fail);refine wp_region_list ?_;refine Rg.lm 47 (.slice a2 A2.length c2) ?_;go_frame;refine Rg.lm 48 (.slice (some ⟨yb,yo,none⟩) d yc) ?_;go_frame;refine list_ask (some 49) rfl rfl _ _ (exec_fn 105 _ _ _ rfl rfl rfl (Edcl2 _ _)) ?_;refine (place_any _ _ (A2.map Ma.ofN) (Ma.ofN y) w301 (EL.out.ra.rows (by have:=HAL.out; omega)) YV.out.np EJ0.out.asc (by rw [List.length_map]; have:=HAL.out; omega)).mono ?_;rintro e1 w302 ⟨k,rfl,hP,hb⟩;rw [hbm.out];have HP:=ι hP;have HKL:=ι (show k≤A2.length by have:=hP.le; rwa [List.length_map] at this);clear hP
     have hkb:k≤100000:=by have:=HKL.out; have:=HAL.out; omega
     refine ⟨_,rfl,?_⟩;go_frame;replace EL:=ι (EL.out.up hb);replace XV:=ι (XV.out.up hb);replace YV:=ι (YV.out.up hb);generalize Fup F3 w301 w302=F4 at *;clear hb;refine Rg.lm 46 (.tuple #[.int .i64 ((k:Nat):Int),.bool bm]) ?_;go_frame;refine Rg.lr 50 (exec_extract (v:=.int .i64 ((k:Nat):Int)) _ _ rfl rfl rfl) ?_;go_frame;refine Rg.lr 51 (exec_extract (v:=.bool bm) _ _ rfl rfl rfl) ?_;go_frame;refine Rg.la 12 (.int .i64 ((k:Nat):Int)) ?_;go_frame;refine Rg.la 13 (.bool bm) ?_;go_frame
     cases bm with
     | true =>
      go_upto_region 11 with (fail);refine wp_region_list ?_;refine Rg.lm 52 (.bool true) ?_;go_frame;go_upto_region 8 with (fail);refine wp_region_list ?_;refine Rg.lm 38 (.int .i64 ((i:Nat):Int)) ?_;go_frame;refine Rg.lr 39 (exec_bin (R:=.int .i64 (((i+1):Nat):Int)) .add _ _ _ rfl rfl rfl (b_add _ (by omega) (by omega))) ?_;go_frame;refine Rg.la 10 (.int .i64 (((i+1):Nat):Int)) ?_;go_frame;have HYA:=ι (show Ma.mulN x (gs[i]'HIN.out)∈A2 by rw [HGI.out,hy.out]; exact memP.1 (of_decide_eq_true hbm.out));go_wp2
      go_roundw
      case rel=>exact ⟨i+1,_,_,_,by go_num,by omega,EL,ι (EJ0.out.hit HIN.out HYA.out),XV,HM⟩
      case measure=>simp [intOf]; omega
     | false =>
      have HYA:=ι (show Ma.mulN x (gs[i]'HIN.out)∉A2 by rw [HGI.out,hy.out]; exact fun e=>of_decide_eq_false hbm.out (memP.2 e));go_upto_region 11 with (fail);refine wp_region_list ?_;refine Rg.lm 52 (.bool false) ?_;go_frame
      by_cases hful:A2.length<most
      case neg =>
       go_upto_region 12 with (fail);refine wp_region_list ?_;refine Rg.lm 53 (.slice a2 A2.length c2) ?_;go_frame;refine Rg.lr 54 (exec_len _ _ _ rfl Tryz.underlying22 _ _ _ rfl) ?_;go_frame;refine Rg.lm 55 (.int .i64 ((most:Nat):Int)) ?_;go_frame;refine Rg.lr 56 (exec_bin (R:=.bool true) .geq _ _ _ rfl rfl rfl (b_geq _ (decide_eq_true (by omega)))) ?_;go_frame;go_upto_region 13 with (fail);refine wp_region_list ?_;refine Rg.la 6 (.slice none 0 0) ?_;go_frame;go_wp2;go_ret;exact ⟨_,rfl,EL.out.bel,.inr ⟨rfl,EJ0.out.over HIN.out HG.out HYA.out hful⟩⟩
      case pos =>
       go_upto_region 12 with (fail);refine wp_region_list ?_;refine Rg.lm 53 (.slice a2 A2.length c2) ?_;go_frame;refine Rg.lr 54 (exec_len _ _ _ rfl Tryz.underlying22 _ _ _ rfl) ?_;go_frame;refine Rg.lm 55 (.int .i64 ((most:Nat):Int)) ?_;go_frame;refine Rg.lr 56 (exec_bin (R:=.bool false) .geq _ _ _ rfl rfl rfl (b_geq _ (decide_eq_false (by omega)))) ?_;go_frame;obtain ⟨a9,c9,X9,r1,hel,hkp⟩:=EL.out.growA (by have:=HAL.out; omega) 22;go_upto_region 14 with (fail);refine wp_region_list ?_;refine Rg.lm 57 (.slice a2 A2.length c2) ?_;go_frame;refine Rg.lr 58 (Rg.exec_buildSlice _ _ _ rfl (.slice none 0 0) rfl (run_build1P w302 _ ⟨_,_,_,rfl⟩)) ?_;go_frame;refine Rg.lr 59 (Rg.exec_append _ _ _ rfl rfl rfl r1) ?_;go_frame;refine Rg.la 7 (.slice a9 (A2.length+1) c9) ?_;go_frame;have hxv:=EL.out.fpA hkp XV.out;have hyv:=EL.out.fpA hkp YV.out;replace EL:=ι hel;replace XV:=ι hxv
       replace YV:=ι hyv;clear hxv hyv hel r1 hkp;obtain ⟨g,c,-,-,e1,-⟩:=EL.out.ra.room;simp only [Value.slice.injEq,true_and] at e1;obtain ⟨rfl,rfl⟩:=e1;go_upto_region 15 with (fail);have hV0:Below X9.heap.size X9 X9.drew:=(Below.refl _ _).drew;replace EL:=ι (EL.out.up hV0);replace XV:=ι (XV.out.up hV0);replace YV:=ι (YV.out.up hV0);generalize Fup F4 X9 X9.drew=F5 at *;clear hV0;refine Rg.Any.begin (S:=Rg.Both 7 (fun _=>True) (fun _:World=>True)) mix ?_;generalize X9.drew=w303 at *;have hS:∀ (l:Array Bool) W,(fun _:World=>True) W→Rg.Both 7 (fun _=>True) (fun _:World=>True) l W:=fun l W h=>⟨.inr trivial,h⟩;have hI:(fun _:World=>True) w303:=trivial;obtain ⟨g',c',cur,us,e1,hroom⟩:=EL.out.ra.room;simp only [Value.slice.injEq,Option.some.injEq,Addr.mk.injEq,true_and,and_true] at e1;obtain ⟨rfl,rfl⟩:=e1;have HRM:=ι hroom
       obtain ⟨v7,W7,r7,h3,hk3⟩:=hroom.copy (k:=k) HKL.out 3;have H3:=ι h3;have HK3:=ι hk3;have HC9:=ι hroom.le;clear hroom h3 hk3;refine Rg.tm 0 7 (.slice (some ⟨g,0,none⟩) (A2.length+1) c9) 60 (hS _ _ hI) ?_;go_frame;refine Rg.tm 1 7 (.int .i64 ((k:Nat):Int)) 61 (hS _ _ hI) ?_;go_frame;refine Rg.tg 2 7 (.int .i64 (((k+1):Nat):Int)) 62 rfl rfl (.inl ⟨rfl,fun w _=>exec_bin (R:=.int .i64 (((k+1):Nat):Int)) .add _ _ _ rfl rfl rfl (b_add _ (by omega) (by omega))⟩) (hS _ _ hI) ?_;go_frame;refine Rg.Any.takeG (i:=3) (t:=7) (v:=(.slice (some (cutA g (k+1) c9)) (A2.length+1 - (k+1)) (c9 - (k+1)))) (some 63) rfl rfl (by kernel_rfl) (by kernel_rfl) (by kernel_rfl) (fun _ _ _ h=>h) rfl (.inl ⟨rfl,fun w _=>exec_sliceLoP _ _ rfl rfl rfl (run_sliceLoP _ _ _ _ _ (Nat.succ_le_succ HKL.out) HC9.out)⟩) (hS _ _ hI) ?_;go_frame;refine Rg.tm 4 7 (.slice (some ⟨g,0,none⟩) (A2.length+1) c9) 64 (hS _ _ hI) ?_;go_frame
       refine Rg.tm 5 7 (.int .i64 ((k:Nat):Int)) 65 (hS _ _ hI) ?_;go_frame;refine Rg.tg 6 7 ((.slice (some (cutA g k c9)) (A2.length+1 - k) (c9 - k))) 66 rfl rfl (.inl ⟨rfl,fun w _=>exec_sliceLoP _ _ rfl rfl rfl (run_sliceLoP _ _ _ _ _ (Nat.le_succ_of_le HKL.out) HC9.out)⟩) (hS _ _ hI) ?_;go_frame;refine Rg.Any.one (i:=7) (by kernel_rfl) (Rg.Any.run (some 67) rfl rfl rfl (exec_copy _ _ _ _ rfl rfl rfl r7) (hS _ _ hI) ?_);go_frame;refine Rg.Any.done (by kernel_rfl) ?_ _;clear hS hI;have hput:=EL.out.put HRM.out HKL.out HK3.out H3.out YV.out
       have hcx:∃ z,W7.cell? ⟨g,0+k,none⟩=some z:=by
        have hsl:k<(splice cur.toList (k+1) (us.drop k)).length:=by
         have hls:cur.toList.length=c9:=(Array.length_toList (xs:=cur)).trans HRM.out.size;rw [length_splice _ _ _ (by rw [List.length_drop,HRM.out.ul,hls]; have:=HC9.out; have:=HKL.out; omega),hls]; have:=HC9.out; have:=HKL.out; omega
        refine ⟨(splice cur.toList (k+1) (us.drop k))[k],?_⟩;rw [Nat.zero_add,cell_of_row _ _ _ _ _ _ H3.out]; simp [hsl]
       obtain ⟨z0,hz0⟩:=hcx;have hf0:W7.frozen? ⟨g,0+k,none⟩=false:=frozen_of_row _ _ _ _ _ H3.out;go_upto_region 16 with (fail);refine wp_region_list ?_;refine Rg.lm 68 (.slice (some ⟨g,0,none⟩) (A2.length+1) c9) ?_;go_frame;refine Rg.lm 69 (.int .i64 ((k:Nat):Int)) ?_;go_frame;refine Rg.lm 70 (.slice (some ⟨yb,yo,none⟩) d yc) ?_;go_frame;refine Rg.lr 71 (exec_indexS slPerms _ _ rfl g (0) ((A2.length+1)) c9 (k) rfl rfl (Nat.lt_succ_of_le HKL.out)) ?_;go_frame;refine Rg.list_skip none rfl rfl (Rg.exec_store _ _ _ rfl _ rfl _ rfl (Rg.run_storeSl _ infoPerm hz0 hf0)) ?_;go_frame;rw [← Nat.zero_add k] at hput
       obtain ⟨hel,hkp⟩:ElI w (W7.setCell ⟨g,0+k,none⟩ (.slice (some ⟨yb,yo,none⟩) d yc)) _ _ _ (putN A2 k y) T2∧Rg.Kp (fun z=>z=g) _ (W7.setCell ⟨g,0+k,none⟩ (.slice (some ⟨yb,yo,none⟩) d yc)):=by
        simp only [Nat.zero_add] at hput ⊢;exact ⟨hput.1,hput.2.weak (fun z e=>by simpa [Value.ownBlock,eq_comm] using e)⟩
       have hxv:=EL.out.fpA (hkp.weak (fun z e=>by subst e; rfl)) XV.out;have hyv:=EL.out.fpA (hkp.weak (fun z e=>by subst e; rfl)) YV.out;generalize W7.setCell ⟨g,0+k,none⟩ (.slice (some ⟨yb,yo,none⟩) d yc)=W8 at *;replace EL:=ι hel;replace XV:=ι hxv;replace YV:=ι hyv;clear hput hel hxv hyv hkp hz0 hf0 HRM H3 HK3 r7;have HTL2:=ι (show T2.length<1000000 by have:=EJ0.out.tl; have:=HAL.out; omega);obtain ⟨a8,c8,X8,r1,hel,hkp⟩:=EL.out.growT YV.out ⟨_,_,_,rfl⟩ HTL2.out 22;go_upto_region 17 with (fail);refine wp_region_list ?_;refine Rg.lm 72 (.slice t2 T2.length tc2) ?_;go_frame;refine Rg.lm 73 (.slice (some ⟨yb,yo,none⟩) d yc) ?_;go_frame;refine Rg.lr 74 (Rg.exec_buildSlice _ _ _ rfl (.slice (some ⟨yb,yo,none⟩) d yc) rfl (run_build1P W8 _ ⟨_,_,_,rfl⟩)) ?_;go_frame;refine Rg.lr 75 (Rg.exec_append _ _ _ rfl rfl rfl r1) ?_;go_frame;refine Rg.la 8 (.slice a8 (T2.length+1) c8) ?_;go_frame
       have hxv:=EL.out.fpT hkp XV.out;replace EL:=ι hel;replace XV:=ι hxv;clear hxv hel r1 hkp YV;go_upto_region 8 with (fail);refine wp_region_list ?_;refine Rg.lm 38 (.int .i64 ((i:Nat):Int)) ?_;go_frame;refine Rg.lr 39 (exec_bin (R:=.int .i64 (((i+1):Nat):Int)) .add _ _ _ rfl rfl rfl (b_add _ (by omega) (by omega))) ?_;go_frame;refine Rg.la 10 (.int .i64 (((i+1):Nat):Int)) ?_;go_frame;have hej:=EJ0.out.new HIN.out HG.out HYA.out hful (by rw [HGI.out,hy.out]; exact HP.out);rw [HGI.out,hy.out] at hej;have HEJ:=ι hej;have HM2:=ι (show 2*(most - (putN A2 k y).length)+(T2++[y]).length+1≤M0 by rw [len_putN HKL.out,List.length_append,List.length_singleton]; have:=HM.out; omega);clear hej;go_wp2
       go_roundw
       case rel=>exact ⟨i+1,_,_,_,by go_num,by omega,EL,HEJ,XV,HM2⟩
       case measure=>simp [intOf]; omega
end Go.Proofs.YthehbckogieimaaGreat

namespace Go.Proofs.YthehbckogieimaaGreat
open Go.Proofs
open Go.Proofs.Cm (Gr Gd IsChain IsG St Fx ap Lst)
def mulAll (r A:List (List Nat)):List (List Nat):=r.flatMap fun u=>A.map (Ma.mulN u)
theorem len_mulAll (r A:List (List Nat)):(mulAll r A).length=r.length*A.length:=by
 unfold mulAll
 induction r with
 | nil=>simp
 | cons u r ih=>rw [List.flatMap_cons,List.length_append,ih,List.length_map,List.length_cons,Nat.succ_mul,Nat.add_comm]
theorem mem_mulAll {r A:List (List Nat)} {x:List Nat}:x∈mulAll r A↔∃ u∈r,∃ z∈A,Ma.mulN u z=x:=by
 unfold mulAll;simp only [List.mem_flatMap,List.mem_map]
def prodK (n:Nat) (R:List (List (List Nat))):Nat→List (List Nat)
 | 0=>[Ma.oneN n]
 | i+1=>mulAll (R.getD i []) (prodK n R i)
structure PK (n:Nat) (H:List Nat→Prop) (i:Nat) (L:List (List Nat)):Prop where
 inH:∀ z∈L,H z
 all:∀ x,H x→∃ s z,St H i s∧z∈L∧x=Ma.mulN s z
 sep:∀ z z' s s',z∈L→z'∈L→St H i s→St H i s'→Ma.mulN s z=Ma.mulN s' z'→z=z'
 nd:L.Nodup
theorem PK.zero {n:Nat} {H:List Nat→Prop} (hH:IsG n H):PK n H 0 [Ma.oneN n] :=
 ⟨fun z hz=>by rw [List.mem_singleton] at hz; subst hz; exact hH.one,fun x hx=>⟨x,Ma.oneN n,⟨hx,fun j hj=>absurd hj (Nat.not_lt_zero _)⟩,by simp,(Cm.mul_one (hH.gd x hx)).symm⟩,fun z z' _ _ hz hz' _ _ _=>by rw [List.mem_singleton] at hz hz'; rw [hz,hz'],by simp⟩
theorem rep_at {n:Nat} {H:List Nat→Prop} {O:List (List Nat)} {R:List (List (List Nat))} (h:IsChain n H O R) {i:Nat} (hi:i<n) {k:Nat} (hk:k<(R.getD i []).length):Lst n (fun z=>St H i z∧ap z i=(O.getD i []).getD k 0) (R.getD i [])[k]:=by
 have:=h.rep i k hi (by rw [← h.len i hi]; exact hk)
 rwa [Cm.getD_in hk] at this
theorem rep_mem {n:Nat} {H:List Nat→Prop} {O:List (List Nat)} {R:List (List (List Nat))} (h:IsChain n H O R) {i:Nat} (hi:i<n) {u:List Nat} (hu:u∈R.getD i []):Lst n (fun z=>St H i z∧ap z i=ap u i) u:=by
 obtain ⟨k,hk,rfl⟩:=List.getElem_of_mem hu;have:=rep_at h hi hk;have e:=this.1.2;rw [← e] at this;exact this
theorem rep_of {n:Nat} {H:List Nat→Prop} {O:List (List Nat)} {R:List (List (List Nat))} (h:IsChain n H O R) {i:Nat} (hi:i<n) {s:List Nat} (hs:St H i s):∃ u∈R.getD i [],St H i u∧ap u i=ap s i:=by
 obtain ⟨k,hk,e⟩:=List.getElem_of_mem ((h.orb i (ap s i) hi).2 ⟨s,hs,rfl⟩)
 have hk2:k<(R.getD i []).length:=by rw [h.len i hi]; exact hk
 have h1:=(rep_at h hi hk2).1;refine ⟨_,List.getElem_mem hk2,h1.1,?_⟩;rw [h1.2,Cm.getD_in hk,e]
theorem rep_pair {n:Nat} {H:List Nat→Prop} {O:List (List Nat)} {R:List (List (List Nat))} (h:IsChain n H O R) {i:Nat} (hi:i<n):(R.getD i []).Pairwise (fun u v=>ap u i<ap v i):=by
 rw [List.pairwise_iff_getElem];intro a b ha hb hab
 have ha2:a<(O.getD i []).length:=by rw [← h.len i hi]; exact ha
 have hb2:b<(O.getD i []).length:=by rw [← h.len i hi]; exact hb
 rw [(rep_at h hi ha).1.2,(rep_at h hi hb).1.2,Cm.getD_in ha2,Cm.getD_in hb2];exact (List.pairwise_iff_getElem.1 (h.asc i hi)) a b ha2 hb2 hab
theorem PK.step {n:Nat} {H:List Nat→Prop} (hH:IsG n H) {O:List (List Nat)} {R:List (List (List Nat))} (h:IsChain n H O R) {i:Nat} (hi:i<n) {L:List (List Nat)} (hL:PK n H i L):PK n H (i+1) (mulAll (R.getD i []) L):=by
 have key:∀ u z u' z' s s',u∈R.getD i []→u'∈R.getD i []→z∈L→z'∈L→St H (i+1) s→St H (i+1) s'→Ma.mulN s (Ma.mulN u z)=Ma.mulN s' (Ma.mulN u' z')→z=z'∧u=u':=by
  intro u z u' z' s s' hu hu' hz hz' hs hs' e;have l1:=rep_mem h hi hu;have l2:=rep_mem h hi hu';have gs:=hH.gd _ hs.1;have gs':=hH.gd _ hs'.1;have gu:=hH.gd _ l1.1.1.1;have gu':=hH.gd _ l2.1.1.1;rw [← Cm.mul_assoc gs gu,← Cm.mul_assoc gs' gu'] at e;have a1:St H i (Ma.mulN s u):=⟨hH.mul _ _ hs.1 l1.1.1.1,Fx.mul gs (Nat.le_of_lt hi) (hs.2.mono (Nat.le_succ _)) l1.1.1.2⟩;have a2:St H i (Ma.mulN s' u'):=⟨hH.mul _ _ hs'.1 l2.1.1.1,Fx.mul gs' (Nat.le_of_lt hi) (hs'.2.mono (Nat.le_succ _)) l2.1.1.2⟩;have ez:=hL.sep z z' _ _ hz hz' a1 a2 e;subst ez;have gz:=hH.gd _ (hL.inH z hz);have e2:=congrArg (fun t=>Ma.mulN t (Ma.invN z)) e;simp only [Cm.mul_cancel_inv (Cm.gd_mul gs gu) gz,Cm.mul_cancel_inv (Cm.gd_mul gs' gu') gz] at e2;have e3:=congrArg (fun t=>ap t i) e2;simp only [Cm.ap_mul gs hi,Cm.ap_mul gs' hi,hs.2 i (Nat.lt_succ_self _),hs'.2 i (Nat.lt_succ_self _)] at e3
  rw [← e3] at l2;exact ⟨rfl,l1.uniq l2⟩
 refine ⟨fun y hy=>?_,fun x hx=>?_,fun y y' s s' hy hy' hs hs' e=>?_,?_⟩
 ·obtain ⟨u,hu,z,hz,rfl⟩:=mem_mulAll.1 hy
  exact hH.mul _ _ (rep_mem h hi hu).1.1.1 (hL.inH z hz)
 ·obtain ⟨s,z,hs,hz,rfl⟩:=hL.all x hx
  obtain ⟨u,hu,su,eu⟩:=rep_of h hi hs;have gs:=hH.gd _ hs.1;have gu:=hH.gd _ su.1;refine ⟨Ma.mulN s (Ma.invN u),Ma.mulN u z,⟨hH.mul _ _ hs.1 (hH.inv _ su.1),fun j hj=>?_⟩,mem_mulAll.2 ⟨u,hu,z,hz,rfl⟩,?_⟩
  ·rw [Cm.ap_mul gs (by omega)]
   rcases Nat.lt_or_ge j i with e | e
   ·rw [hs.2 j e]
    exact Fx.inv gu (Nat.le_of_lt hi) su.2 j e
   ·obtain rfl:j=i:=by omega
    rw [← eu];exact Cm.ap_inv gu hi
  ·rw [← Cm.mul_assoc (Cm.gd_mul gs (Cm.gd_inv gu)) gu,Cm.mul_inv_cancel gs gu]
 ·obtain ⟨u,hu,z,hz,rfl⟩:=mem_mulAll.1 hy
  obtain ⟨u',hu',z',hz',rfl⟩:=mem_mulAll.1 hy';obtain ⟨rfl,rfl⟩:=key u z u' z' s s' hu hu' hz hz' hs hs' e;rfl
 ·have o1:St H (i+1) (Ma.oneN n):=⟨hH.one,Fx.one (by omega)⟩
  have gm:∀ u∈R.getD i [],∀ z∈L,Gd n (Ma.mulN u z):=fun u hu z hz=>Cm.gd_mul (hH.gd _ (rep_mem h hi hu).1.1.1) (hH.gd _ (hL.inH z hz))
  have k2:∀ u∈R.getD i [],∀ u'∈R.getD i [],∀ z∈L,∀ z'∈L,Ma.mulN u z=Ma.mulN u' z'→z=z'∧u=u':=fun u hu u' hu' z hz z' hz' e =>
   key u z u' z' _ _ hu hu' hz hz' o1 o1 (by rw [e])
  unfold mulAll;rw [List.Nodup,List.pairwise_flatMap];refine ⟨fun u hu=>?_,?_⟩
  ·rw [List.pairwise_map]
   exact List.Pairwise.imp_of_mem (fun {a b} ha hb hne e=>hne (k2 u hu u hu a ha b hb e).1) hL.nd
  ·refine List.Pairwise.imp_of_mem (fun {u v} hu hv hlt x hx y hy e=>?_) (rep_pair h hi)
   obtain ⟨z,hz,rfl⟩:=List.mem_map.1 hx;obtain ⟨z',hz',rfl⟩:=List.mem_map.1 hy;have:=(k2 u hu v hv z hz z' hz' e).2;subst this;omega
theorem prodK_PK {n:Nat} {H:List Nat→Prop} (hH:IsG n H) {O:List (List Nat)} {R:List (List (List Nat))} (h:IsChain n H O R):∀ {i:Nat},i≤n→PK n H i (prodK n R i)
 | 0,_=>PK.zero hH
 | i+1,hi=>PK.step hH h hi (prodK_PK hH h (Nat.le_of_lt hi))
theorem prodK_all {n:Nat} {H:List Nat→Prop} (hH:IsG n H) {O:List (List Nat)} {R:List (List (List Nat))} (h:IsChain n H O R):(prodK n R n).Nodup∧∀ x,x∈prodK n R n↔H x:=by
 have hp:=prodK_PK hH h (Nat.le_refl n);refine ⟨hp.nd,fun x=>⟨hp.inH x,fun hx=>?_⟩⟩;obtain ⟨s,z,hs,hz,rfl⟩:=hp.all x hx;have e:=Fx.all (hH.gd _ hs.1) hs.2;rw [e,Cm.one_mul (hH.gd _ (hp.inH z hz))];exact hz
def fall (n:Nat):Nat→Nat
 | 0=>1
 | i+1=>(n - i)*fall n i
theorem prodK_le {n:Nat} {H:List Nat→Prop} (hH:IsG n H) {O:List (List Nat)} {R:List (List (List Nat))} (h:IsChain n H O R):∀ {i:Nat},i≤n→(prodK n R i).length≤fall n i
 | 0,_=>Nat.le_refl 1
 | i+1,hi=>by
  have h1:=prodK_le hH h (i:=i) (Nat.le_of_lt hi);have h2:=chain_len hH h (i:=i) hi;rw [← h.len i hi] at h2;show (mulAll _ _).length≤_;rw [len_mulAll];exact Nat.mul_le_mul h2 h1
theorem fall_720:∀ n,n<7→∀ i,i<7→i≤n→fall n i≤720:=by decide
theorem prodK_720 {n:Nat} {H:List Nat→Prop} (hH:IsG n H) {O:List (List Nat)} {R:List (List (List Nat))} (h:IsChain n H O R) (hn:n≤6) {i:Nat} (hi:i≤n):(prodK n R i).length≤720 :=
 Nat.le_trans (prodK_le hH h hi) (fall_720 n (by omega) i (by omega) hi)
theorem AllE.len {d:Nat} {gs A:List (List Nat)} (hg:∀ s∈gs,Gd d s) {O:List (List Nat)} {R:List (List (List Nat))} (h:IsChain d (Gr d (·∈gs)) O R) (hA:AllE d gs A):A.length=(prodK d R d).length:=by
 obtain ⟨h1,h2⟩:=prodK_all (Gr.isG hg) h;exact Nat.le_antisymm (nodup_le (asc_nodup hA.1) fun x hx=>(h2 x).2 ((hA.2 x).1 hx)) (nodup_le h1 fun x hx=>(hA.2 x).2 ((h2 x).1 hx))
theorem OverE.no {d:Nat} {gs:List (List Nat)} (hg:∀ s∈gs,Gd d s) {O:List (List Nat)} {R:List (List (List Nat))} (h:IsChain d (Gr d (·∈gs)) O R) (hd:d≤6):¬ OverE d gs 720:=by
 rintro ⟨L,h1,h2,h3⟩;obtain ⟨q1,q2⟩:=prodK_all (Gr.isG hg) h;have:=nodup_le h1 fun x hx=>(q2 x).2 (h2 x hx);have:=prodK_720 (Gr.isG hg) h hd (Nat.le_refl d);omega
end Go.Proofs.YthehbckogieimaaGreat

namespace Go.Proofs.YthehbckogieimaaGreat
open Go.RowKit
open Go.Proofs
open Go.Proofs.Cm (Gd Gr ap)
attribute [local irreducible] Go.Calls Go.wpList
theorem kp_below {B:Nat} {M:Nat→Prop} {W0 W X:World} (hb:Below B W0 W) (hB:B≤W.heap.size) (hk:Rg.Kp M W X) (hM:∀ k,M k→B≤k):Below B W0 X :=
 hb.trans ⟨hk.os,hk.tape,hk.output,hk.size,fun k h=>hk.block k (Nat.lt_of_lt_of_le h hB) fun e=>Nat.lt_irrefl _ (Nat.lt_of_lt_of_le h (hM k e))⟩
theorem FP.own {F:Nat→Prop} {W W':World} {v:Value} {x:List Nat} {m:Nat} (h:W'.ownsRow W.heap.size 3 1 v m ((Ma.ofN x).map (Value.int .i64))) (hm:m≤1000000000):FP (Fup F W W') W' v x :=
 Rg.FVals.of (Rg.Vals.of_row h hm) (fun k e=>.inr (h.lt k e))
theorem cell_kp {M:Nat→Prop} {W X:World} {b o:Nat} {u:Value} (h:W.cell? ⟨b,o,none⟩=some u) (hk:Rg.Kp M W X) (hM:¬ M b):X.cell? ⟨b,o,none⟩=some u:=(World.cell?_of_block (a:=⟨b,o,none⟩) (hk.block b (lt_of_cell h) hM)).trans h
end Go.Proofs.YthehbckogieimaaGreat

namespace Go.Proofs.YthehbckogieimaaGreat
open Go.RowKit
open Go.Proofs
open Go.Proofs.Ob
attribute [local irreducible] Go.Calls Go.wpList
structure RowJ (B:Nat) (F M:Nat→Prop) (W:World) (v:Value) (l:List (List Int)):Prop where
 size:B≤W.heap.size
 own:∃ us,W.ownsRow B 36 1 v l.length us∧Rg.FElts F W us l
 off:∀ k,v.ownBlock=some k→¬ F k∧¬ M k
theorem RowJ.lt {B:Nat} {F M:Nat→Prop} {W:World} {v:Value} {l:List (List Int)} (h:RowJ B F M W v l):∀ k,v.ownBlock=some k→B≤k∧k<W.heap.size:=fun k e=>by
 obtain ⟨us,h1,h2⟩:=h.own;exact h1.lt k e
theorem RowJ.shape {B:Nat} {F M:Nat→Prop} {W:World} {v:Value} {l:List (List Int)} (h:RowJ B F M W v l):∃ a c,v=.slice a l.length c:=by
 obtain ⟨us,h1,h2⟩:=h.own;exact Rg.row_shape h1
theorem RowJ.nil (B:Nat) (F M:Nat→Prop) (W:World) (hB:B≤W.heap.size):RowJ B F M W (.slice none 0 0) [] :=
 ⟨hB,⟨[],World.ownsRow_nil _ _ _ _,Rg.FElts.nil _ _⟩,fun k e=>by simp [Value.ownBlock] at e⟩
theorem RowJ.rows {B:Nat} {F M:Nat→Prop} {W:World} {v:Value} {l:List (List Int)} (h:RowJ B F M W v l) (hl:l.length≤1000000000):Rg.Rows W v l:=by
 obtain ⟨us,h1,h2⟩:=h.own;exact Rg.Rows.of_row h1 hl h2.1 (fun i a b=>(h2.2 i a b).ints)
theorem RowJ.kp {B:Nat} {F M N:Nat→Prop} {W W':World} {v:Value} {l:List (List Int)} (h:RowJ B F M W v l) (hk:Rg.Kp N W W') (hF:∀ k,F k→¬ N k) (hN:∀ k,v.ownBlock=some k→¬ N k):RowJ B F M W' v l:=by
 obtain ⟨us,h1,h2⟩:=h.own;exact ⟨Nat.le_trans h.size hk.size,⟨us,rowKp h1 hk (fun k hn e=>hN k e hn),h2.kp hk hF⟩,h.off⟩
theorem RowJ.upk {B:Nat} {F M N:Nat→Prop} {W W':World} {v:Value} {l:List (List Int)} (h:RowJ B F M W v l) (hk:Rg.Kp N W W') (hF:∀ k,F k→¬ N k) (hN:∀ k,N k→M k):RowJ B (Fup F W W') M W' v l:=by
 obtain ⟨us,h1,h2⟩:=h.own;refine ⟨Nat.le_trans h.size hk.size,⟨us,rowKp h1 hk (fun k hn e=>(h.off k e).2 (hN k hn)),(h2.kp hk hF).mono fun k=>.inl⟩,fun k e=>⟨fun g=>?_,(h.off k e).2⟩⟩;have:=(h.lt k e).2
 rcases g with g | g
 ·exact (h.off k e).1 g
 ·omega
theorem RowJ.push {B:Nat} {F M:Nat→Prop} {W:World} {v:Value} {l:List (List Int)} (h:RowJ B F M W v l) {u:Value} {x:List Int} (hu:Rg.FI F W u x) (hs:∃ a m c,u=.slice a m c) (hF:∀ k,F k→k<W.heap.size) (hM:∀ k,M k→k<W.heap.size) (hn:l.length<1000000) (ty:TypeId) :
  ∃ a c X,(Builtin.append_ #[27,27] ty #[v,.slice (some ⟨W.heap.size,0,none⟩) 1 1]).run Tryz.prog (W.alloc (.cells #[u] 36))=.ok (.slice a (l.length+1) c) X∧RowJ B F M X (.slice a (l.length+1) c) (l++[x])∧Rg.Kp (fun k=>v.ownBlock=some k) W X:=by
 obtain ⟨us,h1,h2⟩:=h.own;obtain ⟨a0,m0,c0,rfl⟩:=hs;have hb:Below W.heap.size W (W.alloc (.cells #[.slice a0 m0 c0] 36)):=(Below.refl _ _).alloc (Nat.le_refl _) _;obtain ⟨v',X,r1,r2,r3,r4,a,c,rfl⟩:=app_run (P:=Tryz.prog) slIntss ty (Rg.row_below h1 hb) (Nat.le_trans h.size hb.size) W.heap.size 1 (u:=.slice a0 m0 c0) (by rw [Rg.cellNew]; rfl) rfl hn;have hk:Rg.Kp (fun k=>v.ownBlock=some k) W X:=Rg.Kp.trans (M:=fun k=>v.ownBlock=some k) ((Rg.Kp.of_below hb).weak fun _=>False.elim) (Rg.Kp.of_grown r3 fun _ e=>e) (fun _ _ e=>e);have hg:∀ k,F k→¬ v.ownBlock=some k:=fun k g e=>(h.off k e).1 g;refine ⟨a,c,X,r1,⟨Nat.le_trans h.size hk.size,⟨us++[.slice a0 m0 c0],by rw [List.length_append]; exact r2,FElts.snoc (h2.kp hk hg) (Rg.FI.kp hu hk hg)⟩,fun k e=>?_⟩,hk⟩
 rcases r4 with r4 | r4
 ·exact h.off k (by rw [← r4]; exact e)
 ·rw [r4] at e
  injection e with e
  have e2:(W.alloc (.cells #[.slice a0 m0 c0] 36)).heap.size=W.heap.size+1:=by simp
  exact ⟨fun g=>by have:=hF _ g; omega,fun g=>by have:=hM _ g; omega⟩
theorem RowJ.withM {B:Nat} {F M N:Nat→Prop} {W:World} {v:Value} {l:List (List Int)} (h:RowJ B F M W v l) (hN:∀ k,v.ownBlock=some k→¬ N k):RowJ B F N W v l:=⟨h.size,h.own,fun k e=>⟨(h.off k e).1,hN k e⟩⟩
theorem RowJ.up0 {B:Nat} {F:Nat→Prop} {W W':World} {v:Value} {l:List (List Int)} (h:RowJ B F (fun _=>False) W v l) (hb:Below W.heap.size W W'):RowJ B (Fup F W W') (fun _=>False) W' v l :=
 h.upk (N:=fun _=>False) (Rg.Kp.of_below hb) (fun _ _=>id) (fun _=>id)
theorem RowJ.at {B:Nat} {F M:Nat→Prop} {W:World} {v:Value} {l:List (List Int)} (h:RowJ B F M W v l) {i:Nat} (hi:i<l.length):∃ b c u,v=.slice (some ⟨b,0,none⟩) l.length c∧l.length≤c∧b<W.heap.size∧W.cell? ⟨b,i,none⟩=some u∧Rg.FI F W u l[i]:=by
 obtain ⟨us,h1,h2⟩:=h.own;obtain ⟨-,a,c,rfl,h3,h4,h5⟩:=Rg.own_elts h1 h2;obtain ⟨g,rfl,hg,hx⟩:=h5 (by omega);obtain ⟨u,hu1,hu2⟩:=hx i hi;exact ⟨g,c,u,rfl,h3,hg,hu1,hu2⟩
theorem RowJ.one {B:Nat} {F M:Nat→Prop} {W:World} {u:Value} {x:List Int} (hB:B≤W.heap.size) (hu:Rg.FI F W u x) (hs:∃ a m c,u=.slice a m c) (hF:∀ k,F k→k<W.heap.size) (hM:∀ k,M k→k<W.heap.size) :
  RowJ B F M (W.alloc (.cells #[u] 36)) (.slice (some ⟨W.heap.size,0,none⟩) 1 1) [x]:=by
 have hb:Below W.heap.size W (W.alloc (.cells #[u] 36)):=(Below.refl _ _).alloc (Nat.le_refl _) _;refine ⟨Nat.le_trans hB hb.size,⟨[u],⟨rfl,.inr ⟨W.heap.size,1,#[u],rfl,hB,by show (W.heap.push _)[W.heap.size]?=_; simp,Nat.le_refl _,by decide,rfl,rfl⟩⟩,?_⟩,fun k e=>?_⟩
 ·exact Rg.FElts.one (Rg.FI.kp hu (Rg.Kp.of_below hb) (fun _ _=>id))
 ·simp only [Value.ownBlock,Option.some.injEq] at e
  subst e;exact ⟨fun h=>Nat.lt_irrefl _ (hF _ h),fun h=>Nat.lt_irrefl _ (hM _ h)⟩
end Go.Proofs.YthehbckogieimaaGreat

namespace Go.Proofs.Km
open Go Go.RowKit
open Go.ChangeMaps
structure KT (P:Program) (t k e v:TypeId) (n:Nat) (z:Value):Prop where
 ht:P.underlying t=some (.map k v)
 hk:P.underlying k=some (.array n e)
 he:P.underlying e=some (.int .u8)
 hs:∀ w,(sizeOf e).run P w=.ok 1 w
 hz:∀ w,(zeroValue v).run P w=.ok z w
def keyV (l:List UInt8):Value:=.agg (l.map Go.Extern.Stop.cell).toArray
def KMap (w:World) (r:Nat) (m:List (List UInt8 × Value)):Prop :=
 ∃ es clock,w.heap[r]?=some (.map es clock)∧es.toList.map (fun e=>(e.key,e.val))=m.map (fun x=>(keyV x.1,x.2))
theorem KMap.lt {w:World} {r:Nat} {m:List (List UInt8 × Value)} (h:KMap w r m):r<w.heap.size:=by
 obtain ⟨es,c,h1,_⟩:=h; exact (Array.getElem?_eq_some_iff.1 h1).1
theorem KMap.of_block {w w':World} {r:Nat} {m:List (List UInt8 × Value)} (h:KMap w r m) (e:w'.heap[r]?=w.heap[r]?):KMap w' r m:=by
 obtain ⟨es,c,h1,h2⟩:=h; exact ⟨es,c,e.trans h1,h2⟩
theorem KMap.below {w w':World} {r:Nat} {m:List (List UInt8 × Value)} (h:KMap w r m) (hb:Below w.heap.size w w'):KMap w' r m:=h.of_block (hb.block r h.lt)
theorem KMap.grown {w w':World} {r:Nat} {m:List (List UInt8 × Value)} {k:Option Nat} (h:KMap w r m) (hg:w.grownBy w' k) (hne:some r≠k):KMap w' r m:=h.of_block (hg.block r h.lt hne)
theorem KMap.new (w:World):KMap (w.alloc (.map #[] 0)) w.heap.size []:=⟨#[],0,by unfold World.alloc; simp,rfl⟩
def look (m:List (List UInt8 × Value)) (k:List UInt8):Option Value:=(m.find? (fun x=>k == x.1)).map (·.2)
section
variable {P:Program} {t k e v:TypeId} {n:Nat} {z:Value}
theorem check_items (T:KT P t k e v n z) (em:Bool) (xs:List UInt8) (hx:xs.length=n) (w:World):(Instr.checkKey em 10000 k (keyV xs)).run P w=.ok () w:=by
 rw [show (10000:Nat)=9999+1 from rfl,keyV,Instr.checkKey];simp only [Sem.run_bind,run_underlying T.hk,Result.andThen_ok,Std.Legacy.Range.forIn_eq_forIn_range',Std.Legacy.Range.size,Nat.sub_zero,Nat.add_sub_cancel,Nat.div_one]
 have hl:∀ i∈List.range' 0 n 1,i<n:=fun i hi=>by simpa using (List.mem_range'_1.1 hi).2
 generalize List.range' 0 n 1=l at hl ⊢
 induction l with
 | nil=>simp
 | cons i l ih =>
  have hi:i<n:=hl i (by simp)
  have px:(part e (xs.map Go.Extern.Stop.cell).toArray (i*1)).run P w=.ok (Go.Extern.Stop.cell (xs.getD i 0)) w:=by
   simp [part,isAgg,run_underlying T.he,List.getD,List.getElem?_eq_getElem (show i<xs.length by omega)]
  have pc:(Instr.checkKey em 9999 e (Go.Extern.Stop.cell (xs.getD i 0))).run P w=.ok () w:=by
   rw [show (9999:Nat)=9998+1 from rfl,Instr.checkKey];simp [Sem.run_bind,run_underlying T.he,Go.Extern.Stop.cell]
  simp only [List.forIn_cons,Sem.run_bind,T.hs,px,pc,Result.andThen_ok,Sem.run_pure];exact ih fun j hj=>hl j (by simp [hj])
theorem ask_items (T:KT P t k e v n z) (w:World) (kb:List UInt8) (hk:kb.length=n):∀ (es:List MapEntry) (m:List (List UInt8 × Value)) (i:Nat),
  es.map (fun e=>(e.key,e.val))=m.map (fun x=>(keyV x.1,x.2))→(∀ x∈m,x.1.length=n) →
  ∃ r,(Instr.findAsking k (keyV kb) es i).run P w=.ok r w∧r.map (·.2)=look m kb
 | [],m,i,h,_=>by
  obtain rfl:m=[]:=by cases m; rfl; simp at h
  exact ⟨none,by simp [Instr.findAsking],rfl⟩
 | e0 :: es,m,i,h,hm=>by
  cases m with
  | nil=>simp at h
  | cons x m =>
   simp only [List.map_cons,List.cons.injEq,Prod.mk.injEq] at h;obtain ⟨⟨h1,h2⟩,h3⟩:=h;have hxl:=hm x (by simp)
   have pe:(Op.equal k (keyV kb) e0.key).run P w=.ok (kb == x.1) w:=by
    rw [h1,Op.equal,Op.maxDepth,keyV,keyV];exact run_equalIn_bytes w 9998 k e n T.hk T.he T.hs kb x.1 hk hxl
   obtain ⟨r,hr,hr2⟩:=ask_items T w kb hk es m (i+1) h3 (fun y hy=>hm y (by simp [hy]));rw [Instr.findAsking];simp only [Sem.run_bind,pe,Result.andThen_ok]
   cases hq:(kb == x.1)
   ·refine ⟨r,by simpa using hr,?_⟩
    rw [hr2]; simp [look,hq]
   ·refine ⟨some (i,e0.val),by simp,?_⟩
    simp [look,hq,h2]
theorem find_items (T:KT P t k e v n z) (w:World) (kb:List UInt8) (hk:kb.length=n) (es:List MapEntry) (m:List (List UInt8 × Value))
  (h:es.map (fun e=>(e.key,e.val))=m.map (fun x=>(keyV x.1,x.2))) (hm:∀ x∈m,x.1.length=n) :
  ∃ r,(Instr.findKey k (keyV kb) es).run P w=.ok r w∧r.map (·.2)=look m kb:=by
 unfold Instr.findKey;simp only [Sem.run_bind,run_underlying T.hk,Result.andThen_ok]
 cases es with
 | nil =>
  obtain rfl:m=[]:=by cases m; rfl; simp at h
  exact ⟨none,by simp [Instr.findNow],rfl⟩
 | cons e0 es =>
  have:Instr.findNow (.array n e) (keyV kb) (e0 :: es) 0=none:=by simp [Instr.findNow,Instr.sameNow]
  rw [this];exact ask_items T w kb hk _ m 0 h hm
theorem lookup_no (T:KT P t k e v n z) {w:World} {r:Nat} {m:List (List UInt8 × Value)} (h:KMap w r m) (hm:∀ x∈m,x.1.length=n) (kb:List UInt8) (hk:kb.length=n) :
  (Instr.lookup t (.map (some r)) (keyV kb) false).run P w=.ok ((look m kb).getD z) w:=by
 obtain ⟨es,c,h1,h2⟩:=h;obtain ⟨q,hq,hq2⟩:=find_items T w kb hk es.toList m h2 hm
 cases q with
 | none =>
  have:look m kb=none:=by rw [← hq2]; rfl
  simp [Instr.lookup,run_underlying T.ht,MapKept.run_getObj_map h1,check_items T _ kb hk,hq,T.hz,Result.andThen,this]
 | some x =>
  have:look m kb=some x.2:=by rw [← hq2]; rfl
  simp [Instr.lookup,run_underlying T.ht,MapKept.run_getObj_map h1,check_items T _ kb hk,hq,Result.andThen,this]
theorem update_new (T:KT P t k e v n z) {w:World} {r:Nat} {m:List (List UInt8 × Value)} (h:KMap w r m) (hm:∀ x∈m,x.1.length=n) (kb:List UInt8) (hk:kb.length=n) (hno:look m kb=none) (val:Value) :
  ∃ w',(Instr.mapUpdate t (.map (some r)) (keyV kb) val).run P w=.ok () w'∧KMap w' r (m++[(kb,val)])∧w.grownBy w' (some r):=by
 obtain ⟨es,c,h1,h2⟩:=h;obtain ⟨q,hq,hq2⟩:=find_items T w kb hk es.toList m h2 hm;rw [hno] at hq2
 have:q=none:=by cases q; rfl; simp at hq2
 subst this;refine ⟨setBlock w r (.map (es.push ⟨keyV kb,val,c⟩) (c+1)),?_,⟨_,_,heap_setBlock_same h1 _,?_⟩,⟨rfl,rfl,rfl,by simp [setBlock],fun i _ hi=>heap_setBlock_other h1 _ (fun e=>hi (by rw [e]))⟩⟩
 ·simp [Instr.mapUpdate,run_underlying T.ht,MapKept.run_getObj_map h1,check_items T _ kb hk,hq,MapKept.run_setObj_map _ h1,Result.andThen,setBlock]
 ·simp [h2]
end
end Go.Proofs.Km

namespace Go.Proofs.YthehbckogieimaaGreat
open Go.RowKit
open Go.Proofs
attribute [local irreducible] Go.Calls
def keyF (p:List Nat) (i:Nat):Value:=.int .u8 ((p.getD i 0:Nat):Int)
def keyC (p:List Nat):Array Value:=(Array.range 64).map (keyF p)
theorem size_keyC (p:List Nat):(keyC p).size=64:=by simp [keyC]
theorem get_keyC (p:List Nat) (i:Nat) (h:i<64):(keyC p)[i]?=some (keyF p i):=by simp [keyC,h]
theorem one_keyC (p:List Nat):(keyC p).all (·.oneCell')=true:=by
 refine Array.all_eq_true_iff_forall_mem.2 (fun v hv=>?_);obtain ⟨i,_,rfl⟩:=Array.mem_map.1 hv;rfl
theorem infoKey:(Tryz.prog.info? 105).map (·.size)=some 64:=by kernel_rfl
theorem keyRow {w:World} {b:Nat} {p:List Nat} {f:Nat→Value} (h:w.rowIs b 105 64 f) (hf:∀ i,i<64→f i=keyF p i):w.heap[b]?=some (.cells (keyC p) 105 (0,0)):=by
 obtain ⟨c,h1,h2,h3⟩:=h
 have:c=keyC p:=by
  apply Array.ext_getElem?
  intro i
  by_cases hi:i<64
  ·rw [get_keyC p i hi,← hf i hi]; exact h3 i hi
  ·rw [Array.getElem?_eq_none (by omega),Array.getElem?_eq_none (by rw [size_keyC]; omega)]
 rw [← this]; exact h1
def kb (p:List Nat):List UInt8:=(List.range 64).map fun i=>UInt8.ofNat (p.getD i 0)
theorem len_kb (p:List Nat):(kb p).length=64:=by simp [kb]
def GK (d:Nat) (p:List Nat):Prop:=p.length=d∧d≤64∧∀ x∈p,x<256
theorem GK.getD {d:Nat} {p:List Nat} (h:GK d p) (i:Nat):p.getD i 0<256:=by
 by_cases hi:i<p.length
 ·rw [Ma.getD_lt hi]; exact h.2.2 _ (List.getElem_mem hi)
 ·rw [List.getD_eq_getElem?_getD,List.getElem?_eq_none (by omega)]; decide
theorem keyC_kb {d:Nat} {p:List Nat} (h:GK d p):Value.agg (keyC p)=Km.keyV (kb p):=by
 unfold Km.keyV
 congr 1
 apply Array.ext_getElem?
 intro i
 by_cases hi:i<64
 ·rw [get_keyC p i hi]
  simp [kb,hi,keyF,Go.Extern.Stop.cell];have:=h.getD i;rw [List.getD_eq_getElem?_getD] at this;omega
 ·rw [Array.getElem?_eq_none (by rw [size_keyC]; omega),Array.getElem?_eq_none (by simp [kb]; omega)]
theorem kb_inj {d:Nat} {p q:List Nat} (hp:GK d p) (hq:GK d q) (h:kb p=kb q):p=q:=by
 apply List.ext_getElem (hp.1.trans hq.1.symm)
 intro i h1 h2
 have hi:i<64:=by have:=hp.1; have:=hp.2.1; omega
 have e:=congrArg (fun l=>l[i]?) h;simp only [kb,List.getElem?_map,List.getElem?_range hi,Option.map_some,Option.some.injEq] at e;have e2:=congrArg UInt8.toNat e;have g1:=hp.getD i; have g2:=hq.getD i;simp only [UInt8.toNat_ofNat',Nat.mod_eq_of_lt g1,Nat.mod_eq_of_lt g2] at e2
 rwa [Ma.getD_lt h1,Ma.getD_lt h2] at e2
theorem kb_beq {d:Nat} {p q:List Nat} (hp:GK d p) (hq:GK d q):(kb p == kb q)=(p == q):=by
 rw [Bool.eq_iff_iff,beq_iff_eq,beq_iff_eq];exact ⟨kb_inj hp hq,fun h=>by rw [h]⟩
theorem kt:Km.KT Tryz.prog 107 105 5 4 64 (.bool false) :=
 ⟨Tryz.underlying107,Tryz.underlying105,Tryz.underlying5,fun w=>by kernel_rfl,fun w=>by kernel_rfl⟩
def seenM (T:List (List Nat)):List (List UInt8 × Value):=T.map fun p=>(kb p,.bool true)
theorem len_seenM (T:List (List Nat)):∀ x∈seenM T,x.1.length=64:=fun x hx=>by
 obtain ⟨y,_,rfl⟩:=List.mem_map.1 hx;exact len_kb _
theorem look_seenM {d:Nat} {p:List Nat} (hp:GK d p):∀ {T:List (List Nat)},(∀ q∈T,GK d q)→Km.look (seenM T) (kb p)=if p∈T then some (.bool true) else none
 | [],_=>by simp [seenM,Km.look]
 | x :: T,h=>by
  have ih:=look_seenM hp (T:=T) (fun y hy=>h y (by simp [hy]));have hx:=h x (by simp);unfold Km.look seenM at *;rw [List.map_cons,List.find?_cons];simp only [kb_beq hp hx]
  cases hb:(p == x)
  ·rw [ih]
   have hne:p≠x:=by simpa using hb
   simp [List.mem_cons,hne]
  ·have he:p=x:=by simpa using hb
   simp [he]
end Go.Proofs.YthehbckogieimaaGreat

namespace Go.Proofs
open Go.Shelf
def Tryz.laysSlF6_f91_ren:Go.Shelf.Ren:=⟨fun | 6=>91 | 15=>174 | 14=>173 | 28=>253 | 29=>254 | 20=>245 | 21=>246 | 22=>247 | 23=>248 | 24=>249 | 25=>250 | 26=>251 | 27=>252 | 46=>302 | 47=>303 | 48=>304 | 49=>305 | 50=>306 | 57=>319 | n=>n,fun | 22=>27 | 24=>36 | 25=>110 | 3=>3 | 39=>185 | 0=>0 | 53=>259 | 55=>261 | 4=>4 | 46=>253 | 45=>252 | 50=>121 | 5=>5 | 9=>9 | 66=>293 | 70=>297 | 76=>307 | 77=>308 | n=>n,fun | n=>n⟩
theorem Tryz.laysSlF6_f91:Go.Proofs.SlLaysF.n6 Tryz.prog Tryz.laysSlF6_f91_ren:={
 mixed:=by kernel_rfl
 f6:=⟨Tryz.f91.name,by decide,Tryz.func91.trans (congrArg some (by kernel_rfl))⟩
 f14:=⟨Tryz.f173.name,by decide,Tryz.func173.trans (congrArg some (by kernel_rfl))⟩
 f15:=Tryz.func174.trans (congrArg some (by kernel_rfl))
 f20:=⟨Tryz.f245.name,by decide,Tryz.func245.trans (congrArg some (by kernel_rfl))⟩
 f21:=⟨Tryz.f246.name,by decide,Tryz.func246.trans (congrArg some (by kernel_rfl))⟩
 f22:=⟨Tryz.f247.name,by decide,Tryz.func247.trans (congrArg some (by kernel_rfl))⟩
 f23:=⟨Tryz.f248.name,by decide,Tryz.func248.trans (congrArg some (by kernel_rfl))⟩
 f24:=⟨Tryz.f249.name,by decide,Tryz.func249.trans (congrArg some (by kernel_rfl))⟩
 f25:=⟨Tryz.f250.name,by decide,Tryz.func250.trans (congrArg some (by kernel_rfl))⟩
 f26:=⟨Tryz.f251.name,by decide,Tryz.func251.trans (congrArg some (by kernel_rfl))⟩
 f27:=⟨Tryz.f252.name,by decide,Tryz.func252.trans (congrArg some (by kernel_rfl))⟩
 f28:=Tryz.func253.trans (congrArg some (by kernel_rfl))
 f29:=Tryz.func254.trans (congrArg some (by kernel_rfl))
 f46:=⟨Tryz.f302.name,by decide,Tryz.func302.trans (congrArg some (by kernel_rfl))⟩
 f47:=Tryz.func303.trans (congrArg some (by kernel_rfl))
 f48:=Tryz.func304.trans (congrArg some (by kernel_rfl))
 f49:=⟨Tryz.f305.name,by decide,Tryz.func305.trans (congrArg some (by kernel_rfl))⟩
 f50:=⟨Tryz.f306.name,by decide,Tryz.func306.trans (congrArg some (by kernel_rfl))⟩
 f57:=⟨Tryz.f319.name,by decide,Tryz.func319.trans (congrArg some (by kernel_rfl))⟩
 t0:=Tryz.underlying0
 a0:=Tryz.isAgg0
 z0:=Tryz.sizeOf0
 v0:=Tryz.zeroValue0
 t3:=Tryz.underlying3
 a3:=Tryz.isAgg3
 z3:=Tryz.sizeOf3
 v3:=Tryz.zeroValue3
 t4:=Tryz.underlying4
 a4:=Tryz.isAgg4
 z4:=Tryz.sizeOf4
 v4:=Tryz.zeroValue4
 t5:=Tryz.underlying5
 a5:=Tryz.isAgg5
 z5:=Tryz.sizeOf5
 v5:=Tryz.zeroValue5
 t9:=Tryz.underlying9
 a9:=Tryz.isAgg9
 z9:=Tryz.sizeOf9
 v9:=Tryz.zeroValue9
 t22:=Tryz.underlying27
 a22:=Tryz.isAgg27
 z22:=Tryz.sizeOf27
 v22:=Tryz.zeroValue27
 a24:=Tryz.isAgg36
 z24:=Tryz.sizeOf36
 t25:=Tryz.underlying110
 a25:=Tryz.isAgg110
 z25:=Tryz.sizeOf110
 v25:=Tryz.zeroValue110
 t39:=Tryz.underlying185
 a39:=Tryz.isAgg185
 z39:=Tryz.sizeOf185
 v39:=Tryz.zeroValue185
 t45:=Tryz.underlying252
 a45:=Tryz.isAgg252
 z45:=Tryz.sizeOf252
 v45:=Tryz.zeroValue252
 t46:=Tryz.underlying253
 a46:=Tryz.isAgg253
 z46:=Tryz.sizeOf253
 v46:=Tryz.zeroValue253
 t50:=Tryz.underlying121
 a50:=Tryz.isAgg121
 z50:=Tryz.sizeOf121
 v50:=Tryz.zeroValue121
 t53:=Tryz.underlying259
 a53:=Tryz.isAgg259
 z53:=Tryz.sizeOf259
 v53:=Tryz.zeroValue259
 t55:=Tryz.underlying261
 a55:=Tryz.isAgg261
 z55:=Tryz.sizeOf261
 v55:=Tryz.zeroValue261
 t66:=Tryz.underlying293
 a66:=Tryz.isAgg293
 z66:=Tryz.sizeOf293
 v66:=Tryz.zeroValue293
 t70:=Tryz.underlying297
 a70:=Tryz.isAgg297
 z70:=Tryz.sizeOf297
 v70:=Tryz.zeroValue297
 t76:=Tryz.underlying307
 a76:=Tryz.isAgg307
 z76:=Tryz.sizeOf307
 v76:=Tryz.zeroValue307
 t77:=Tryz.underlying308
 a77:=Tryz.isAgg308
 z77:=Tryz.sizeOf308
 v77:=Tryz.zeroValue308 }
open Go.RowKit Go.Lib Go.Sort in
theorem Tryz.slices_SortFunc {α:Type} [Inhabited α] (enc:α→Value) (h1:OneCell enc) (cf:α→α→Int) (hO:SWO (ltOf cf)) (g:Nat) (cb:Array Value) (blk off cap:Nat) (d:Array α) (w:World) (eg:∀ args w,(callFunc g args).run Tryz.prog w=.ok (.enter g args) w) (hcmp:CmpLays1 Tryz.prog g cb enc cf blk off d.size w) (hH:Holds enc w blk off d) (hblk:blk<w.heap.size) (hsz:d.size<4611686018427387904) :
  Calls Tryz.prog 91 #[.slice (some ⟨blk,off,none⟩) d.size cap,.func (.func g) #[] cb] w fun e w' =>
   e=.returned (.tuple #[])∧∃ d' n os,PermIn 0 d.size d d'∧SortedIn (ltOf cf) 0 d.size d'∧w'=sortWorld enc w blk off n d' os:=Any.slices_SortFunc Tryz.laysSlF6_f91 enc h1 cf hO g cb blk off cap d w eg hcmp hH hblk hsz
end Go.Proofs

namespace Go.Proofs.YthehbckogieimaaGreat
open Go.RowKit
open Go.Proofs
open Go.Sort
attribute [local irreducible] Go.Calls
def El (F:Nat→Prop) (w:World):={ p:Value × List Int // Rg.FI F w p.1 p.2 }
theorem fi_nil (F:Nat→Prop) (w:World):Rg.FI F w (.slice none 0 0) []:=⟨none,0,rfl,Nat.le_refl _,Nat.zero_le _,Nat.zero_le _,fun h=>absurd h (Nat.lt_irrefl 0)⟩
instance (F:Nat→Prop) (w:World):Inhabited (El F w):=⟨⟨(.slice none 0 0,[]),fi_nil F w⟩⟩
def elV {F:Nat→Prop} {w:World} (p:El F w):Value:=p.1.1
def elC {F:Nat→Prop} {w:World} (p q:El F w):Int:=cmpL p.1.2 q.1.2
theorem elC_lt {F:Nat→Prop} {w:World} (p q:El F w):ltOf elC p q=lessL p.1.2 q.1.2:=cmpL_lt _ _
theorem lessL_n {a b c:List Int} (h:lessL a b=false) (h2:lessL b c=false):lessL a c=false:=by
 by_cases e:a=b
 ·subst e; exact h2
 ·by_cases e2:b=c
  ·subst e2; exact h
  ·have h3:=lessL_trans (lessL_total h2 e2) (lessL_total h e)
   cases h4:lessL a c
   ·rfl
   ·have:=lessL_trans h3 h4
    rw [lessL_irr] at this; cases this
theorem el_swo (F:Nat→Prop) (w:World):SWO (ltOf (elC (F:=F) (w:=w))) where
 irrefl x:=by rw [elC_lt]; exact lessL_irr _
 trans x y z h1 h2:=by rw [elC_lt] at *; exact lessL_trans h1 h2
 ntrans x y z h1 h2:=by rw [elC_lt] at *; exact lessL_n h1 h2
theorem sortWorld_kp {α:Type} [Inhabited α] {enc:α→Value} {w:World} {blk m:Nat} {dk:Array α} {os:Array Obj}:Rg.Kp (fun z=>z=blk) w (sortWorld enc w blk 0 m dk os):=by
 refine ⟨rfl,rfl,rfl,by simp [sortWorld,grow,putRow,mapBlock,Sort.ahead],fun k hk hn=>?_⟩;unfold sortWorld;rw [heap_grow_old _ _ (by simpa [putRow,mapBlock,Sort.ahead] using hk)];have:blk≠k:=fun e=>hn e.symm;simp [putRow,mapBlock,Sort.ahead,Array.getElem?_modify,this]
theorem clCmp (args:Array Value) (w:World):(callFunc 90 args).run Tryz.prog w=.ok (.enter 90 args) w:=by kernel_rfl
theorem sortLL {F:Nat→Prop} {w:World} {blk cap:Nat} {us:List Value} {ll:List (List Int)} (hus:Rg.FElts F w us ll) (hF:¬ F blk) (hc:∀ i (h:i<us.length),w.cell? ⟨blk,i,none⟩=some us[i]∧w.frozen? ⟨blk,i,none⟩=false) (hlt:blk<w.heap.size) (hn:ll.length≤1000000) (hcap:ll.length≤cap) (hcm:cap≤maxLen) :
  Calls Tryz.prog 91 #[.slice (some ⟨blk,0,none⟩) ll.length cap,.func (.func 90) #[] #[]] w fun e w'=>e=.returned (.tuple #[])∧∃ ll',ll'.Perm ll∧ll'.Pairwise (fun a b=>lessL b a=false)∧Rg.Rows w' (.slice (some ⟨blk,0,none⟩) ll.length cap) ll'∧Rg.Kp (fun z=>z=blk) w w':=by
 obtain ⟨d,hd,hde⟩:∃ d:Array (El F w),d.size=ll.length∧∀ i (h:i<d.size) (h2:i<us.length) (h3:i<ll.length),d[i].1=(us[i],ll[i]) :=
  by
   obtain ⟨hl,he⟩:=hus;exact ⟨Array.ofFn (n:=ll.length) fun i=>⟨(us[i.1]'(by rw [hl]; exact i.2),ll[i.1]),he i.1 _ _⟩,Array.size_ofFn,fun i h h2 h3=>congrArg Subtype.val (Array.getElem_ofFn h)⟩
 have hH:Holds elV w blk 0 d:=fun j hj=>by
  have hj2:j<us.length:=by rw [hus.1,← hd]; exact hj
  rw [Nat.zero_add,getElem!_pos d j hj]
  have e:elV d[j]=us[j]:=by unfold elV; rw [hde j hj hj2 (by omega)]
  rw [e];exact hc j hj2
 have hcmp:CmpLays1 Tryz.prog 90 #[] elV elC blk 0 d.size w:=fun m os dk _ x y=>by
  have hk:=sortWorld_kp (enc:=elV) (w:=w) (blk:=blk) (m:=m) (dk:=dk) (os:=os);have hx:=(Rg.FI.kp x.2 hk (fun z hz e=>hF (e▸hz))).ints;have hy:=(Rg.FI.kp y.2 hk (fun z hz e=>hF (e▸hz))).ints;refine (Compare_any _ _ x.1.2 y.1.2 _ hx hy).mono ?_;rintro e w' ⟨h1,h2⟩;exact ⟨h1,0,#[],by rw [h2,grow_empty]; rfl⟩
 have hs:=Tryz.slices_SortFunc elV (fun x=>by obtain ⟨a,c,h,_⟩:=x.2; show x.1.1.oneCell'=true; rw [h]; rfl) elC (el_swo F w) 90 #[] blk 0 cap d w clCmp hcmp hH hlt (by rw [hd]; omega);rw [hd] at hs;refine hs.mono ?_;rintro e w' ⟨rfl,d',m,os,hp,hso,rfl⟩;have hk:=sortWorld_kp (enc:=elV) (w:=w) (blk:=blk) (m:=m) (dk:=d') (os:=os)
 have hd':d'.size=ll.length:=by rw [hp.1,hd]
 have hx1:d'.extract 0 ll.length=d':=by rw [← hd']; simp
 have hx2:d.extract 0 ll.length=d:=by rw [← hd]; simp
 have hh:=SW.holds (W:=sortWorld elV w blk 0 m d' os) ⟨m,os,rfl⟩ hlt hH (by rw [hd',hd]);refine ⟨rfl,d'.toList.map (·.1.2),?_,?_,?_,hk⟩
 ·have h1:=hp.2.2
  rw [hx1,hx2] at h1;have h2:=h1.map (fun p:El F w=>p.1.2)
  have e:d.toList.map (fun p:El F w=>p.1.2)=ll:=by
   apply List.ext_getElem
   ·simp [hd]
   ·intro i h1 h2
    have h3:i<d.size:=by simpa using h1
    rw [List.getElem_map,Array.getElem_toList,hde i h3 (by rw [hus.1]; exact h2) h2]
  rwa [e] at h2
 ·rw [List.pairwise_iff_getElem]
  intro i j hi hj hij;simp only [List.length_map,Array.length_toList] at hi hj;have:=hso i j (Nat.zero_le _) hij (by rw [← hd']; exact hj);rw [elC_lt,getElem!_pos d' j hj,getElem!_pos d' i hi] at this
  simpa using this
 ·refine ⟨d'.toList.map (·.1.1),⟨some ⟨blk,0,none⟩,cap,by simp [hd'],by simp [hd']; exact hcap,hcm,by simp [hd',Rg.big]; omega,fun _=>⟨blk,0,rfl,Nat.lt_of_lt_of_le hlt hk.size,fun i hi=>?_⟩⟩,by simp,fun i h1 h2=>?_⟩
  ·have hi2:i<d'.size:=by simpa using hi
   have:=(hh i hi2).1;rw [this,getElem!_pos d' i hi2];simp [elV]
  ·have hi2:i<d'.size:=by simpa using h1
   have:=(Rg.FI.kp (d'[i]).2 hk (fun z hz e=>hF (e▸hz))).ints;simp only [List.getElem_map,Array.getElem_toList];exact this
end Go.Proofs.YthehbckogieimaaGreat

namespace Go.Proofs.YthehbckogieimaaGreat
open Go.RowKit
open Go.Proofs
open Go.Proofs.Ob
open Go.Proofs.Cm (Gd)
attribute [local irreducible] Go.Calls Go.wpList
structure IB (w:World) (v:Value) (l:List Int):Prop where
 i:Rg.IntsB maxLen w v l
theorem IB.below {w w':World} {v:Value} {l:List Int} (h:IB w v l) (hb:Below w.heap.size w w'):IB w' v l:=⟨Rg.IntsB.below h.i hb⟩
theorem ChAns.zero {w:World} {d:Int} {ll:List (List Int)} {cv:Value} {c:Int} (h:ChAns w d ll cv c) (hc:c≠0):cv=zeroC:=by
 rcases h with ⟨_,h⟩ | ⟨h,_⟩
 ·exact h
 ·exact absurd h hc
theorem gck_good {D:Nat} (h1:1≤D) (h2:D≤64):∀ {gs:List (List Nat)},(∀ s∈gs,Gd D s)→Ma.gck ((D:Nat):Int) (gs.map Ma.ofN)=0
 | [],_=>rfl
 | s :: gs,h=>by
  have g:=h s (List.mem_cons_self ..);have e1:Ma.pchk (Ma.ofN s)=0:=Ma.pchk_ok (by rw [Ma.len_ofN,g.2]; exact h1) (by rw [Ma.len_ofN,g.2]; exact h2) (Ma.okN_ofN g.1)
  have e2:((Ma.ofN s).length:Int)=((D:Nat):Int):=by rw [Ma.len_ofN,g.2]
  show (if Ma.pchk (Ma.ofN s)=0 then (if ((Ma.ofN s).length:Int)=((D:Nat):Int) then Ma.gck ((D:Nat):Int) (gs.map Ma.ofN) else 10) else Ma.pchk (Ma.ofN s))=0;rw [if_pos e1,if_pos e2];exact gck_good h1 h2 (fun x hx=>h x (List.mem_cons_of_mem _ hx))
theorem gchk_good {D:Nat} (h1:1≤D) (h2:D≤64) {gs:List (List Nat)} (hl:gs.length≤16) (h:∀ s∈gs,Gd D s):Ma.gchk ((D:Nat):Int) (gs.map Ma.ofN)=0:=by
 unfold Ma.gchk;rw [if_pos (by omega),if_pos (by rw [List.length_map]; exact hl)];exact gck_good h1 h2 h
end Go.Proofs.YthehbckogieimaaGreat

namespace Go.Proofs.YthehbckogieimaaGreat
open Go.RowKit
open Go.Proofs
open Go.Proofs.Ob
open Go.Proofs.Cm (Gd Gr IsChain)
attribute [local irreducible] Go.Calls Go.wpList
def ElsV (d:Nat) (gs:List (List Nat)) (most:Nat) (w:World) (v:Value):Prop:=(∃ A,Rg.Rows w v (A.map Ma.ofN)∧AllE d gs A∧A.length≤most)∨(v=.slice none 0 0∧OverE d gs most)
theorem ElsV.below {d:Nat} {gs:List (List Nat)} {most:Nat} {w w':World} {v:Value} (h:ElsV d gs most w v) (hb:Below w.heap.size w w'):ElsV d gs most w' v:=by
 rcases h with ⟨A,h1,h2⟩ | h
 ·exact .inl ⟨A,h1.below hb,h2⟩
 ·exact .inr h
theorem Elements_f (d:Nat) (gv:Value) (gs:List (List Nat)) (most:Nat) (w:World) (hd1:1≤d) (hd:d≤64) (hgr:Rg.Rows w gv (gs.map Ma.ofN)) (hG:∀ s∈gs,Gd d s) (hgl:gs.length≤1000) (hm:1≤most) (hm2:most≤100000) :
  Calls Tryz.prog 32 #[.int .i64 d,gv,.int .i64 most] w fun e w'=>∃ v,e=.returned v∧ElsV d gs most w' v∧Below w.heap.size w w' :=
 (Elements_any d gv gs most w hd1 hd hgr hG hgl hm hm2).mono fun _ _ ⟨v,h1,h2,h3⟩=>⟨v,h1,h3,h2⟩

structure C4 (W:World) (b1 o1 b2 o2 b3 o3 b4 o4:Nat) (v1 v2 v3 v4:Value):Prop where
 c1:W.cell? ⟨b1,o1,none⟩=some v1
 c2:W.cell? ⟨b2,o2,none⟩=some v2
 c3:W.cell? ⟨b3,o3,none⟩=some v3
 c4:W.cell? ⟨b4,o4,none⟩=some v4
theorem cell_below {W X:World} {b o:Nat} {u:Value} (h:W.cell? ⟨b,o,none⟩=some u) (hb:Below W.heap.size W X):X.cell? ⟨b,o,none⟩=some u:=(Below.cell (p:=⟨b,o,none⟩) hb (lt_of_cell h)).trans h
theorem C4.below {W X:World} {b1 o1 b2 o2 b3 o3 b4 o4:Nat} {v1 v2 v3 v4:Value} (h:C4 W b1 o1 b2 o2 b3 o3 b4 o4 v1 v2 v3 v4) (hb:Below W.heap.size W X):C4 X b1 o1 b2 o2 b3 o3 b4 o4 v1 v2 v3 v4 :=
 ⟨cell_below h.c1 hb,cell_below h.c2 hb,cell_below h.c3 hb,cell_below h.c4 hb⟩
theorem C4.kp {M:Nat→Prop} {W X:World} {b1 o1 b2 o2 b3 o3 b4 o4:Nat} {v1 v2 v3 v4:Value} (h:C4 W b1 o1 b2 o2 b3 o3 b4 o4 v1 v2 v3 v4) (hk:Rg.Kp M W X) (n1:¬ M b1) (n2:¬ M b2) (n3:¬ M b3) (n4:¬ M b4):C4 X b1 o1 b2 o2 b3 o3 b4 o4 v1 v2 v3 v4 :=
 ⟨cell_kp h.c1 hk n1,cell_kp h.c2 hk n2,cell_kp h.c3 hk n3,cell_kp h.c4 hk n4⟩
theorem ElI.swap {w W:World} {F:Nat→Prop} {av tv:Value} {A T:List (List Nat)} (h:ElI w W F av tv A T):ElI w W F tv (.slice none 0 0) T [] :=
 ⟨h.bel,h.rt,RowH.nil _ _ _ _ h.ra.size,fun k _ e=>by simp [Value.ownBlock] at e,h.Flt⟩
theorem ElI.mono {w0 w W:World} {F:Nat→Prop} {av tv:Value} {A T:List (List Nat)} (h:ElI w W F av tv A T):∀ k,av.ownBlock=some k→w.heap.size≤k:=fun k e=>(h.ra.lt k e).1
structure NpW (w:World) (v:Value) (x:List Nat):Prop where
 np:Rg.NP w v x
theorem NpW.below {w w':World} {v:Value} {x:List Nat} (h:NpW w v x) (hb:Below w.heap.size w w'):NpW w' v x:=⟨Rg.NP.below h.np hb⟩
end Go.Proofs.YthehbckogieimaaGreat

namespace Go.Proofs.YthehbckogieimaaGreat
open Go.RowKit
open Go.Proofs
open Go.Proofs.Ob
open Go.Proofs.Cm (Gd Gr)
attribute [local irreducible] Go.Calls Go.wpList
theorem put_seen {W:World} {r d:Nat} {T:List (List Nat)} {x:List Nat} (h:Km.KMap W r (seenM T)) (hg:∀ q∈T,GK d q) (hx:GK d x) (hn:x∉T) :
  ∃ X,(Instr.mapUpdate 107 (.map (some r)) (.agg (keyC x)) (.bool true)).run Tryz.prog W=.ok () X∧Km.KMap X r (seenM (T++[x]))∧W.grownBy X (some r):=by
 rw [keyC_kb hx];obtain ⟨X,h1,h2,h3⟩:=Km.update_new kt h (len_seenM T) (kb x) (len_kb x) (by rw [look_seenM hx hg,if_neg hn]) (.bool true);exact ⟨X,h1,by unfold seenM at h2 ⊢; rw [List.map_append]; exact h2,h3⟩
theorem look_run {W:World} {r d:Nat} {T:List (List Nat)} {x:List Nat} (h:Km.KMap W r (seenM T)) (hg:∀ q∈T,GK d q) (hx:GK d x) :
  (Instr.lookup 107 (.map (some r)) (.agg (keyC x)) false).run Tryz.prog W=.ok (.bool (decide (x∈T))) W:=by
 rw [keyC_kb hx];have h1:=Km.lookup_no kt h (len_seenM T) (kb x) (len_kb x);rw [look_seenM hx hg] at h1
 by_cases e:x∈T
 ·rw [if_pos e] at h1; rw [decide_eq_true e]; exact h1
 ·rw [if_neg e] at h1; rw [decide_eq_false e]; exact h1
structure SpM (w W:World) (F:Nat→Prop) (r:Nat) (fv:Value) (T:List (List Nat)):Prop where
 bel:Below w.heap.size w W
 row:RowJ w.heap.size F (fun z=>z=r) W fv (T.map Ma.ofN)
 mp:Km.KMap W r (seenM T)
 rlo:w.heap.size≤r
 nF:¬ F r
 Flt:∀ z,F z→z<W.heap.size
theorem SpM.up {w W W':World} {F:Nat→Prop} {r:Nat} {fv:Value} {T:List (List Nat)} (h:SpM w W F r fv T) (hb:Below W.heap.size W W'):SpM w W' (Fup F W W') r fv T :=
 ⟨Rg.acc h.bel hb,h.row.upk (N:=fun _=>False) (Rg.Kp.of_below hb) (fun _ _=>id) (fun _ e=>e.elim),h.mp.below hb,h.rlo,fun g=>by
  rcases g with g | g
  ·exact h.nF g
  ·have:=h.mp.lt; omega,fun z g=>by
  rcases g with g | g
  ·exact Nat.lt_of_lt_of_le (h.Flt z g) hb.size
  ·exact g.2⟩
theorem SpM.put {w W:World} {F:Nat→Prop} {r d:Nat} {fv u:Value} {T:List (List Nat)} {x:List Nat} (h:SpM w W F r fv T) (hg:∀ q∈T,GK d q) (hx:GK d x) (hn:x∉T) (hu:Rg.FI F W u (Ma.ofN x)) (hs:∃ a m c,u=.slice a m c) (hT:T.length<1000000) (ty:TypeId) :
  ∃ X,(Instr.mapUpdate 107 (.map (some r)) (.agg (keyC x)) (.bool true)).run Tryz.prog W=.ok () X ∧
   ∃ a c Y,(Builtin.append_ #[27,27] ty #[fv,.slice (some ⟨X.heap.size,0,none⟩) 1 1]).run Tryz.prog (X.alloc (.cells #[u] 36))=.ok (.slice a (T.length+1) c) Y∧SpM w Y F r (.slice a (T.length+1) c) (T++[x]):=by
 obtain ⟨X,h1,h2,h3⟩:=put_seen h.mp hg hx hn;have hk:Rg.Kp (fun z=>z=r) W X:=Rg.Kp.of_grown h3 (fun k e=>(Option.some.inj e).symm);have hrow:=h.row.kp hk (fun k hF e=>h.nF (e▸hF)) (fun k e e2=>(h.row.off k e).2 e2);have hu2:=Rg.FI.kp hu hk (fun z hF e=>h.nF (e▸hF));obtain ⟨a,c,Y,r1,r2,r3⟩:=hrow.push hu2 hs (fun k g=>Nat.lt_of_lt_of_le (h.Flt k g) hk.size) (fun k e=>by subst e; exact h2.lt) (by rw [List.length_map]; exact hT) ty;rw [List.length_map] at r1 r2;refine ⟨X,h1,a,c,Y,r1,⟨?_,by rw [List.map_append]; exact r2,?_,h.rlo,h.nF,fun z g=>Nat.lt_of_lt_of_le (h.Flt z g) (Nat.le_trans hk.size r3.size)⟩⟩
 ·exact kp_below (kp_below h.bel h.bel.size hk (fun k e=>by subst e; exact h.rlo)) (Nat.le_trans h.bel.size hk.size) r3 (fun k e=>(hrow.lt k e).1)
 ·exact h2.of_block (r3.block r h2.lt (fun e=>(hrow.off r e).2 rfl))
structure KmW (w:World) (r:Nat) (T:List (List Nat)):Prop where
 m:Km.KMap w r (seenM T)
theorem KmW.below {w w':World} {r:Nat} {T:List (List Nat)} (h:KmW w r T) (hb:Below w.heap.size w w'):KmW w' r T:=⟨h.m.below hb⟩
structure FiW (F:Nat→Prop) (w:World) (v:Value) (x:List Nat):Prop where
 fi:Rg.FI F w v (Ma.ofN x)
theorem FiW.up {F:Nat→Prop} {w w':World} {v:Value} {x:List Nat} (h:FiW F w v x) (hb:Below w.heap.size w w'):FiW (Fup F w w') w' v x :=
 ⟨Rg.FI.mono (Rg.FI.kp (M:=fun _=>False) h.fi (Rg.Kp.of_below hb) (fun _ _=>id)) (fun _=>.inl)⟩
theorem SpM.start {w W:World} {u:Value} {x:List Nat} (hb:Below w.heap.size w W) (hm:Km.KMap W w.heap.size (seenM ([]++[x]))) (hu:Rg.NP w u x) (hs:∃ a m c,u=.slice a m c):SpM w (W.alloc (.cells #[u] 36)) (fun z=>z<w.heap.size) w.heap.size (.slice (some ⟨W.heap.size,0,none⟩) 1 1) [x]:=by
 have hfi:Rg.FI (fun z=>z<w.heap.size) W u (Ma.ofN x):=Rg.FI.kp (M:=fun _=>False) (Rg.FI.old hu) (Rg.Kp.of_below hb) (fun _ _=>id);have hbA:Below W.heap.size W (W.alloc (.cells #[u] 36)):=(Below.refl _ _).alloc (Nat.le_refl _) _;exact ⟨hb.alloc hb.size _,RowJ.one hb.size hfi hs (fun k hk=>Nat.lt_of_lt_of_le hk hb.size) (fun k e=>by subst e; exact hm.lt),by simpa using hm.below hbA,Nat.le_refl _,Nat.lt_irrefl _,fun z hz=>Nat.lt_of_lt_of_le hz (Nat.le_trans hb.size hbA.size)⟩

theorem toN1 (x:List Nat):(Ma.ofN x).map Int.toNat=x:=by
 unfold Ma.ofN;rw [List.map_map];exact (List.map_congr_left (fun _ _=>rfl)).trans (List.map_id x)
def AscL (T:List (List Nat)):Prop:=(T.map Ma.ofN).Pairwise fun a b=>lessL b a=false
theorem ofN_toNat {T:List (List Nat)} {z:List Int} (h:z∈T.map Ma.ofN):Ma.ofN (z.map Int.toNat)=z:=by
 obtain ⟨x,_,rfl⟩:=List.mem_map.1 h;rw [toN1]
theorem perm_back {T:List (List Nat)} {ll:List (List Int)} (h:ll.Perm (T.map Ma.ofN)):∃ T':List (List Nat),ll=T'.map Ma.ofN∧T'.Perm T:=by
 refine ⟨ll.map fun z=>z.map Int.toNat,?_,?_⟩
 ·rw [List.map_map]
  have e:ll.map id=ll.map (Ma.ofN ∘ fun z=>z.map Int.toNat):=by
   apply List.map_congr_left
   intro z hz;exact (ofN_toNat (h.mem_iff.1 hz)).symm
  rw [← e,List.map_id]
 ·have h2:=h.map fun z=>z.map Int.toNat
  have e:(T.map Ma.ofN).map (fun z=>z.map Int.toNat)=T:=by
   rw [List.map_map]
   have e:T.map (((fun z:List Int=>z.map Int.toNat)) ∘ Ma.ofN)=T.map id:=by
    apply List.map_congr_left
    intro x _;exact toN1 x
   rw [e,List.map_id]
  rw [e] at h2;exact h2

theorem exec_buildGz {o:Oper} {a:Act} {w:World} (ho:o.op=.build 24 #[]):(execOp a.eval o).run Tryz.prog w=.ok (.value (.agg #[.int .i64 0,.slice none 0 0])) w:=by
 unfold execOp;simp only [ho,Sem.run_bind,Sem.run_pure];simp only [List.map_toArray,List.map_nil]
 have h:(Instr.build 24 #[]).run Tryz.prog w=.ok (.agg #[.int .i64 0,.slice none 0 0]) w:=by kernel_rfl
 first | (rw [h]; rfl) | (erw [h]; rfl)

theorem gg_of {D:Nat} {gs:List (List Nat)} (h:∀ s∈gs,Gd D s):GG D gs:=fun s hs=>h s hs
theorem rows_get {w:World} {a:Option Addr} {n c:Nat} {T:List (List Int)} (h:Rg.Rows w (.slice a n c) T) {i:Nat} (hi:i<T.length):∃ b o ua uc,a=some ⟨b,o,none⟩∧b<w.heap.size∧w.cell? ⟨b,o+i,none⟩=some (.slice ua T[i].length uc)∧Rg.Ints w (.slice ua T[i].length uc) T[i]:=by
 obtain ⟨a',c',e,-,-,-,hx⟩:=h.shape;simp only [Value.slice.injEq] at e;obtain ⟨rfl,rfl,rfl⟩:=e;obtain ⟨b,o,e1,e2,e3⟩:=hx (by omega);obtain ⟨u,h1,h2⟩:=e3 i hi;obtain ⟨ua,uc,e4,-⟩:=Rg.Ints.shape h2;subst e4;exact ⟨b,o,ua,uc,e1,e2,h1,h2⟩
theorem ints_get {w:World} {a:Option Addr} {n c:Nat} {l:List Int} (h:Rg.Ints w (.slice a n c) l) {k:Nat} (hk:k<l.length):∃ b o,a=some ⟨b,o,none⟩∧b<w.heap.size∧w.cell? ⟨b,o+k,none⟩=some (.int .i64 l[k]):=by
 obtain ⟨a',c',e,-,-,-,hx⟩:=h.shape;simp only [Value.slice.injEq] at e;obtain ⟨rfl,rfl,rfl⟩:=e;obtain ⟨b,o,e1,e2,e3⟩:=hx (by omega);exact ⟨b,o,e1,e2,e3 k hk⟩
variable {gs:List (List Nat)} {D:Nat} {O:List (List Int)} {cls:Nat→Nat}
end Go.Proofs.YthehbckogieimaaGreat

namespace Go.Proofs.YthehbckogieimaaGreat
open Go.Proofs
open Go.Proofs.Ob
open Go.Proofs.Cm (Gr IsChain IsG St Fx ap Lst allL)
def uq (gs:List (List Nat)) (D p q:Nat):List Nat:=wprod gs D (wd (tree gs D p) q)
end Go.Proofs.YthehbckogieimaaGreat

namespace Go.Proofs.YthehbckogieimaaGreat
open Go.RowKit
open Go.Proofs
open Go.Proofs.Ob
attribute [local irreducible] Go.Calls Go.wpList
theorem Hccl0 (args:Array Value) (w:World):(callFunc 243 args).run Tryz.prog w=.ok (.enter 243 args) w:=by kernel_rfl
theorem infoIntB:(Tryz.prog.info? 3).map (fun i=>(i.zero,i.size,i.bytes))=some (some (.int .i64 0),1,8):=by kernel_rfl
theorem slForest:Rg.SlT Tryz.prog 177 3 (.int .i64 0) 8:=⟨Tryz.underlying177,infoIntB,rfl,by decide⟩
theorem mkForest (n:Nat) (hn:n≤1000000) (w:World):(Instr.makeSlice 177 (.int .i64 (n:Int)) (.int .i64 (n:Int))).run Tryz.prog w=.ok (.slice (some ⟨w.heap.size,0,none⟩) n n) (w.alloc (.cells (madeCells #[.int .i64 0] n) 3)) :=
 run_make_row' 177 3 (.int .i64 0) 8 Tryz.underlying177 infoIntB rfl .i64 .i64 n (by omega) (by omega) w
theorem mkIntsB (n:Nat) (hn:n≤1000000) (w:World):(Instr.makeSlice 36 (.int .i64 (n:Int)) (.int .i64 (n:Int))).run Tryz.prog w=.ok (.slice (some ⟨w.heap.size,0,none⟩) n n) (w.alloc (.cells (madeCells #[.int .i64 0] n) 3)) :=
 run_make_row' 36 3 (.int .i64 0) 8 Tryz.underlying36 infoIntB rfl .i64 .i64 n (by omega) (by omega) w
theorem run_storeIntB {w:World} {b o:Nat} {u:Value} (x:Int) (h:w.cell? ⟨b,o,none⟩=some u) (f:w.frozen? ⟨b,o,none⟩=false):(storeVar 3 ⟨b,o,none⟩ (.int .i64 x)).run Tryz.prog w=.ok () (w.setCell ⟨b,o,none⟩ (.int .i64 x)):=run_storeInt x h f
theorem exec_maxE {o:Oper} {a:Act} {w:World} {u v r:Int} (x y:Operand) (tys:Array TypeId) (ho:o.op=.call { callee:=.builtin .max,args:=#[x,y],argTypes:=tys }) (hx:a.eval x=.int .i64 u) (hy:a.eval y=.int .i64 v) (hr:(if u<v then v else u)=r):(execOp a.eval o).run Tryz.prog w=.ok (.value (.int .i64 r)) w:=by
 subst hr;unfold execOp;simp [ho,hx,hy,resolve,invoke,builtin,Builtin.max_,Builtin.max2]
theorem exec_minE {o:Oper} {a:Act} {w:World} {u v r:Int} (x y:Operand) (tys:Array TypeId) (ho:o.op=.call { callee:=.builtin .min,args:=#[x,y],argTypes:=tys }) (hx:a.eval x=.int .i64 u) (hy:a.eval y=.int .i64 v) (hr:(if v<u then v else u)=r):(execOp a.eval o).run Tryz.prog w=.ok (.value (.int .i64 r)) w:=by
 subst hr;unfold execOp;simp [ho,hx,hy,resolve,invoke,builtin,Builtin.min_,Builtin.min2]
def rowN (w:World) (b n:Nat) (φ:Nat→Nat):Prop:=w.rowIs b 3 n (fun j=>.int .i64 ((φ j:Nat):Int))
theorem rowN.set {w:World} {b n:Nat} {φ:Nat→Nat} (h:rowN w b n φ) (p v:Nat):rowN (w.setCell ⟨b,p,none⟩ (.int .i64 ((v:Nat):Int))) b n (Bk.upd φ p v) :=
 (World.rowIs.set h p _).congr fun i _=>by
  by_cases e:i=p
  ·subst e; rw [if_pos rfl,Bk.upd_at]
  ·rw [if_neg e,Bk.upd_ne e]
theorem rowN.kp {M:Nat→Prop} {w w':World} {b n:Nat} {φ:Nat→Nat} (h:rowN w b n φ) (hk:Rg.Kp M w w') (hM:¬ M b):rowN w' b n φ:=rowIs_kp h hk hM
theorem rowN.cell {w:World} {b n:Nat} {φ:Nat→Nat} (h:rowN w b n φ) {j y:Nat} (hj:j<n) (e:φ j=y):w.cell? ⟨b,0+j,none⟩=some (.int .i64 ((y:Nat):Int)):=by rw [Nat.zero_add,← e]; exact World.rowIs.cell h hj
theorem rowN.fro {w:World} {b n:Nat} {φ:Nat→Nat} (h:rowN w b n φ) (j:Nat):w.frozen? ⟨b,0+j,none⟩=false:=by rw [Nat.zero_add]; exact World.rowIs.frozen h j
theorem kp_set1 {b:Nat} {w W:World} (h:Rg.Kp (fun z=>z=b) w W) (o:Nat) (v:Value):Rg.Kp (fun z=>z=b) w (W.setCell ⟨b,o,none⟩ v):=Rg.Kp.trans (M:=fun z=>z=b) h (Rg.Kp.of_setCell (M:=fun z=>z=b) (a:=⟨b,o,none⟩) (v:=v) rfl) (fun _ _ e=>e)
theorem root_any (fb n c:Nat) (φ:Nat→Nat) (p:Nat) (w:World) (hrow:rowN w fb n φ) (hfo:Bk.Fo n φ) (hp:p<n) (hn:n≤1000) (hc:n≤c) :
  Calls Tryz.prog 243 #[.slice (some ⟨fb,0,none⟩) n c,.int .i64 ((p:Nat):Int)] w fun e w'=>∃ φ',e=.returned (.int .i64 ((Bk.rt φ p:Nat):Int))∧rowN w' fb n φ'∧Bk.Same n φ φ'∧Rg.Kp (fun z=>z=fb) w w':=by
 have R0:=ι hrow;have HS:=ι (Bk.Same.refl hfo);have K0:=ι (Rg.Kp.refl (fun z=>z=fb) w);obtain ⟨r,hr⟩:∃ r,Hid (Bk.rt φ p=r):=⟨_,ι rfl⟩;rw [hr.out];clear hrow hfo
 go_enter Tryz.func243,Tryz.ntmps243
 go_wp2
 go_loopw [1] (fun v wr=>∃ (q:Nat) (φ':Nat→Nat),v=.int .i64 ((q:Nat):Int)∧q<n∧Hid (rowN wr fb n φ')∧Hid (Bk.Same n φ φ')∧Hid (Bk.rt φ q=r)∧Hid (Rg.Kp (fun z=>z=fb) w wr)) (fun v _=>(intOf v).toNat)
 case atStart=>exact ⟨p,φ,rfl,hp,R0,HS,hr,K0⟩
 case round =>
  clear R0 HS hr K0;obtain ⟨q,φ',rfl,hq,R0,HS,HR,K0⟩:=hrel;have hq1:=HS.out.fo q hq;have hq2:=HS.out.fo (φ' q) (by omega);obtain ⟨y,hy⟩:∃ y,Hid (φ' q=y):=⟨_,ι rfl⟩;rw [hy.out] at hq1 hq2;obtain ⟨z,hz⟩:∃ z,Hid (φ' y=z):=⟨_,ι rfl⟩;rw [hz.out] at hq2
  have hyn:y<n:=by omega
  have C1:=ι (R0.out.cell hq hy.out);have C2:=ι (R0.out.cell hyn hz.out);have F1:=ι (R0.out.fro q)
  by_cases hyq:y=q
  case pos =>
   subst hyq;have HP:=ι (show y=r by rw [← HR.out,← HS.out.rts y hq]; exact (Bk.rt_root hy.out).symm);go_upto_region 1 with (fail);refine wp_region_list ?_;refine Rg.lm 5 (.slice (some ⟨fb,0,none⟩) n c) ?_;go_frame;refine Rg.lm 6 (.int .i64 ((y:Nat):Int)) ?_;go_frame;refine Rg.lr 7 (exec_indexS slForest _ _ rfl fb (0) (n) c (y) rfl rfl hq) ?_;go_frame;refine Rg.lr 8 (Rg.exec_load (v:=.int .i64 ((y:Nat):Int)) _ _ rfl ⟨fb,0+y,none⟩ rfl (run_loadInt C1.out)) ?_;go_frame;refine Rg.lm 9 (.int .i64 ((y:Nat):Int)) ?_;go_frame;refine Rg.lr 10 (exec_bin (R:=.bool false) .neq _ _ _ rfl rfl rfl (b_neqB _ (decide_eq_false (fun h=>h rfl)))) ?_;go_frame;go_upto_region 4 with (fail);refine wp_region_list ?_;refine Rg.lm 25 (.int .i64 ((y:Nat):Int)) ?_;go_frame;refine Rg.la 4 (.int .i64 ((y:Nat):Int)) ?_;go_frame;go_wp2;go_ret;exact ⟨φ',by rw [HP.out]; rfl,R0.out,HS.out,K0.out⟩
  case neg =>
   have hlt:y<q:=by omega
   have HS2:=ι (HS.out.trans (Bk.halve HS.out.fo hq));rw [hy.out,hz.out] at HS2;have hrow2:=rowN.set R0.out q z
   have HR2:=ι (show Bk.rt φ z=r by
    rw [← HS.out.rts z (by omega),← hz.out,Bk.rt_step HS.out.fo hyn,← hy.out,Bk.rt_step HS.out.fo hq,HS.out.rts q hq,HR.out])
   have K2:=ι (kp_set1 K0.out q (.int .i64 ((z:Nat):Int)))
   have hzn:z<n:=by omega
   go_upto_region 1 with (fail);refine wp_region_list ?_;refine Rg.lm 5 (.slice (some ⟨fb,0,none⟩) n c) ?_;go_frame;refine Rg.lm 6 (.int .i64 ((q:Nat):Int)) ?_;go_frame;refine Rg.lr 7 (exec_indexS slForest _ _ rfl fb (0) (n) c (q) rfl rfl hq) ?_;go_frame;refine Rg.lr 8 (Rg.exec_load (v:=.int .i64 ((y:Nat):Int)) _ _ rfl ⟨fb,0+q,none⟩ rfl (run_loadInt C1.out)) ?_;go_frame;refine Rg.lm 9 (.int .i64 ((q:Nat):Int)) ?_;go_frame;refine Rg.lr 10 (exec_bin (R:=.bool true) .neq _ _ _ rfl rfl rfl (b_neqB _ (decide_eq_true (by omega)))) ?_;go_frame;go_upto_region 2 with (fail);refine wp_region_list ?_;refine Rg.lm 11 (.slice (some ⟨fb,0,none⟩) n c) ?_;go_frame;refine Rg.lm 12 (.int .i64 ((q:Nat):Int)) ?_;go_frame;refine Rg.lm 13 (.slice (some ⟨fb,0,none⟩) n c) ?_;go_frame;refine Rg.lm 14 (.slice (some ⟨fb,0,none⟩) n c) ?_;go_frame;refine Rg.lm 15 (.int .i64 ((q:Nat):Int)) ?_;go_frame
   refine Rg.lr 16 (exec_indexS slForest _ _ rfl fb (0) (n) c (q) rfl rfl hq) ?_;go_frame;refine Rg.lr 17 (Rg.exec_load (v:=.int .i64 ((y:Nat):Int)) _ _ rfl ⟨fb,0+q,none⟩ rfl (run_loadInt C1.out)) ?_;go_frame;refine Rg.lr 18 (exec_indexS slForest _ _ rfl fb (0) (n) c (y) rfl rfl hyn) ?_;go_frame;refine Rg.lr 19 (Rg.exec_load (v:=.int .i64 ((z:Nat):Int)) _ _ rfl ⟨fb,0+y,none⟩ rfl (run_loadInt C2.out)) ?_;go_frame;refine Rg.lr 20 (exec_indexS slForest _ _ rfl fb (0) (n) c (q) rfl rfl hq) ?_;go_frame;refine Rg.list_skip none rfl rfl (Rg.exec_store _ _ _ rfl _ rfl _ rfl (run_storeIntB _ C1.out F1.out)) ?_;go_frame;rw [Nat.zero_add] at F1;have hc3:(wr.setCell ⟨fb,0+q,none⟩ (.int .i64 ((z:Nat):Int))).cell? ⟨fb,0+q,none⟩=some (.int .i64 ((z:Nat):Int)):=World.cell?_setCell_same (h:=C1.out) ..;have hz0:0+q=q:=Nat.zero_add q;have R2:=ι (show rowN (wr.setCell ⟨fb,0+q,none⟩ (.int .i64 ((z:Nat):Int))) fb n (Bk.upd φ' q z) by rw [hz0]; exact hrow2)
   have K3:=ι (show Rg.Kp (fun z=>z=fb) w (wr.setCell ⟨fb,0+q,none⟩ (.int .i64 ((z:Nat):Int))) by rw [hz0]; exact K2.out);have C3:=ι hc3;generalize wr.setCell ⟨fb,0+q,none⟩ (.int .i64 ((z:Nat):Int))=w3 at *;clear hrow2 hc3 hz0 K2 R0 K0 C1 C2;go_upto_region 3 with (fail);refine wp_region_list ?_;refine Rg.lm 21 (.slice (some ⟨fb,0,none⟩) n c) ?_;go_frame;refine Rg.lm 22 (.int .i64 ((q:Nat):Int)) ?_;go_frame;refine Rg.lr 23 (exec_indexS slForest _ _ rfl fb (0) (n) c (q) rfl rfl hq) ?_;go_frame;refine Rg.lr 24 (Rg.exec_load (v:=.int .i64 ((z:Nat):Int)) _ _ rfl ⟨fb,0+q,none⟩ rfl (run_loadInt C3.out)) ?_;go_frame;refine Rg.la 1 (.int .i64 ((z:Nat):Int)) ?_;go_frame;go_wp2
   go_roundw
   case rel=>exact ⟨z,_,rfl,hzn,R2,HS2,HR2,K3⟩
   case measure=>simp [intOf]; omega
theorem unite_any (fb n c:Nat) (φ:Nat→Nat) (a b:Nat) (w:World) (hrow:rowN w fb n φ) (hfo:Bk.Fo n φ) (ha:a<n) (hb:b<n) (hn:n≤1000) (hc:n≤c) :
  Calls Tryz.prog 168 #[.slice (some ⟨fb,0,none⟩) n c,.int .i64 ((a:Nat):Int),.int .i64 ((b:Nat):Int)] w fun e w'=>∃ φ' r,e=.returned (.bool r)∧rowN w' fb n φ'∧Bk.Uni n φ φ' a b r∧Rg.Kp (fun z=>z=fb) w w':=by
 have R0:=ι hrow;have HF:=ι hfo;have hla:=Bk.rt_le hfo a ha;have hlb:=Bk.rt_le hfo b hb;obtain ⟨x,hx⟩:∃ x,Hid (Bk.rt φ a=x):=⟨_,ι rfl⟩;obtain ⟨y,hy⟩:∃ y,Hid (Bk.rt φ b=y):=⟨_,ι rfl⟩;rw [hx.out] at hla;rw [hy.out] at hlb
 have hxn:x<n:=by omega
 have hyn:y<n:=by omega
 clear hrow hfo
 go_enter Tryz.func168,Tryz.ntmps168
 go_upto_region 0 with (fail);refine wp_region_list ?_;refine Rg.la 6 (.bool false) ?_;go_frame;go_upto_region 1 with (fail);refine wp_region_list ?_;refine Rg.lm 7 (.slice (some ⟨fb,0,none⟩) n c) ?_;go_frame;refine Rg.lm 8 (.int .i64 ((a:Nat):Int)) ?_;go_frame;refine list_ask (some 9) rfl rfl _ _ (exec_fn 243 _ _ _ rfl rfl rfl (Hccl0 _ _)) ?_;refine (root_any fb n c φ a w R0.out HF.out ha hn hc).mono ?_;rintro e1 w1 ⟨φ1,rfl,h1,h2,h3⟩;rw [hx.out];have R1:=ι h1;have S1:=ι h2;have K1:=ι h3;have h3b:=h3;clear h1 h2 h3;refine ⟨_,rfl,?_⟩;go_frame;clear h3b;refine Rg.lm 10 (.slice (some ⟨fb,0,none⟩) n c) ?_;go_frame;refine Rg.lm 11 (.int .i64 ((b:Nat):Int)) ?_;go_frame;refine list_ask (some 12) rfl rfl _ _ (exec_fn 243 _ _ _ rfl rfl rfl (Hccl0 _ _)) ?_;refine (root_any fb n c φ1 b w1 R1.out S1.out.fo hb hn hc).mono ?_;rintro e1 w2 ⟨φ2,rfl,h1,h2,h3⟩;rw [S1.out.rts b hb,hy.out]
 have R2:=ι h1;have S2:=ι (S1.out.trans h2);have K2:=ι (Rg.Kp.trans (M:=fun z=>z=fb) K1.out h3 (fun _ _ e=>e));have h3b:=h3;clear h1 h2 h3 R1 S1 K1;refine ⟨_,rfl,?_⟩;go_frame;clear h3b;refine Rg.la 1 (.int .i64 ((x:Nat):Int)) ?_;go_frame;refine Rg.la 2 (.int .i64 ((y:Nat):Int)) ?_;go_frame;have HX2:=ι (show Bk.rt φ2 a=x by rw [S2.out.rts a ha,hx.out]);have HY2:=ι (show Bk.rt φ2 b=y by rw [S2.out.rts b hb,hy.out])
 rcases Nat.lt_trichotomy y x with hxy | hxy | hxy
 case inl =>
  skip
  have C1:=ι (R2.out.cell hxn rfl);have F1:=ι (R2.out.fro x);have hrow:=rowN.set R2.out x y;have hu:=Bk.Uni.link1 (a:=a) (b:=b) S2.out.fo ha hb (by rw [HX2.out,HY2.out]; exact hxy);rw [HX2.out,HY2.out] at hu;have HU:=ι (hu.before S2.out ha hb);have K3:=ι (kp_set1 K2.out (0+x) (.int .i64 ((y:Nat):Int)));have hz0:0+x=x:=Nat.zero_add _;have R3:=ι (show rowN (w2.setCell ⟨fb,0+x,none⟩ (.int .i64 ((y:Nat):Int))) fb n (Bk.upd φ2 x y) by rw [hz0]; exact hrow);clear hrow hu hz0;go_upto_region 2 with (fail);refine wp_region_list ?_;refine Rg.lm 13 (.int .i64 ((x:Nat):Int)) ?_;go_frame;refine Rg.lm 14 (.int .i64 ((y:Nat):Int)) ?_;go_frame;refine Rg.lr 15 (exec_bin (R:=.bool false) .eql _ _ _ rfl rfl rfl (b_eql _ (decide_eq_false (by omega)))) ?_;go_frame;go_upto_region 4 with (fail);refine wp_region_list ?_;refine Rg.lm 16 (.slice (some ⟨fb,0,none⟩) n c) ?_;go_frame
  refine Rg.lm 17 (.int .i64 ((x:Nat):Int)) ?_;go_frame;refine Rg.lm 18 (.int .i64 ((y:Nat):Int)) ?_;go_frame;refine Rg.lr 19 (exec_maxE (r:=((x:Nat):Int)) _ _ _ rfl rfl rfl (by split <;> omega)) ?_;go_frame;refine Rg.lm 20 (.int .i64 ((x:Nat):Int)) ?_;go_frame;refine Rg.lm 21 (.int .i64 ((y:Nat):Int)) ?_;go_frame;refine Rg.lr 22 (exec_minE (r:=((y:Nat):Int)) _ _ _ rfl rfl rfl (by split <;> omega)) ?_;go_frame;refine Rg.lr 23 (exec_indexS slForest _ _ rfl fb (0) (n) c (x) rfl rfl hxn) ?_;go_frame;refine Rg.list_skip none rfl rfl (Rg.exec_store _ _ _ rfl _ rfl _ rfl (run_storeIntB _ C1.out F1.out)) ?_;go_frame;go_upto_region 5 with (fail);refine wp_region_list ?_;refine Rg.la 6 (.bool true) ?_;go_frame;go_wp2;go_ret;exact ⟨_,true,rfl,R3.out,HU.out,K3.out⟩
 case inr.inl =>
  subst hxy;have HU:=ι (Bk.Uni.same S2.out ha hb (by rw [hx.out,hy.out]));go_upto_region 2 with (fail);refine wp_region_list ?_;refine Rg.lm 13 (.int .i64 ((y:Nat):Int)) ?_;go_frame;refine Rg.lm 14 (.int .i64 ((y:Nat):Int)) ?_;go_frame;refine Rg.lr 15 (exec_bin (R:=.bool true) .eql _ _ _ rfl rfl rfl (b_eql _ (decide_eq_true rfl))) ?_;go_frame;go_upto_region 3 with (fail);refine wp_region_list ?_;refine Rg.la 6 (.bool false) ?_;go_frame;go_wp2;go_ret;exact ⟨_,false,rfl,R2.out,HU.out,K2.out⟩
 case inr.inr =>
  skip
  have C1:=ι (R2.out.cell hyn rfl);have F1:=ι (R2.out.fro y);have hrow:=rowN.set R2.out y x;have hu:=Bk.Uni.link1 (a:=b) (b:=a) S2.out.fo hb ha (by rw [HX2.out,HY2.out]; exact hxy);rw [HX2.out,HY2.out] at hu;have HU:=ι ((hu.before S2.out hb ha).flip);have K3:=ι (kp_set1 K2.out (0+y) (.int .i64 ((x:Nat):Int)));have hz0:0+y=y:=Nat.zero_add _;have R3:=ι (show rowN (w2.setCell ⟨fb,0+y,none⟩ (.int .i64 ((x:Nat):Int))) fb n (Bk.upd φ2 y x) by rw [hz0]; exact hrow);clear hrow hu hz0;go_upto_region 2 with (fail);refine wp_region_list ?_;refine Rg.lm 13 (.int .i64 ((x:Nat):Int)) ?_;go_frame;refine Rg.lm 14 (.int .i64 ((y:Nat):Int)) ?_;go_frame;refine Rg.lr 15 (exec_bin (R:=.bool false) .eql _ _ _ rfl rfl rfl (b_eql _ (decide_eq_false (by omega)))) ?_;go_frame;go_upto_region 4 with (fail);refine wp_region_list ?_;refine Rg.lm 16 (.slice (some ⟨fb,0,none⟩) n c) ?_;go_frame
  refine Rg.lm 17 (.int .i64 ((x:Nat):Int)) ?_;go_frame;refine Rg.lm 18 (.int .i64 ((y:Nat):Int)) ?_;go_frame;refine Rg.lr 19 (exec_maxE (r:=((y:Nat):Int)) _ _ _ rfl rfl rfl (by split <;> omega)) ?_;go_frame;refine Rg.lm 20 (.int .i64 ((x:Nat):Int)) ?_;go_frame;refine Rg.lm 21 (.int .i64 ((y:Nat):Int)) ?_;go_frame;refine Rg.lr 22 (exec_minE (r:=((x:Nat):Int)) _ _ _ rfl rfl rfl (by split <;> omega)) ?_;go_frame;refine Rg.lr 23 (exec_indexS slForest _ _ rfl fb (0) (n) c (y) rfl rfl hyn) ?_;go_frame;refine Rg.list_skip none rfl rfl (Rg.exec_store _ _ _ rfl _ rfl _ rfl (run_storeIntB _ C1.out F1.out)) ?_;go_frame;go_upto_region 5 with (fail);refine wp_region_list ?_;refine Rg.la 6 (.bool true) ?_;go_frame;go_wp2;go_ret;exact ⟨_,true,rfl,R3.out,HU.out,K3.out⟩
theorem newForest_any (n:Nat) (w:World) (hn:n≤1000) :
  Calls Tryz.prog 167 #[.int .i64 ((n:Nat):Int)] w fun e w'=>∃ fb φ,e=.returned (.slice (some ⟨fb,0,none⟩) n n)∧w.heap.size≤fb∧fb<w'.heap.size∧rowN w' fb n φ∧(∀ i,i<n→φ i=i)∧Below w.heap.size w w':=by
 have hmk:=mkForest n (by omega) w;have hrow:=ι (World.rowIs_made w (.int .i64 0) n 3)
 go_enter Tryz.func167,Tryz.ntmps167
 go_wp2
 go_loopw [9] (fun i wr=>∃ k:Nat,k≤n∧i=.int .i64 k∧Hid (rowN wr w.heap.size n (fun j=>if j<k then j else 0))∧Hid (w.heap.size<wr.heap.size)∧Hid (Below w.heap.size w wr)) (fun i _=>n - (intOf i).toNat)
 case atStart=>exact ⟨0,by omega,rfl,ι (hrow.out.congr (fun i hi=>by simp)),ι (by simp),ι ((Below.refl _ _).alloc (Nat.le_refl _) _)⟩
 case round =>
  obtain ⟨k,hk,rfl,hs,hlt0,hbel⟩:=hrel
  by_cases hlt:k<n
  ·have c1:wr.cell? ⟨w.heap.size,k,none⟩=some (.int .i64 (((if k<k then k else 0:Nat)):Int)):=World.rowIs.cell hs.out hlt
   have f1:wr.frozen? ⟨w.heap.size,k,none⟩=false:=World.rowIs.frozen hs.out k;simp only [Nat.lt_irrefl,if_false] at c1;have hrow2:=rowN.set hs.out k k
   have R2:=ι (World.rowIs.congr hrow2 (g:=fun j=>.int .i64 (((if j<k+1 then j else 0:Nat)):Int)) (fun i _=>by
    show Value.int .i64 ((Bk.upd _ k k i:Nat):Int)=_;unfold Bk.upd
    by_cases e:i=k
    ·subst e; simp
    ·rw [if_neg e]
     dsimp only
     by_cases e2:i<k
     ·rw [if_pos e2,if_pos (by omega)]
     ·rw [if_neg e2,if_neg (by omega)]))
   have HB2:=ι (hbel.out.setCell (p:=⟨w.heap.size,k,none⟩) (Nat.le_refl _) (.int .i64 ((k:Nat):Int)));have HL2:=ι (show w.heap.size<(wr.setCell ⟨w.heap.size,k,none⟩ (.int .i64 ((k:Nat):Int))).heap.size by simpa using hlt0.out);clear hrow2;go_wp2
   go_roundw
   case rel=>exact ⟨k+1,by omega,by go_num,R2,HL2,HB2⟩
   case measure=>simp [intOf]; omega
  ·obtain rfl:k=n:=by omega
   go_wp2;go_ret;exact ⟨_,_,rfl,Nat.le_refl _,hlt0.out,hs.out,fun i hi=>if_pos hi,hbel.out⟩
theorem ifL_push (L:List Nat) (x:Nat) (j:Nat):(if j=L.length then x else if j<L.length then L.getD j 0 else 0)=if j<(L++[x]).length then (L++[x]).getD j 0 else 0:=by
 rw [List.length_append,List.length_singleton]
 by_cases e:j=L.length
 ·subst e; rw [if_pos rfl,if_pos (by omega),Bk.getD_last]
 ·rw [if_neg e]
  by_cases e2:j<L.length
  ·rw [if_pos e2,if_pos (by omega),Bk.getD_snoc e2]
  ·rw [if_neg e2,if_neg (by omega)]
structure LbM (w:World) (fb ob n:Nat) (φ:Nat→Nat) (W:World) (φ':Nat→Nat) (L:List Nat):Prop where
 f:rowN W fb n φ'
 o:rowN W ob n (fun j=>if j<L.length then L.getD j 0 else 0)
 s:Bk.Same n φ φ'
 lb:Bk.LbI n φ' L
 k:Rg.Kp (fun z=>z=fb) w W
 lo:w.heap.size≤ob
theorem LbM.root {w:World} {fb ob n:Nat} {φ:Nat→Nat} {W W':World} {φ' φ2:Nat→Nat} {L:List Nat} (h:LbM w fb ob n φ W φ' L) (hl:L.length≤n) (hne:ob≠fb) (h1:rowN W' fb n φ2) (h2:Bk.Same n φ' φ2) (h3:Rg.Kp (fun z=>z=fb) W W'):LbM w fb ob n φ W' φ2 L :=
 ⟨h1,h.o.kp h3 hne,h.s.trans h2,h.lb.same h2 hl,Rg.Kp.trans (M:=fun z=>z=fb) h.k h3 (fun _ _ e=>e),h.lo⟩
theorem LbM.put {w:World} {fb ob n:Nat} {φ:Nat→Nat} {W:World} {φ':Nat→Nat} {L:List Nat} {x:Nat} (h:LbM w fb ob n φ W φ' L) (hne:ob≠fb) (hx:Bk.LbI n φ' (L++[x])):LbM w fb ob n φ (W.setCell ⟨ob,L.length,none⟩ (.int .i64 ((x:Nat):Int))) φ' (L++[x]):=by
 have hk:Rg.Kp (fun z=>z=ob) W (W.setCell ⟨ob,L.length,none⟩ (.int .i64 ((x:Nat):Int))):=Rg.Kp.of_setCell rfl;refine ⟨h.f.kp hk (fun e=>hne e.symm),?_,h.s,hx,Rg.Kp.trans (M:=fun z=>z=fb) h.k hk (fun k hk' e=>by have:=h.lo; omega),h.lo⟩
 exact World.rowIs.congr (rowN.set h.o L.length x) (fun i _=>by
  show Value.int .i64 ((Bk.upd _ _ _ i:Nat):Int)=_;unfold Bk.upd
  rw [ifL_push])
theorem labels_any (fb n c:Nat) (φ:Nat→Nat) (w:World) (hrow:rowN w fb n φ) (hfo:Bk.Fo n φ) (hfb:fb<w.heap.size) (hn:n≤1000) (hc:n≤c) :
  Calls Tryz.prog 170 #[.slice (some ⟨fb,0,none⟩) n c] w fun e w'=>∃ ob L,e=.returned (.slice (some ⟨ob,0,none⟩) n n)∧w.heap.size≤ob∧ob<w'.heap.size∧rowN w' ob n (fun j=>L.getD j 0)∧Bk.IsLab n (fun i j=>Bk.rt φ i=Bk.rt φ j) L∧Rg.Kp (fun z=>z=fb) w w':=by
 have hmk:=mkIntsB n (by omega) w;have hb0:Below w.heap.size w (w.alloc (.cells (madeCells #[.int .i64 0] n) 3)):=(Below.refl _ _).alloc (Nat.le_refl _) _;have hro:rowN (w.alloc (.cells (madeCells #[.int .i64 0] n) 3)) w.heap.size n (fun j=>if j<([]:List Nat).length then ([]:List Nat).getD j 0 else 0):=(World.rowIs_made w (.int .i64 0) n 3).congr (fun i _=>by simp);have hkp:Rg.Kp (fun z=>z=fb) w (w.alloc (.cells (madeCells #[.int .i64 0] n) 3)):=(Rg.Kp.of_below hb0).weak fun _=>False.elim;have LM:=ι (show LbM w fb w.heap.size n φ (w.alloc (.cells (madeCells #[.int .i64 0] n) 3)) φ [] from ⟨hrow.kp (Rg.Kp.of_below hb0 (M:=fun _=>False)) id,hro,Bk.Same.refl hfo,Bk.LbI.start φ,hkp,Nat.le_refl _⟩);have HNE:=ι (show w.heap.size≠fb by omega);have HFB:=ι hfb;have HMK:=ι hmk;clear hb0 hro hkp hrow hfo hmk
 go_enter Tryz.func170,Tryz.ntmps170
 have hmk:=HMK.out;go_wp2;clear hmk HMK;generalize w.alloc (.cells (madeCells #[.int .i64 0] n) 3)=w0 at *
 go_loopw [4,12] (fun mv iv wr=>∃ (φ':Nat→Nat) (L:List Nat) (i m:Nat),iv=.int .i64 ((i:Nat):Int)∧mv=.int .i64 ((m:Nat):Int)∧i≤n∧Hid (L.length=i∧Bk.mny L 0=m)∧Hid (LbM w fb w.heap.size n φ wr φ' L)) (fun _ iv _=>n - (intOf iv).toNat)
 case atStart=>exact ⟨φ,[],0,0,rfl,rfl,Nat.zero_le _,ι ⟨rfl,rfl⟩,LM⟩
 case round =>
  clear LM;obtain ⟨φ',L,i,m,rfl,rfl,hi,HL,LM⟩:=hrel
  by_cases hin:i<n
  case neg =>
   obtain rfl:i=n:=by omega
   go_wp2;go_ret;refine ⟨_,L,rfl,LM.out.lo,?_,LM.out.o.congr (fun j hj=>by dsimp only; rw [HL.out.1,if_pos hj]),(LM.out.lb.lab HL.out.1 fun a b ha hb=>?_),LM.out.k⟩
   ·obtain ⟨c',h1,_⟩:=LM.out.o
    exact (Array.getElem?_eq_some_iff.1 h1).1
   ·rw [LM.out.s.rts a ha,LM.out.s.rts b hb]
  case pos =>
   have hil:L.length<n:=by rw [HL.out.1]; exact hin
   have hle:=Bk.rt_le LM.out.s.fo i hin;obtain ⟨r,hr⟩:∃ r,Hid (Bk.rt φ' i=r):=⟨_,ι rfl⟩;rw [hr.out] at hle;go_upto_region 4 with (fail);refine wp_region_list ?_;refine Rg.lr 13 (exec_bin (R:=.bool true) .lss _ _ _ rfl rfl rfl (b_lss _ (decide_eq_true (by omega)))) ?_;go_frame;go_upto_region 5 with (fail);refine wp_region_list ?_;refine Rg.lm 14 (.int .i64 ((i:Nat):Int)) ?_;go_frame;refine Rg.la 5 (.int .i64 ((i:Nat):Int)) ?_;go_frame;go_upto_region 6 with (fail);refine wp_region_list ?_;refine Rg.lm 15 (.slice (some ⟨fb,0,none⟩) n c) ?_;go_frame;refine Rg.lm 16 (.int .i64 ((i:Nat):Int)) ?_;go_frame;refine list_ask (some 17) rfl rfl _ _ (exec_fn 243 _ _ _ rfl rfl rfl (Hccl0 _ _)) ?_;refine (root_any fb n c φ' i wr LM.out.f LM.out.s.fo hin hn hc).mono ?_;rintro e1 w1 ⟨φ1,rfl,h1,h2,h3⟩;rw [hr.out];have L1:=ι (LM.out.root (Nat.le_of_lt hil) HNE.out h1 h2 h3);have HRR:=ι (show Bk.rt φ1 L.length=r by rw [HL.out.1,h2.rts i hin,hr.out])
   have h3b:=h3;clear h1 h2 h3 LM;refine ⟨_,rfl,?_⟩;go_frame;clear h3b;refine Rg.la 6 (.int .i64 ((r:Nat):Int)) ?_;go_frame;have C1:=ι (L1.out.o.cell hin rfl);have F1:=ι (L1.out.o.fro i)
   by_cases hri:r=i
   case pos =>
    subst hri;obtain ⟨q1,q2⟩:=Bk.LbI.new L1.out.s.fo L1.out.lb hil (by rw [HRR.out,HL.out.1]);rw [HL.out.2] at q1 q2;have L2:=L1.out.put HNE.out q1;rw [HL.out.1] at L2;have LM2:=ι (show LbM w fb w.heap.size n φ (w1.setCell ⟨w.heap.size,0+r,none⟩ (.int .i64 ((m:Nat):Int))) φ1 (L++[m]) by rw [Nat.zero_add]; exact L2);have HL2:=ι (show (L++[m]).length=r+1∧Bk.mny (L++[m]) 0=m+1 from ⟨by rw [List.length_append,HL.out.1]; rfl,q2⟩)
    have hm:m≤n:=by
     have h1:=Bk.mny_le L 0;have:=HL.out;omega
    clear L2 q1 q2 HRR;go_upto_region 7 with (fail);refine wp_region_list ?_;refine Rg.lm 18 (.int .i64 ((r:Nat):Int)) ?_;go_frame;refine Rg.lm 19 (.int .i64 ((r:Nat):Int)) ?_;go_frame;refine Rg.lr 20 (exec_bin (R:=.bool true) .eql _ _ _ rfl rfl rfl (b_eql _ (decide_eq_true rfl))) ?_;go_frame;go_upto_region 8 with (fail);refine wp_region_list ?_;refine Rg.lm 21 (.slice (some ⟨w.heap.size,0,none⟩) n n) ?_;go_frame;refine Rg.lm 22 (.int .i64 ((r:Nat):Int)) ?_;go_frame;refine Rg.lm 23 (.int .i64 ((m:Nat):Int)) ?_;go_frame;refine Rg.lr 24 (exec_indexS slInts _ _ rfl w.heap.size (0) (n) n (r) rfl rfl hin) ?_;go_frame;refine Rg.list_skip none rfl rfl (Rg.exec_store _ _ _ rfl _ rfl _ rfl (run_storeIntB _ C1.out F1.out)) ?_;go_frame;go_upto_region 9 with (fail);refine wp_region_list ?_;refine Rg.lm 25 (.int .i64 ((m:Nat):Int)) ?_;go_frame;refine Rg.lr 26 (exec_bin (R:=.int .i64 (((m+1):Nat):Int)) .add _ _ _ rfl rfl rfl (b_add _ (by omega) (by omega))) ?_;go_frame
    refine Rg.la 4 (.int .i64 (((m+1):Nat):Int)) ?_;go_frame;go_upto_region 11 with (fail);refine wp_region_list ?_;refine Rg.lr 34 (exec_bin (R:=.int .i64 (((r+1):Nat):Int)) .add _ _ _ rfl rfl rfl (b_add _ (by omega) (by omega))) ?_;go_frame;refine Rg.lm 12 (.int .i64 (((r+1):Nat):Int)) ?_;go_frame;go_wp2
    go_roundw
    case rel=>exact ⟨φ1,L++[m],r+1,m+1,rfl,rfl,by omega,HL2,LM2⟩
    case measure=>simp [intOf]; omega
   case neg =>
    have hrl:r<L.length:=by rw [HL.out.1]; omega
    have hrn:r<n:=by omega
    obtain ⟨x,hx⟩:∃ x,Hid (L.getD r 0=x):=⟨_,ι rfl⟩;have C2:=ι (L1.out.o.cell (y:=x) hrn (by show (if r<L.length then L.getD r 0 else 0)=x; rw [if_pos hrl,hx.out]));obtain ⟨q1,q2⟩:=Bk.LbI.old L1.out.s.fo L1.out.lb hil (by rw [HRR.out]; exact hrl);rw [HRR.out,hx.out] at q1 q2;rw [HL.out.2] at q2;have L2:=L1.out.put HNE.out q1;rw [HL.out.1] at L2;have LM2:=ι (show LbM w fb w.heap.size n φ (w1.setCell ⟨w.heap.size,0+i,none⟩ (.int .i64 ((x:Nat):Int))) φ1 (L++[x]) by rw [Nat.zero_add]; exact L2);have HL2:=ι (show (L++[x]).length=i+1∧Bk.mny (L++[x]) 0=m from ⟨by rw [List.length_append,HL.out.1]; rfl,q2⟩);clear L2 q1 q2 HRR hx;go_upto_region 7 with (fail);refine wp_region_list ?_;refine Rg.lm 18 (.int .i64 ((r:Nat):Int)) ?_;go_frame;refine Rg.lm 19 (.int .i64 ((i:Nat):Int)) ?_;go_frame;refine Rg.lr 20 (exec_bin (R:=.bool false) .eql _ _ _ rfl rfl rfl (b_eql _ (decide_eq_false (by omega)))) ?_;go_frame
    go_upto_region 10 with (fail);refine wp_region_list ?_;refine Rg.lm 27 (.slice (some ⟨w.heap.size,0,none⟩) n n) ?_;go_frame;refine Rg.lm 28 (.int .i64 ((i:Nat):Int)) ?_;go_frame;refine Rg.lm 29 (.slice (some ⟨w.heap.size,0,none⟩) n n) ?_;go_frame;refine Rg.lm 30 (.int .i64 ((r:Nat):Int)) ?_;go_frame;refine Rg.lr 31 (exec_indexS slInts _ _ rfl w.heap.size (0) (n) n (r) rfl rfl hrn) ?_;go_frame;refine Rg.lr 32 (Rg.exec_load (v:=.int .i64 ((x:Nat):Int)) _ _ rfl ⟨w.heap.size,0+r,none⟩ rfl (run_loadInt C2.out)) ?_;go_frame;refine Rg.lr 33 (exec_indexS slInts _ _ rfl w.heap.size (0) (n) n (i) rfl rfl hin) ?_;go_frame;refine Rg.list_skip none rfl rfl (Rg.exec_store _ _ _ rfl _ rfl _ rfl (run_storeIntB _ C1.out F1.out)) ?_;go_frame;go_upto_region 11 with (fail);refine wp_region_list ?_;refine Rg.lr 34 (exec_bin (R:=.int .i64 (((i+1):Nat):Int)) .add _ _ _ rfl rfl rfl (b_add _ (by omega) (by omega))) ?_;go_frame
    refine Rg.lm 12 (.int .i64 (((i+1):Nat):Int)) ?_;go_frame;go_wp2
    go_roundw
    case rel=>exact ⟨φ1,L++[x],i+1,m,rfl,rfl,by omega,HL2,LM2⟩
    case measure=>simp [intOf]; omega
end Go.Proofs.YthehbckogieimaaGreat

namespace Go.Proofs.YthehbckogieimaaGreat
open Go.RowKit
open Go.Proofs
open Go.Proofs.Ob
attribute [local irreducible] Go.Calls
theorem infoPr:(Tryz.prog.info? 108).map (fun i=>(i.zero,i.size,i.bytes))=some (some (.agg #[.int .i64 0,.int .i64 0]),2,16):=by kernel_rfl
theorem szPr:(Tryz.prog.info? 108).map (·.size)=some 2:=by kernel_rfl
def flat2 (T:List (Nat × Nat)):List Value:=T.flatMap fun z=>[.int .i64 ((z.1:Nat):Int),.int .i64 ((z.2:Nat):Int)]
theorem flat2_snoc (T:List (Nat × Nat)) (z:Nat × Nat):flat2 (T++[z])=flat2 T++[.int .i64 ((z.1:Nat):Int),.int .i64 ((z.2:Nat):Int)]:=by unfold flat2; rw [List.flatMap_append]; simp
theorem len_flat2 (T:List (Nat × Nat)):(flat2 T).length=T.length*2:=by
 induction T with
 | nil=>rfl
 | cons z T ih =>
  have h:flat2 (z :: T)=[.int .i64 ((z.1:Nat):Int),.int .i64 ((z.2:Nat):Int)]++flat2 T:=rfl;rw [h,List.length_append,ih,List.length_cons];simp; omega
theorem flat2_at (T:List (Nat × Nat)):∀ (i:Nat) (h:i<T.length),(flat2 T)[i*2]?=some (.int .i64 ((T[i].1:Nat):Int))∧(flat2 T)[i*2+1]?=some (.int .i64 ((T[i].2:Nat):Int)):=by
 induction T with
 | nil=>intro i h; cases h
 | cons z T ih =>
  intro i h;have e:flat2 (z :: T)=[.int .i64 ((z.1:Nat):Int),.int .i64 ((z.2:Nat):Int)]++flat2 T:=rfl
  cases i with
  | zero=>rw [e]; exact ⟨rfl,rfl⟩
  | succ i =>
   have:=ih i (by simpa using h);rw [e,List.getElem?_append_right (by simp; omega),List.getElem?_append_right (by simp; omega)]
   have e1:(i+1)*2 - [Value.int .i64 ((z.1:Nat):Int),.int .i64 ((z.2:Nat):Int)].length=i*2:=by simp; omega
   have e2:(i+1)*2+1 - [Value.int .i64 ((z.1:Nat):Int),.int .i64 ((z.2:Nat):Int)].length=i*2+1:=by simp; omega
   rw [e1,e2];exact this
structure Prs (w:World) (v:Value) (T:List (Nat × Nat)):Prop where
 sh:∃ a c,v=.slice a T.length c∧T.length≤c∧T.length≤1000000000∧(0<T.length→∃ b o,a=some ⟨b,o,none⟩∧b<w.heap.size∧∀ i (h:i<T.length),w.cell? ⟨b,o+i*2,none⟩=some (.int .i64 ((T[i].1:Nat):Int))∧w.cell? ⟨b,o+i*2+1,none⟩=some (.int .i64 ((T[i].2:Nat):Int)))
theorem Prs.below {w w':World} {v:Value} {T:List (Nat × Nat)} (h:Prs w v T) (hb:Below w.heap.size w w'):Prs w' v T:=by
 obtain ⟨a,c,h1,h2,h3,h4⟩:=h.sh;refine ⟨a,c,h1,h2,h3,fun h0=>?_⟩;obtain ⟨b,o,e1,e2,e3⟩:=h4 h0;exact ⟨b,o,e1,Nat.lt_of_lt_of_le e2 hb.size,fun i hi=>⟨(hb.cell (p:=⟨b,o+i*2,none⟩) e2).trans (e3 i hi).1,(hb.cell (p:=⟨b,o+i*2+1,none⟩) e2).trans (e3 i hi).2⟩⟩
theorem Prs.nil (w:World):Prs w (.slice none 0 0) []:=⟨none,0,rfl,Nat.le_refl _,Nat.zero_le _,fun h=>absurd h (Nat.not_lt_zero _)⟩
def Own2 (B:Nat) (w:World) (v:Value) (T:List (Nat × Nat)):Prop:=w.ownsRow B 108 2 v T.length (flat2 T)
theorem Own2.nil (B:Nat) (w:World):Own2 B w (.slice none 0 0) []:=World.ownsRow_nil _ _ _ _
theorem Own2.shape {B:Nat} {w:World} {v:Value} {T:List (Nat × Nat)} (h:Own2 B w v T):∃ a c,v=.slice a T.length c∧T.length≤c:=by
 obtain ⟨_,h2⟩:=h
 rcases h2 with ⟨h3,h4⟩ | ⟨g,cap,cur,h3,_,_,h5,_⟩
 ·exact ⟨none,0,by rw [h3,h4],by omega⟩
 ·exact ⟨_,cap,h3,h5⟩
theorem Own2.lt {B:Nat} {w:World} {v:Value} {T:List (Nat × Nat)} (h:Own2 B w v T):∀ k,v.ownBlock=some k→B≤k∧k<w.heap.size:=fun k e=>World.ownsRow.lt h k e
theorem Own2.kp {M:Nat→Prop} {B:Nat} {w w':World} {v:Value} {T:List (Nat × Nat)} (h:Own2 B w v T) (hk:Rg.Kp M w w') (hM:∀ k,M k→v.ownBlock≠some k):Own2 B w' v T:=rowKp h hk hM
theorem Own2.at {B:Nat} {w:World} {v:Value} {T:List (Nat × Nat)} (h:Own2 B w v T) {i:Nat} (hi:i<T.length):∃ g c,v=.slice (some ⟨g,0,none⟩) T.length c∧g<w.heap.size∧T.length≤c∧w.cell? ⟨g,i*2,none⟩=some (.int .i64 ((T[i].1:Nat):Int))∧w.cell? ⟨g,i*2+1,none⟩=some (.int .i64 ((T[i].2:Nat):Int)):=by
 obtain ⟨h1,h2⟩:=h
 rcases h2 with ⟨h3,h4⟩ | ⟨g,cap,cur,h3,hB,hc,h5,h6,h7,h8⟩
 ·omega
 ·have hl:cur.toList.take (T.length*2)=flat2 T:=h8
  obtain ⟨q1,q2⟩:=flat2_at T i hi;refine ⟨g,cap,h3,(Array.getElem?_eq_some_iff.1 hc).1,h5,?_,?_⟩
  ·rw [cell_of_row w _ _ _ _ _ hc,← Array.getElem?_toList,← q1,← hl,List.getElem?_take_of_lt (by omega)]
  ·rw [cell_of_row w _ _ _ _ _ hc,← Array.getElem?_toList,← q2,← hl,List.getElem?_take_of_lt (by omega)]
theorem Own2.prs {B:Nat} {w:World} {v:Value} {T:List (Nat × Nat)} (h:Own2 B w v T) (hl:T.length≤1000000000):Prs w v T:=by
 obtain ⟨a,c,hs,hc⟩:=h.shape;refine ⟨a,c,hs,hc,hl,fun h0=>?_⟩;obtain ⟨g,c',e,hg,_⟩:=h.at h0;rw [hs] at e;simp only [Value.slice.injEq,true_and] at e;obtain ⟨rfl,rfl⟩:=e;refine ⟨g,0,rfl,hg,fun i hi=>?_⟩;obtain ⟨g',c',e,_,_,h1,h2⟩:=h.at hi;rw [hs] at e;simp only [Value.slice.injEq,Option.some.injEq,Addr.mk.injEq,and_true,true_and] at e;obtain ⟨rfl,rfl⟩:=e;rw [Nat.zero_add];exact ⟨h1,h2⟩
theorem Own2.pop {B:Nat} {w:World} {a:Option Addr} {n c:Nat} {T:List (Nat × Nat)} {z:Nat × Nat} (h:Own2 B w (.slice a (n+1) c) (T++[z])) (hn:T.length=n):Own2 B w (.slice a n c) T:=by
 obtain ⟨h1,h2⟩:=h
 rcases h2 with ⟨_,h2⟩ | ⟨g,cap,cur,hv,hg,hc,h5,h6,h7,h8⟩
 ·simp at h2
 ·simp only [Value.slice.injEq] at hv
  obtain ⟨rfl,_,rfl⟩:=hv
  have hl:(T++[z]).length=n+1:=by simp [hn]
  refine ⟨len_flat2 T,.inr ⟨g,c,cur,by rw [hn],hg,hc,by omega,h6,h7,?_⟩⟩;have:=congrArg (List.take (T.length*2)) h8;rw [List.take_take,flat2_snoc,List.take_append_of_le_length (by rw [len_flat2]; exact Nat.le_refl _),List.take_of_length_le (l:=flat2 T) (by rw [len_flat2]; exact Nat.le_refl _)] at this;rw [← this]
  congr 1
  rw [hl,hn];omega
theorem run_build2p (X:World) (a b:Int):(Instr.buildSlice 176 1 #[(0,.agg #[.int .i64 a,.int .i64 b])]).run Tryz.prog X=.ok (.slice (some ⟨X.heap.size,0,none⟩) 1 1) (X.alloc (.cells #[.int .i64 a,.int .i64 b] 108)):=by
 obtain ⟨i0,hi,hz0,hz1,hz2⟩:=info_parts infoPr;refine run_buildSlice X 176 108 1 _ _ i0 _ Tryz.underlying176 hi hz0 (by rw [hz1]; decide) (by rw [hz1]; decide) ?_;generalize (fun x=>((Value.agg #[.int .i64 0,.int .i64 0]).cells)[x % (Value.agg #[.int .i64 0,.int .i64 0]).cells.size]!)=f;rw [hz1];have h1:Array.range (1*2)=#[0,1]:=rfl;simp [Instr.fill,Value.cells,h1]
theorem exec_build2 {o:Oper} {a:Act} {w:World} {i j:Int} (x y:Operand) (ho:o.op=.build 108 #[(0,x),(1,y)]) (hx:a.eval x=.int .i64 i) (hy:a.eval y=.int .i64 j) :
  (execOp a.eval o).run Tryz.prog w=.ok (.value (.agg #[.int .i64 i,.int .i64 j])) w:=by
 unfold execOp;simp only [ho,Sem.run_bind,Sem.run_pure];simp only [List.map_toArray,List.map_cons,List.map_nil,hx,hy]
 have h:(Instr.build 108 #[(0,.int .i64 i),(1,.int .i64 j)]).run Tryz.prog w=.ok (.agg #[.int .i64 i,.int .i64 j]) w:=by kernel_rfl
 first | (rw [h]; rfl) | (erw [h]; rfl)
theorem run_load2 {b o:Nat} {x y:Value} {W:World} (h0:W.cell? ⟨b,o,none⟩=some x) (h1:W.cell? ⟨b,o+1,none⟩=some y):(loadVar 108 ⟨b,o,none⟩).run Tryz.prog W=.ok (.agg #[x,y]) W:=by
 have hl:(loadCells ⟨b,o,none⟩ 2).run Tryz.prog W=.ok #[x,y] W :=
  run_loadCells_list (P:=Tryz.prog) W ⟨b,o,none⟩ [x,y] (fun j v hv=>by
   match j,hv with
   | 0,hv=>simp at hv; subst hv; exact h0
   | 1,hv=>simp at hv; subst hv; exact h1)
 have ha:(isAgg 108).run Tryz.prog W=.ok true W:=by kernel_rfl
 have hs:(sizeOf 108).run Tryz.prog W=.ok 2 W:=by kernel_rfl
 simp [loadVar,Sem.run_bind,ha,hl,hs]
theorem run_sliceHi2 (w:World) (b:Addr) (n c k:Nat) (h:k≤c):(Instr.sliceAt 176 (.slice (some b) n c) none (some (.int .i64 (k:Int))) none).run Tryz.prog w=.ok (.slice (some b) k c) w:=by
 simp [Instr.sliceAt,Instr.slice,run_underlying Tryz.underlying176,Instr.sliceBounds,Instr.sliceBound,asIntOf,h,Addr.add]
theorem exec_sliceHi2 {o:Oper} {a:Act} {w:World} {v r:Value} {k:Nat} (x y:Operand) (ho:o.op=.slice 176 x none (some y) none) (hx:a.eval x=v) (hy:a.eval y=.int .i64 (k:Int)) (hr:(Instr.sliceAt 176 v none (some (.int .i64 (k:Int))) none).run Tryz.prog w=.ok r w) :
  (execOp a.eval o).run Tryz.prog w=.ok (.value r) w:=by
 unfold execOp;simp only [ho,hx,hy,Sem.run_bind,Sem.run_pure,Option.map]
 first | (rw [hr]; rfl) | (erw [hr]; rfl) | simp [hr]
theorem Own2.push {B:Nat} {W:World} {v:Value} {T:List (Nat × Nat)} (h:Own2 B W v T) (hB:B≤W.heap.size) (z:Nat × Nat) (hn:T.length<1000000) (ty:TypeId) :
  ∃ a c X,(Builtin.append_ #[176,176] ty #[v,.slice (some ⟨W.heap.size,0,none⟩) 1 1]).run Tryz.prog (W.alloc (.cells #[.int .i64 ((z.1:Nat):Int),.int .i64 ((z.2:Nat):Int)] 108))=.ok (.slice a (T.length+1) c) X∧Own2 B X (.slice a (T.length+1) c) (T++[z])∧Rg.Kp (fun k=>v.ownBlock=some k) W X∧(∀ k,(Value.slice a (T.length+1) c).ownBlock=some k→v.ownBlock=some k∨W.heap.size≤k):=by
 have hb:Below W.heap.size W (W.alloc (.cells #[.int .i64 ((z.1:Nat):Int),.int .i64 ((z.2:Nat):Int)] 108)):=(Below.refl _ _).alloc (Nat.le_refl _) _;obtain ⟨i0,hi,hz0,hz1,hz2⟩:=info_parts infoPr;have h':=Rg.row_below h hb
 have e2:(W.alloc (.cells #[.int .i64 ((z.1:Nat):Int),.int .i64 ((z.2:Nat):Int)] 108)).heap.size=W.heap.size+1:=by simp
 have c0:(W.alloc (.cells #[.int .i64 ((z.1:Nat):Int),.int .i64 ((z.2:Nat):Int)] 108)).cell? ⟨W.heap.size,0,none⟩=some (.int .i64 ((z.1:Nat):Int)):=by rw [Rg.cellNew]; rfl
 have c1:(W.alloc (.cells #[.int .i64 ((z.1:Nat):Int),.int .i64 ((z.2:Nat):Int)] 108)).cell? ⟨W.heap.size,1,none⟩=some (.int .i64 ((z.2:Nat):Int)):=by rw [Rg.cellNew]; rfl
 generalize W.alloc (.cells #[.int .i64 ((z.1:Nat):Int),.int .i64 ((z.2:Nat):Int)] 108)=W1 at *
 obtain ⟨v',X,hr,h2,h3,h4,h5⟩:=run_append_own_at (P:=Tryz.prog) W1 B 176 ty 108 i0 (.agg #[.int .i64 0,.int .i64 0]) 2 16 Tryz.underlying176 hi hz0 hz1 hz2 rfl (by decide) v T.length (flat2 T) h' ⟨W.heap.size,0,none⟩ 1 1 [.int .i64 ((z.1:Nat):Int),.int .i64 ((z.2:Nat):Int)] rfl (fun j x hj=>by
  match j,hj with
  | 0,hj=>simp at hj; subst hj; exact c0
  | 1,hj=>simp at hj; subst hj; exact c1) (by simp [Value.oneCell']) (by unfold maxLen; omega) (by omega) (by omega)
 have hs2:Own2 B X v' (T++[z]):=by
  unfold Own2;rw [flat2_snoc,List.length_append];exact h2
 obtain ⟨a,c,hs,hc⟩:=hs2.shape;rw [List.length_append,List.length_singleton] at hs hc;subst hs;refine ⟨a,c,X,hr,hs2,Rg.Kp.trans (M:=fun k=>v.ownBlock=some k) ((Rg.Kp.of_below hb).weak fun _=>False.elim) (Rg.Kp.of_grown h3 fun _ e=>e) (fun _ _ e=>e),fun k e=>?_⟩
 rcases h5 with h5 | h5
 ·exact .inl (by rw [← h5]; exact e)
 ·rw [h5] at e
  injection e with e
  exact .inr (by omega)
end Go.Proofs.YthehbckogieimaaGreat

namespace Go.Proofs.YthehbckogieimaaGreat
open Go.RowKit
open Go.Proofs
open Go.Proofs.Ob
open Go.Proofs.Cm (Gd)
attribute [local irreducible] Go.Calls Go.wpList
theorem Hecl0 (args:Array Value) (w:World):(callFunc 168 args).run Tryz.prog w=.ok (.enter 168 args) w:=by kernel_rfl
theorem exec_alloc2 {o:Oper} {a:Act} {w:World} (ho:o.op=.alloc 108):(execOp a.eval o).run Tryz.prog w=.ok (.value (.pointer (some ⟨w.heap.size,0,none⟩))) (w.alloc (.cells #[.int .i64 0,.int .i64 0] 108)):=by
 obtain ⟨i0,hi,hz0,hz1,hz2⟩:=info_parts infoPr;unfold execOp;simp [ho,Instr.alloc,typeInfo,zeroValue,hi,hz0,newVar,Value.cells,Result.andThen];rfl
theorem run_store2 {w:World} {b:Nat} {u1 u2:Value} (x y:Int) (h1:w.cell? ⟨b,0,none⟩=some u1) (h2:w.cell? ⟨b,1,none⟩=some u2) (f1:w.frozen? ⟨b,0,none⟩=false) (f2:w.frozen? ⟨b,1,none⟩=false) :
  (storeVar 108 ⟨b,0,none⟩ (.agg #[.int .i64 x,.int .i64 y])).run Tryz.prog w=.ok () ((w.setCell ⟨b,0,none⟩ (.int .i64 x)).setCell ⟨b,1,none⟩ (.int .i64 y)):=by
 obtain ⟨i0,hi,hz0,hz1,hz2⟩:=info_parts infoPr
 have g2:(w.setCell ⟨b,0,none⟩ (.int .i64 x)).cell? ⟨b,1,none⟩=some u2:=by
  rw [World.cell?_setCell_other (h:=by intro e; injection e with e1 e2; omega) ..]
  exact h2
 have gf:(w.setCell ⟨b,0,none⟩ (.int .i64 x)).frozen? ⟨b,1,none⟩=false:=by rw [World.frozen?_setCell]; exact f2
 have ha0:(⟨b,0,none⟩:Addr).add 0=⟨b,0,none⟩:=by simp [Addr.add]
 have ha1:(⟨b,0,none⟩:Addr).add 1=⟨b,1,none⟩:=by simp [Addr.add]
 simp [storeVar,sizeOf,typeInfo,hi,hz1,Value.cells,storeCells,store,ha0,ha1];simp [Sem.run,h1,f1,g2,gf]
theorem pr_fresh (W:World) (z:Nat × Nat):∃ W2,(storeVar 108 ⟨W.heap.size,0,none⟩ (.agg #[.int .i64 ((z.1:Nat):Int),.int .i64 ((z.2:Nat):Int)])).run Tryz.prog (W.alloc (.cells #[.int .i64 0,.int .i64 0] 108))=.ok () W2∧CL W2 W.heap.size 0 (.int .i64 ((z.1:Nat):Int))∧CL W2 W.heap.size 1 (.int .i64 ((z.2:Nat):Int))∧Below W.heap.size W W2:=by
 have c0:(W.alloc (.cells #[.int .i64 0,.int .i64 0] 108)).cell? ⟨W.heap.size,0,none⟩=some (.int .i64 0):=by rw [Rg.cellNew]; rfl
 have c1:(W.alloc (.cells #[.int .i64 0,.int .i64 0] 108)).cell? ⟨W.heap.size,1,none⟩=some (.int .i64 0):=by rw [Rg.cellNew]; rfl
 have f0:(W.alloc (.cells #[.int .i64 0,.int .i64 0] 108)).frozen? ⟨W.heap.size,0,none⟩=false:=frozenNewN _ _ _ 0 _;have f1:(W.alloc (.cells #[.int .i64 0,.int .i64 0] 108)).frozen? ⟨W.heap.size,1,none⟩=false:=frozenNewN _ _ _ 0 _
 have c1':((W.alloc (.cells #[.int .i64 0,.int .i64 0] 108)).setCell ⟨W.heap.size,0,none⟩ (.int .i64 ((z.1:Nat):Int))).cell? ⟨W.heap.size,1,none⟩=some (.int .i64 0):=by
  rw [World.cell?_setCell_other (h:=by intro e; injection e with e1 e2; omega) ..]; exact c1
 refine ⟨_,run_store2 _ _ c0 c1 f0 f1,⟨?_,by simp⟩,⟨World.cell?_setCell_same (h:=c1') ..,by simp⟩,(((Below.refl _ _).alloc (Nat.le_refl _) _).setCell (p:=⟨W.heap.size,0,none⟩) (Nat.le_refl _) _).setCell (p:=⟨W.heap.size,1,none⟩) (Nat.le_refl _) _⟩
 rw [World.cell?_setCell_other (h:=by intro e; injection e with e1 e2; omega) ..]
 exact World.cell?_setCell_same (h:=c0) ..
structure ClM (wb W:World) (fb n:Nat) (φ:Nat→Nat) (B gb:Nat) (gv tv:Value) (T:List (Nat × Nat)):Prop where
 bel:Below wb.heap.size wb W
 f:rowN W fb n φ
 t:Own2 B W tv T
 g0:CL W gb 0 (.int .i64 ((n:Nat):Int))
 g1:CL W gb 1 gv
 gne:gb≠fb
 tg:tv.ownBlock≠some gb
 sz:B≤W.heap.size
 lo:wb.heap.size≤fb
 lB:fb<B
theorem rowN.lt {w:World} {b n:Nat} {φ:Nat→Nat} (h:rowN w b n φ):b<w.heap.size:=by
 obtain ⟨c,h1,_⟩:=h;exact (Array.getElem?_eq_some_iff.1 h1).1
theorem rowN.below {w w':World} {b n:Nat} {φ:Nat→Nat} (h:rowN w b n φ) (hb:Below w.heap.size w w'):rowN w' b n φ:=h.kp (Rg.Kp.of_below hb (M:=fun _=>False)) id
theorem Own2.below {B:Nat} {w w':World} {v:Value} {T:List (Nat × Nat)} (h:Own2 B w v T) (hb:Below w.heap.size w w'):Own2 B w' v T:=h.kp (Rg.Kp.of_below hb (M:=fun _=>False)) (fun _ e=>e.elim)
theorem ClM.below {wb W W':World} {fb n:Nat} {φ:Nat→Nat} {B gb:Nat} {gv tv:Value} {T:List (Nat × Nat)} (h:ClM wb W fb n φ B gb gv tv T) (hb:Below W.heap.size W W'):ClM wb W' fb n φ B gb gv tv T :=
 ⟨h.bel.trans (hb.mono h.bel.size),h.f.below hb,h.t.below hb,h.g0.up hb,h.g1.up hb,h.gne,h.tg,Nat.le_trans h.sz hb.size,h.lo,h.lB⟩
theorem ClM.uni {wb W W':World} {fb n:Nat} {φ φ':Nat→Nat} {B gb:Nat} {gv tv:Value} {T:List (Nat × Nat)} (h:ClM wb W fb n φ B gb gv tv T) (hf:rowN W' fb n φ') (hk:Rg.Kp (fun z=>z=fb) W W'):ClM wb W' fb n φ' B gb gv tv T :=
 ⟨Rg.Kp.below h.bel hk (fun z e=>e▸h.lo),hf,h.t.kp hk (fun k e e2=>by have:=(h.t.lt k e2).1; have:=h.lB; omega),h.g0.kp hk h.gne,h.g1.kp hk h.gne,h.gne,h.tg,Nat.le_trans h.sz hk.size,h.lo,h.lB⟩
theorem ClM.pop {wb W:World} {fb n:Nat} {φ:Nat→Nat} {B gb:Nat} {gv:Value} {a:Option Addr} {k c:Nat} {T:List (Nat × Nat)} {z:Nat × Nat} (h:ClM wb W fb n φ B gb gv (.slice a (k+1) c) (T++[z])) (hk:T.length=k):ClM wb W fb n φ B gb gv (.slice a k c) T :=
 ⟨h.bel,h.f,h.t.pop hk,h.g0,h.g1,h.gne,fun e=>h.tg (by cases a with | none=>simp [Value.ownBlock] at e | some b=>exact e),h.sz,h.lo,h.lB⟩
theorem ClM.push {wb W:World} {fb n:Nat} {φ:Nat→Nat} {B gb:Nat} {gv tv:Value} {T:List (Nat × Nat)} (h:ClM wb W fb n φ B gb gv tv T) (z:Nat × Nat) (hn:T.length<1000000) (ty:TypeId) :
  ∃ a c X,(Builtin.append_ #[176,176] ty #[tv,.slice (some ⟨W.heap.size,0,none⟩) 1 1]).run Tryz.prog (W.alloc (.cells #[.int .i64 ((z.1:Nat):Int),.int .i64 ((z.2:Nat):Int)] 108))=.ok (.slice a (T.length+1) c) X∧ClM wb X fb n φ B gb gv (.slice a (T.length+1) c) (T++[z])∧Rg.Kp (fun k=>tv.ownBlock=some k) W X∧(∀ k,(Value.slice a (T.length+1) c).ownBlock=some k→tv.ownBlock=some k∨W.heap.size≤k):=by
 obtain ⟨a,c,X,r1,r2,r3,r4⟩:=h.t.push h.sz z hn ty;have hlo:∀ k,tv.ownBlock=some k→B≤k:=fun k e=>(h.t.lt k e).1;refine ⟨a,c,X,r1,⟨Rg.Kp.below h.bel r3 (fun k e=>by have:=hlo k e; have:=h.lB; have:=h.lo; omega),h.f.kp r3 (fun e=>by have:=hlo _ e; have:=h.lB; omega),r2,h.g0.kp r3 h.tg,h.g1.kp r3 h.tg,h.gne,fun e=>?_,Nat.le_trans h.sz r3.size,h.lo,h.lB⟩,r3,r4⟩
 rcases r4 _ e with e | e
 ·exact h.tg e
 ·have:=h.g1.lt; omega
structure ClX (wb W:World) (fb n:Nat) (φ:Nat→Nat) (B gb:Nat) (gv tv:Value) (T:List (Nat × Nat)) (xb:Nat) (z:Nat × Nat):Prop where
 m:ClM wb W fb n φ B gb gv tv T
 x0:CL W xb 0 (.int .i64 ((z.1:Nat):Int))
 x1:CL W xb 1 (.int .i64 ((z.2:Nat):Int))
 xne:xb≠fb
 tx:tv.ownBlock≠some xb
theorem ClX.below {wb W W':World} {fb n:Nat} {φ:Nat→Nat} {B gb:Nat} {gv tv:Value} {T:List (Nat × Nat)} {xb:Nat} {z:Nat × Nat} (h:ClX wb W fb n φ B gb gv tv T xb z) (hb:Below W.heap.size W W'):ClX wb W' fb n φ B gb gv tv T xb z :=
 ⟨h.m.below hb,h.x0.up hb,h.x1.up hb,h.xne,h.tx⟩
theorem ClX.uni {wb W W':World} {fb n:Nat} {φ φ':Nat→Nat} {B gb:Nat} {gv tv:Value} {T:List (Nat × Nat)} {xb:Nat} {z:Nat × Nat} (h:ClX wb W fb n φ B gb gv tv T xb z) (hf:rowN W' fb n φ') (hk:Rg.Kp (fun z=>z=fb) W W'):ClX wb W' fb n φ' B gb gv tv T xb z :=
 ⟨h.m.uni hf hk,h.x0.kp hk h.xne,h.x1.kp hk h.xne,h.xne,h.tx⟩
theorem ClX.push {wb W:World} {fb n:Nat} {φ:Nat→Nat} {B gb:Nat} {gv tv:Value} {T:List (Nat × Nat)} {xb:Nat} {z:Nat × Nat} (h:ClX wb W fb n φ B gb gv tv T xb z) (y:Nat × Nat) (hn:T.length<1000000) (ty:TypeId) :
  ∃ a c X,(Builtin.append_ #[176,176] ty #[tv,.slice (some ⟨W.heap.size,0,none⟩) 1 1]).run Tryz.prog (W.alloc (.cells #[.int .i64 ((y.1:Nat):Int),.int .i64 ((y.2:Nat):Int)] 108))=.ok (.slice a (T.length+1) c) X∧ClX wb X fb n φ B gb gv (.slice a (T.length+1) c) (T++[y]) xb z:=by
 obtain ⟨a,c,X,r1,r2,r3,r4⟩:=h.m.push y hn ty;refine ⟨a,c,X,r1,r2,h.x0.kp r3 h.tx,h.x1.kp r3 h.tx,h.xne,fun e=>?_⟩
 rcases r4 _ e with e | e
 ·exact h.tx e
 ·have:=h.x0.lt; omega
def FcPost (wb:World) (fb n m:Nat) (f:Nat→Nat→Nat) (P:Nat→Nat→Prop) (φ:Nat→Nat) (e:Ending) (w':World):Prop :=
 ∃ φ' D',e=.returned (.tuple #[])∧rowN w' fb n φ'∧Bk.CI n m f P φ' D' []∧(∀ i j,i<n→j<n→Bk.rt φ i=Bk.rt φ j→Bk.rt φ' i=Bk.rt φ' j)∧Below wb.heap.size wb w'
theorem img_lt {gs:List (List Nat)} {D:Nat} (hg:GG D gs):∀ s a,s<gs.length→a<D→img gs s a<D:=fun s a hs ha=>hg.cl s hs a ha
theorem last_or2 (T:List (Nat × Nat)):T=[]∨∃ T' x,T=T'++[x]:=by
 rcases T.eq_nil_or_concat with h | ⟨l,b,h⟩
 ·exact .inl h
 ·exact .inr ⟨l,b,by simpa using h⟩
theorem fclose_any (wb w:World) (fb n c:Nat) (φ:Nat→Nat) (gv tv:Value) (gs:List (List Nat)) (B:Nat) (D T:List (Nat × Nat)) (P:Nat→Nat→Prop) (hbw:Below wb.heap.size wb w) (hfb:wb.heap.size≤fb) (hfB:fb<B) (hBw:B≤w.heap.size) (hn:n≤1000) (hc:n≤c) (hg:Rg.Rows wb gv (gs.map Ma.ofN)) (hgg:GG n gs) (hgl:gs.length≤1000) (hrow:rowN w fb n φ) (hT:Own2 B w tv T) (hTl:T.length+Bk.prt n φ≤100000) (ci:Bk.CI n gs.length (img gs) P φ D T) :
  Calls Tryz.prog 169 #[.slice (some ⟨fb,0,none⟩) n c,.agg #[.int .i64 ((n:Nat):Int),gv],tv] w (FcPost wb fb n gs.length (img gs) P φ):=by
 obtain ⟨ga,gc,hsh,-⟩:=hg.shape;rw [List.length_map] at hsh;subst hsh;obtain ⟨ta,tc,rfl,htc⟩:=hT.shape;have HG:=ι hg;have HGG:=ι hgg;have HCI:=ι ci;have HTL:=ι hTl;have HML:=ι (show (gs.map Ma.ofN).length=gs.length from List.length_map _);have HMO:=ι (fun i j (_:i<n) (_:j<n) (h:Bk.rt φ i=Bk.rt φ j)=>h);have hb0:Below w.heap.size w (w.alloc (.cells #[.int .i64 ((n:Nat):Int),.slice ga gs.length gc] 24)):=(Below.refl _ _).alloc (Nat.le_refl _) _
 have CM:=ι (show ClM wb (w.alloc (.cells #[.int .i64 ((n:Nat):Int),.slice ga gs.length gc] 24)) fb n φ B w.heap.size (.slice ga gs.length gc) (.slice ta T.length tc) T from
  ⟨hbw.trans (hb0.mono hbw.size),hrow.below hb0,hT.below hb0,(box2 w (.int .i64 ((n:Nat):Int)) (.slice ga gs.length gc)).1,(box2 w (.int .i64 ((n:Nat):Int)) (.slice ga gs.length gc)).2,fun e=>by have:=hrow.lt; omega,fun e=>by have:=(hT.lt _ e).2; omega,Nat.le_trans hBw hb0.size,hfb,hfB⟩)
 clear hb0 hbw hfb hfB hBw hg hgg hrow hT ci hTl htc
 go_enter Tryz.func169,Tryz.ntmps169
 generalize hgb:w.heap.size=gb at *;go_upto_region 0 with (fail);refine wp_region_list ?_;refine Rg.lr 4 (Rg.exec_box _ _ rfl rfl) ?_;go_frame;rw [hgb];clear hgb;generalize w.alloc (.cells #[.int .i64 ((n:Nat):Int),.slice ga gs.length gc] 24)=w0 at *;go_wp2
 go_loopg [2] (T.length+Bk.prt n φ) (fun g tv wr=>∃ (φ':Nat→Nat) (D T:List (Nat × Nat)),Hid (Bk.CI n gs.length (img gs) P φ' D T)∧Hid (T.length+Bk.prt n φ'=g∧g≤100000)∧Hid (∀ i j,i<n→j<n→Bk.rt φ i=Bk.rt φ j→Bk.rt φ' i=Bk.rt φ' j)∧Hid (ClM wb wr fb n φ' B gb (.slice ga gs.length gc) tv T))
 case atStart=>exact ⟨φ,D,T,HCI,ι ⟨rfl,HTL.out⟩,HMO,CM⟩
 case round =>
  clear HCI HTL HMO CM;obtain ⟨φ',D,T,HCI,HTL,HMO,CM⟩:=hrel;obtain ⟨ta,tc,rfl,-⟩:=CM.out.t.shape
  rcases last_or2 T with hT0 | ⟨T',z,hTz⟩
  case inl =>
   subst hT0;go_upto_region 1 with (fail);refine wp_region_list ?_;refine Rg.lm 11 (.slice ta ([]:List (Nat × Nat)).length tc) ?_;go_frame;refine Rg.lr 12 (exec_len _ _ _ rfl Tryz.underlying176 _ _ _ rfl) ?_;go_frame;refine Rg.lr 13 (exec_bin (R:=.bool false) .gtr _ _ _ rfl rfl rfl (b_gtr _ (decide_eq_false (by simp)))) ?_;go_frame;go_wp2;refine bodyPost_ret (results_none rfl _ _ _) rfl ?_;exact ⟨φ',D,rfl,CM.out.f,HCI.out,HMO.out,CM.out.bel⟩
  case inr =>
   subst hTz
   have hlen:(T'++[z]).length=T'.length+1:=by rw [List.length_append]; rfl
   have hTL:=HTL.out;rw [hlen] at hTL;have HTB:=ι (show T'.length+1+Bk.prt n φ'=gk∧gk≤100000 from hTL)
   have hTb:T'.length≤100000:=by omega
   obtain ⟨tb,tc',e1,htb,htc,h0,h1⟩:=CM.out.t.at (i:=T'.length) (by rw [hlen]; omega);simp only [Value.slice.injEq,true_and] at e1;obtain ⟨rfl,rfl⟩:=e1;rw [hlen] at htc;rw [List.getElem_append_right (Nat.le_refl _)] at h0 h1;simp only [Nat.sub_self,List.getElem_cons_zero] at h0 h1;have CT0:=ι (CL.mk h0 htb);have CT1:=ι (CL.mk h1 htb);have HJ:=ι HCI.out.pop;have HTC:=ι htc;rw [hlen] at CM ⊢;clear h0 h1 htb hTL hlen HCI HTL;go_upto_region 1 with (fail);refine wp_region_list ?_;refine Rg.lm 11 (.slice (some ⟨tb,0,none⟩) (T'.length+1) tc) ?_;go_frame;refine Rg.lr 12 (exec_len _ _ _ rfl Tryz.underlying176 _ _ _ rfl) ?_;go_frame;refine Rg.lr 13 (exec_bin (R:=.bool true) .gtr _ _ _ rfl rfl rfl (b_gtr _ (decide_eq_true (by omega)))) ?_;go_frame;go_upto_region 2 with (fail);refine wp_region_list ?_;refine Rg.lm 14 (.slice (some ⟨tb,0,none⟩) (T'.length+1) tc) ?_;go_frame
   refine Rg.lm 15 (.slice (some ⟨tb,0,none⟩) (T'.length+1) tc) ?_;go_frame;refine Rg.lr 16 (exec_len _ _ _ rfl Tryz.underlying176 _ _ _ rfl) ?_;go_frame;refine Rg.lr 17 (exec_bin (R:=.int .i64 ((T'.length:Nat):Int)) .sub _ _ _ rfl rfl rfl (b_sub _ (by omega) (by omega))) ?_;go_frame;refine Rg.lr 18 (exec_indexZ0 _ _ rfl Tryz.underlying176 szPr tb ((T'.length+1)) (tc) (T'.length) rfl rfl (by omega)) ?_;go_frame;refine Rg.lr 19 (Rg.exec_load (v:=.agg #[.int .i64 ((z.1:Nat):Int),.int .i64 ((z.2:Nat):Int)]) _ _ rfl ⟨tb,T'.length*2,none⟩ rfl (run_load2 CT0.out.cell CT1.out.cell)) ?_;go_frame;obtain ⟨wx,hst,hx0,hx1,hbx⟩:=pr_fresh wr z;refine Rg.lr 6 (exec_alloc2 rfl) ?_;go_frame;refine Rg.list_skip none rfl rfl (Rg.exec_store _ _ _ rfl _ rfl _ rfl hst) ?_;go_frame;have CX:=ι (show ClX wb wx fb n φ' B gb (.slice ga gs.length gc) (.slice (some ⟨tb,0,none⟩) T'.length tc) T' wr.heap.size z from ⟨(CM.out.pop rfl).below hbx,hx0,hx1,fun e=>by have:=CM.out.f.lt; omega,fun e=>by have:=(CM.out.t.lt _ e).2; omega⟩)
   clear hst hx0 hx1 hbx CM CT0 CT1;generalize wr.heap.size=xb at *;go_upto_region 3 with (fail);refine wp_region_list ?_;refine Rg.lm 20 (.slice (some ⟨tb,0,none⟩) (T'.length+1) tc) ?_;go_frame;refine Rg.lm 21 (.slice (some ⟨tb,0,none⟩) (T'.length+1) tc) ?_;go_frame;refine Rg.lr 22 (exec_len _ _ _ rfl Tryz.underlying176 _ _ _ rfl) ?_;go_frame;refine Rg.lr 23 (exec_bin (R:=.int .i64 ((T'.length:Nat):Int)) .sub _ _ _ rfl rfl rfl (b_sub _ (by omega) (by omega))) ?_;go_frame;refine Rg.lr 24 (exec_sliceHi2 _ _ rfl rfl rfl (run_sliceHi2 _ _ _ _ _ (by have:=HTC.out; omega))) ?_;go_frame;refine Rg.la 2 (.slice (some ⟨tb,0,none⟩) T'.length tc) ?_;go_frame;go_upto_region 4 with (fail);refine wp_region_list ?_;refine Rg.lr 25 (exec_fieldG _ rfl rfl) ?_;go_frame;refine Rg.lr 26 (Rg.exec_load (v:=.slice ga gs.length gc) _ _ rfl ⟨gb,1,none⟩ rfl (Rg.run_loadSl _ _ Tryz.underlying22 CX.out.m.g1.cell)) ?_;go_frame
   refine Rg.lr 27 (exec_len _ _ _ rfl Tryz.underlying22 _ _ _ rfl) ?_;go_frame;refine Rg.lm 28 (.int .i64 ((0:Nat):Int)) ?_;go_frame;go_wp2
   go_loopw [2,28] (fun tv kv wr=>∃ (k:Nat) (φ2:Nat→Nat) (T2:List (Nat × Nat)),kv=.int .i64 ((k:Nat):Int)∧k≤gs.length∧Hid (Bk.CJ n gs.length (img gs) P φ2 D T2 z k)∧Hid (T2.length+1+Bk.prt n φ2≤gk)∧Hid (∀ i j,i<n→j<n→Bk.rt φ i=Bk.rt φ j→Bk.rt φ2 i=Bk.rt φ2 j)∧Hid (ClX wb wr fb n φ2 B gb (.slice ga gs.length gc) tv T2 xb z)) (fun _ kv _=>gs.length - (intOf kv).toNat)
   case atStart=>exact ⟨0,φ',T',rfl,Nat.zero_le _,HJ,ι (by have:=HTB.out; omega),HMO,CX⟩
   case round =>
    clear HJ HMO CX HTC;obtain ⟨k,φ2,T2,rfl,hk,HJ,HT2,HMO,CX⟩:=hrel;obtain ⟨ta,tc,rfl,-⟩:=CX.out.m.t.shape;generalize wr=wd at *
    have hT2b:T2.length≤100000:=by have:=HT2.out; have:=HTB.out; omega
    by_cases hkl:k<gs.length
    case neg =>
     obtain rfl:k=gs.length:=by omega
     have hkN:¬ ((gs.length:Nat):Int)<(gs.length:Int):=by omega
     go_upto_region 5 with (fail);refine wp_region_list ?_;refine Rg.lr 29 (exec_bin (R:=.bool false) .lss _ _ _ rfl rfl rfl (b_lss _ (decide_eq_false hkN))) ?_;go_frame;go_wp2
     go_roundg (T2.length+Bk.prt n φ2)
     case measure=>have:=HT2.out; omega
     case rel=>exact ⟨φ2,z :: D,T2,ι HJ.out.done,ι ⟨rfl,by have:=HT2.out; have:=HTB.out; omega⟩,HMO,ι CX.out.m⟩
    case pos =>
     have hkN:((k:Nat):Int)<(gs.length:Int):=by omega
     have HKN:=ι (show k<(gs.map Ma.ofN).length by rw [HML.out]; exact hkl)
     have hk1000:k<1000:=by omega
     obtain ⟨z1,z2⟩:=HJ.out.rng;obtain ⟨rb,ro,ua,uc,rfl,hgb,hgc,hgu⟩:=rows_get HG.out (i:=k) HKN.out;obtain ⟨gi,HGI⟩:∃ z,Hid (gs[k]'hkl=z):=⟨_,ι rfl⟩
     have hgd:gi.length=n:=by rw [← HGI.out]; exact (HGG.out _ (List.getElem_mem hkl)).2
     rw [show (gs.map Ma.ofN)[k]'HKN.out=Ma.ofN gi by rw [List.getElem_map,HGI.out]] at hgc hgu;rw [Ma.len_ofN,hgd] at hgc hgu
     have hsl:(Ma.ofN gi).length=n:=by rw [Ma.len_ofN,hgd]
     obtain ⟨ub,uo,rfl,hub,hu1⟩:=ints_get hgu (k:=z.1) (by rw [hsl]; exact z1);obtain ⟨ub',uo',e',-,hu2⟩:=ints_get hgu (k:=z.2) (by rw [hsl]; exact z2);simp only [Option.some.injEq,Addr.mk.injEq,and_true] at e';obtain ⟨rfl,rfl⟩:=e';obtain ⟨x,hx⟩:∃ x,Hid (img gs k z.1=x):=⟨_,ι rfl⟩;obtain ⟨y,hy⟩:∃ y,Hid (img gs k z.2=y):=⟨_,ι rfl⟩
     have ex:(Ma.ofN gi)[z.1]'(by rw [hsl]; exact z1)=((x:Nat):Int):=by
      rw [Ma.get_ofN,← hx.out,img_get hkl (by rw [HGI.out,hgd]; exact z1)];simp only [HGI.out]
     have ey:(Ma.ofN gi)[z.2]'(by rw [hsl]; exact z2)=((y:Nat):Int):=by
      rw [Ma.get_ofN,← hy.out,img_get hkl (by rw [HGI.out,hgd]; exact z2)];simp only [HGI.out]
     rw [ex] at hu1;rw [ey] at hu2
     have hxn:x<n:=by rw [← hx.out]; exact img_lt HGG.out k _ hkl z1
     have hyn:y<n:=by rw [← hy.out]; exact img_lt HGG.out k _ hkl z2
     have hbe:=CX.out.m.bel;have CG:=ι (CL.up (CL.mk hgc hgb) hbe);have CU:=ι (CL.up (CL.mk hu1 hub) hbe);have CV:=ι (CL.up (CL.mk hu2 hub) hbe);obtain ⟨p1,hp1⟩:∃ p,Hid (z.1=p):=⟨_,ι rfl⟩;obtain ⟨p2,hp2⟩:∃ p,Hid (z.2=p):=⟨_,ι rfl⟩;have CX0:=ι CX.out.x0;have CX1:=ι CX.out.x1;rw [hp1.out] at CX0 CU z1;rw [hp2.out] at CX1 CV z2;clear hgb hgc hgu hub hu1 hu2 ex ey hbe;go_upto_region 5 with (fail);refine wp_region_list ?_;refine Rg.lr 29 (exec_bin (R:=.bool true) .lss _ _ _ rfl rfl rfl (b_lss _ (decide_eq_true hkN))) ?_;go_frame;go_upto_region 6 with (fail);refine wp_region_list ?_;refine Rg.lr 30 (exec_indexS slPerms _ _ rfl rb (ro) (gs.length) gc (k) rfl rfl hkl) ?_;go_frame;refine Rg.lr 31 (Rg.exec_load (v:=.slice (some ⟨ub,uo,none⟩) n uc) _ _ rfl ⟨rb,ro+k,none⟩ rfl (Rg.run_loadSl _ _ Tryz.underlying51 CG.out.cell)) ?_;go_frame;refine Rg.la 8 (.slice (some ⟨ub,uo,none⟩) n uc) ?_;go_frame
     go_upto_region 7 with (fail);have hV0:Below wd.heap.size wd wd.drew:=(Below.refl _ _).drew;replace CX:=ι (CX.out.below hV0);replace CG:=ι (CG.out.below hV0);replace CU:=ι (CU.out.below hV0);replace CV:=ι (CV.out.below hV0);replace CX0:=ι (CX0.out.below hV0);replace CX1:=ι (CX1.out.below hV0);clear hV0;refine Rg.Any.begin (S:=Rg.Both 11 (fun _=>True) (fun W=>Below wd.drew.heap.size wd.drew W)) mix ?_;generalize wd.drew=w61 at *;have hS:∀ (l:Array Bool) W,Below w61.heap.size w61 W→Rg.Both 11 (fun _=>True) (fun W=>Below w61.heap.size w61 W) l W:=fun l W h=>⟨.inr trivial,h⟩;have hI:Below w61.heap.size w61 w61:=Below.refl _ _;refine Rg.tm 0 11 (.slice (some ⟨ub,uo,none⟩) n uc) 32 (hS _ _ hI) ?_;go_frame;refine Rg.tg 1 11 (.pointer (some ⟨xb,0+0,none⟩)) 33 rfl rfl (.inl ⟨rfl,fun w _=>exec_indexArr _ _ rfl Tryz.underlying108 szI xb (0) (0) rfl rfl (by omega)⟩) (hS _ _ hI) ?_;go_frame
     refine Rg.tg 2 11 (.int .i64 ((p1:Nat):Int)) 34 rfl rfl (Rg.yields_cell _ _ rfl rfl ⟨xb,0+0,none⟩ rfl (fun W hW=>run_loadInt ((Below.cell (p:=⟨xb,0+0,none⟩) hW CX0.out.lt).trans CX0.out.cell))) (hS _ _ hI) ?_;go_frame;refine Rg.tg 3 11 (.pointer (some ⟨ub,uo+p1,none⟩)) 35 rfl rfl (Rg.yields_index slPerm _ _ rfl rfl ub (uo) (n) uc (p1) rfl rfl z1) (hS _ _ hI) ?_;go_frame;refine Rg.tg 4 11 (.int .i64 ((x:Nat):Int)) 36 rfl rfl (Rg.yields_cell _ _ rfl rfl ⟨ub,uo+p1,none⟩ rfl (fun W hW=>run_loadInt ((Below.cell (p:=⟨ub,uo+p1,none⟩) hW CU.out.lt).trans CU.out.cell))) (hS _ _ hI) ?_;go_frame;refine Rg.tm 5 11 (.slice (some ⟨ub,uo,none⟩) n uc) 37 (hS _ _ hI) ?_;go_frame;refine Rg.tg 6 11 (.pointer (some ⟨xb,0+1,none⟩)) 38 rfl rfl (.inl ⟨rfl,fun w _=>exec_indexArr _ _ rfl Tryz.underlying108 szI xb (0) (1) rfl rfl (by omega)⟩) (hS _ _ hI) ?_;go_frame
     refine Rg.tg 7 11 (.int .i64 ((p2:Nat):Int)) 39 rfl rfl (Rg.yields_cell _ _ rfl rfl ⟨xb,0+1,none⟩ rfl (fun W hW=>run_loadInt ((Below.cell (p:=⟨xb,0+1,none⟩) hW CX1.out.lt).trans CX1.out.cell))) (hS _ _ hI) ?_;go_frame;refine Rg.tg 8 11 (.pointer (some ⟨ub,uo+p2,none⟩)) 40 rfl rfl (Rg.yields_index slPerm _ _ rfl rfl ub (uo) (n) uc (p2) rfl rfl z2) (hS _ _ hI) ?_;go_frame;refine Rg.tg 9 11 (.int .i64 ((y:Nat):Int)) 41 rfl rfl (Rg.yields_cell _ _ rfl rfl ⟨ub,uo+p2,none⟩ rfl (fun W hW=>run_loadInt ((Below.cell (p:=⟨ub,uo+p2,none⟩) hW CV.out.lt).trans CV.out.cell))) (hS _ _ hI) ?_;go_frame;refine Rg.tg 10 11 (.int .i64 ((x:Nat):Int)) 9 rfl rfl (.inl ⟨rfl,fun w _=>Rg.exec_assign (v:=.int .i64 ((x:Nat):Int)) _ rfl rfl⟩) (hS _ _ hI) ?_;go_frame;refine Rg.Any.one (i:=11) (by kernel_rfl) (Rg.Any.run (some 10) rfl rfl rfl (Rg.xa (.int .i64 ((y:Nat):Int)) _ rfl rfl) (hS _ _ hI) ?_)
     go_frame;refine Rg.Any.done (by kernel_rfl) ?_ _;clear hS hI;clear CG CU CV CX0 CX1;go_upto_region 8 with (fail);refine wp_region_list ?_;refine Rg.lm 42 (.slice (some ⟨fb,0,none⟩) n c) ?_;go_frame;refine Rg.lm 43 (.int .i64 ((x:Nat):Int)) ?_;go_frame;refine Rg.lm 44 (.int .i64 ((y:Nat):Int)) ?_;go_frame;refine list_ask (some 45) rfl rfl _ _ (exec_fn3 168 _ _ _ _ rfl rfl rfl rfl (Hecl0 _ _)) ?_;refine (unite_any fb n c φ2 x y w61 CX.out.m.f HJ.out.ci.fo hxn hyn hn hc).mono ?_;rintro e1 w62 ⟨φ3,r,rfl,hrow3,hu3,hkp3⟩;have hcx3:=CX.out.uni hrow3 hkp3;have HU3:=ι hu3;clear hrow3 hu3;refine ⟨_,rfl,?_⟩;go_frame;replace CX:=ι hcx3;clear hkp3 hcx3;have HU4:=ι (show Bk.Uni n φ2 φ3 (img gs k z.1) (img gs k z.2) r by rw [hx.out,hy.out]; exact HU3.out);have HJ2:=ι (HJ.out.unite (img_lt HGG.out) hkl HU4.out);have HMO2:=ι (fun i j (hi:i<n) (hj:j<n) (h:Bk.rt φ i=Bk.rt φ j)=>HU3.out.keep i j hi hj (HMO.out i j hi hj h))
     rw [hx.out,hy.out] at HJ2
     cases r with
     | false =>
      have HT3:=ι (show T2.length+1+Bk.prt n φ3≤gk by rw [(HU3.out.no rfl).2]; exact HT2.out);go_upto_region 10 with (fail);refine wp_region_list ?_;refine Rg.lr 52 (exec_bin (R:=.int .i64 (((k+1):Nat):Int)) .add _ _ _ rfl rfl rfl (b_add _ (by omega) (by omega))) ?_;go_frame;refine Rg.lm 28 (.int .i64 (((k+1):Nat):Int)) ?_;go_frame;go_wp2
      go_roundw
      case rel=>exact ⟨k+1,φ3,T2,by go_num,hkl,HJ2,HT3,HMO2,CX⟩
      case measure=>simp [intOf]; omega
     | true =>
      have HT3:=ι (show (T2++[(x,y)]).length+1+Bk.prt n φ3≤gk by rw [List.length_append,List.length_singleton]; have:=HU3.out.yes rfl; have:=HT2.out; omega);obtain ⟨a9,c9,X9,r1,hcx⟩:=CX.out.push (x,y) (by omega) 176;go_upto_region 9 with (fail);refine wp_region_list ?_;refine Rg.lm 46 (.slice ta T2.length tc) ?_;go_frame;refine Rg.lm 47 (.int .i64 ((x:Nat):Int)) ?_;go_frame;refine Rg.lm 48 (.int .i64 ((y:Nat):Int)) ?_;go_frame;refine Rg.lr 49 (exec_build2 _ _ rfl rfl rfl) ?_;go_frame;refine Rg.lr 50 (Rg.exec_buildSlice _ _ _ rfl (.agg #[.int .i64 ((x:Nat):Int),.int .i64 ((y:Nat):Int)]) rfl (run_build2p w62 _ _)) ?_;go_frame;refine Rg.lr 51 (Rg.exec_append _ _ _ rfl rfl rfl r1) ?_;go_frame;refine Rg.la 2 (.slice a9 (T2.length+1) c9) ?_;go_frame;have CX9:=ι hcx;clear r1 hcx;go_upto_region 10 with (fail);refine wp_region_list ?_;refine Rg.lr 52 (exec_bin (R:=.int .i64 (((k+1):Nat):Int)) .add _ _ _ rfl rfl rfl (b_add _ (by omega) (by omega))) ?_;go_frame
      refine Rg.lm 28 (.int .i64 (((k+1):Nat):Int)) ?_;go_frame;go_wp2
      go_roundw
      case rel=>exact ⟨k+1,φ3,T2++[(x,y)],by go_num,hkl,HJ2,HT3,HMO2,CX9⟩
      case measure=>simp [intOf]; omega
end Go.Proofs.YthehbckogieimaaGreat
