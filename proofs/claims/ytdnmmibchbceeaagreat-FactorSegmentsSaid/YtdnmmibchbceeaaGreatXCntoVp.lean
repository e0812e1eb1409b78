/- Lemmas and contracts on the way to the statement; no condition of their own beyond those written. -/
import Derived.Test.YtdnmmibchbceeaaGreatXMatoCm
import Derived.Lib.Hide
import Derived.Deep.CutRange
import Derived.Deep.CutBlock
import Derived.IntWalk
import Derived.Great.BuildSlice
import Derived.ArgAppend
import Derived.Laws.CopyOwn
import Derived.StillTailTactics
import Derived.Deep.MidRow
import Derived.WalkSpells
import Derived.WalkLawsBesides
import Derived.Maps.AppendAt
import Derived.OwnWalk
import Derived.OrdersHeld
import Derived.Deep.OwnRows
import Derived.WalkKit
import Derived.Laws.OwnMore
import Derived.Test.YtdnmmibchbceeaaGreatProg
import Derived.Outline
import Derived.Deep.DeepFit
import Derived.BigQuiet
import Derived.Deep.QuietTactic
import Derived.WideMake
import Derived.MapKept
import Derived.ChangeMaps5
import Derived.Shelf.Sort.Plain
import Derived.Sort.OwnSortedInts
set_option linter.unusedVariables false
set_option linter.unusedSimpArgs false
set_option maxRecDepth 100000
set_option maxHeartbeats 8000000
namespace Go.Proofs.Cm
open Go.Proofs
def sfP (n:Nat) (tr:Tr):Nat→List Nat→Nat × List Nat
 | 0,x=>(n,x)
 | d+1,x=>match tr (n - (d+1)) (ap x (n - (d+1))) with
  | none=>(n - (d+1),x)
  | some u=>sfP n tr d (Ma.mulN x (Ma.invN u))
theorem sfP_none {n:Nat} {tr:Tr} {d:Nat} {x:List Nat} (h:tr (n - (d+1)) (ap x (n - (d+1)))=none):sfP n tr (d+1) x=(n - (d+1),x):=by
 unfold sfP; rw [h]
theorem sfP_some {n:Nat} {tr:Tr} {d:Nat} {x u:List Nat} (h:tr (n - (d+1)) (ap x (n - (d+1)))=some u):sfP n tr (d+1) x=sfP n tr d (Ma.mulN x (Ma.invN u)):=by
 conv=>lhs; unfold sfP
 rw [h]
theorem step_fx {n lo:Nat} {tr:Tr} (hr:Rp n lo tr) {i:Nat} (hl:lo≤i) (hi:i<n) {x u:List Nat} (gx:Gd n x) (fx:Fx i x) (hu:tr i (ap x i)=some u):Gd n (Ma.mulN x (Ma.invN u))∧Fx (i+1) (Ma.mulN x (Ma.invN u)):=by
 have gu:=hr.gd _ _ _ hl hi hu;have fu:=hr.fx _ _ _ hl hi hu;have au:=hr.at_ _ _ _ hl hi hu;refine ⟨gd_mul gx (gd_inv gu),fun j hj=>?_⟩;rw [ap_mul gx (by omega)]
 by_cases e:j=i
 ·subst e; rw [← au]; exact ap_inv gu hi
 ·rw [fx j (by omega)]
  exact Fx.inv gu (by omega) fu j (by omega)
theorem sfP_all {n lo:Nat} {tr:Tr} (hr:Rp n lo tr):∀ {d:Nat} {x:List Nat},d≤n→lo≤n - d→Gd n x→Fx (n - d) x →
  (sfP n tr d x).1≤n∧n - d≤(sfP n tr d x).1∧Gd n (sfP n tr d x).2∧Fx (sfP n tr d x).1 (sfP n tr d x).2∧((sfP n tr d x).1<n→tr (sfP n tr d x).1 (ap (sfP n tr d x).2 (sfP n tr d x).1)=none)
 | 0,x,_,_,gx,fx=>⟨Nat.le_refl _,by show n - 0≤n; omega,gx,fx,fun h=>absurd h (Nat.lt_irrefl _)⟩
 | d+1,x,hd,hl,gx,fx=>by
  cases h:tr (n - (d+1)) (ap x (n - (d+1))) with
  | none =>
   rw [sfP_none h];exact ⟨by show n - (d+1)≤n; omega,Nat.le_refl _,gx,fx,fun _=>h⟩
  | some u =>
   rw [sfP_some h];obtain ⟨g1,f1⟩:=step_fx hr hl (by omega) gx fx h;rw [show n - (d+1)+1=n - d by omega] at f1;obtain ⟨a,b,c⟩:=sfP_all hr (d:=d) (by omega) (by omega) g1 f1;exact ⟨a,by omega,c⟩
theorem sfP_back {n:Nat} {tr tr':Tr}:∀ {d:Nat} {x:List Nat},d≤n→(∀ i p u,n - d≤i→tr i p=some u→tr' i p=some u)→Sd n tr' (n - (sfP n tr d x).1) (sfP n tr d x).2→Sd n tr' d x
 | 0,x,_,_,h=>by
  have:Sd n tr' (n - n) x:=h
  rwa [Nat.sub_self] at this
 | d+1,x,hd,hm,hs=>by
  cases h:tr (n - (d+1)) (ap x (n - (d+1))) with
  | none =>
   rw [sfP_none h] at hs;have:Sd n tr' (n - (n - (d+1))) x:=hs
   rwa [show n - (n - (d+1))=d+1 by omega] at this
  | some u =>
   rw [sfP_some h] at hs;exact ⟨u,hm _ _ _ (Nat.le_refl _) h,sfP_back (by omega) (fun i p u hi=>hm i p u (by omega)) hs⟩
theorem sfP_mem {n:Nat} {tr:Tr} {H:List Nat→Prop} (hH:IsG n H):∀ {d:Nat} {x:List Nat},d≤n→(∀ i p u,n - d≤i→i<n→tr i p=some u→H u)→H x→H (sfP n tr d x).2
 | 0,_,_,_,h=>h
 | d+1,x,hd,hm,hx=>by
  cases h:tr (n - (d+1)) (ap x (n - (d+1))) with
  | none=>rw [sfP_none h]; exact hx
  | some u =>
   rw [sfP_some h];exact sfP_mem hH (by omega) (fun i p u hi=>hm i p u (by omega)) (hH.mul _ _ hx (hH.inv _ (hm _ _ _ (Nat.le_refl _) (by omega) h)))
structure Lv where
 gens:List (List Nat)
 orb:List Nat
 rep:Nat→Option (List Nat)
 tried:Nat→Nat
abbrev Twr:=Nat→Lv
def trOf (T:Twr):Tr:=fun i p=>(T i).rep p
structure Lvl (n:Nat) (T:Twr) (i:Nat):Prop where
 ggd:∀ s∈(T i).gens,Gd n s
 gfx:∀ s∈(T i).gens,Fx i s
 low:i+1<n→∀ s∈(T (i+1)).gens,Gr n (·∈(T i).gens) s
 self:(T i).rep i=some (Ma.oneN n)
 tgd:∀ p u,(T i).rep p=some u→Gd n u
 tfx:∀ p u,(T i).rep p=some u→Fx i u
 tat:∀ p u,(T i).rep p=some u→ap u i=p
 tlt:∀ p u,(T i).rep p=some u→p<n
 tgr:∀ p u,(T i).rep p=some u→Gr n (·∈(T i).gens) u
 nd:(T i).orb.Nodup
 orb:∀ p,p∈(T i).orb↔∃ u,(T i).rep p=some u
 le:∀ q,(T i).tried q≤(T i).gens.length
 tr0:∀ p,(T i).rep p=none→(T i).tried p=0
 pr:∀ q u k (hk:k<(T i).gens.length),(T i).rep q=some u→k<(T i).tried q→∃ v,(T i).rep (ap (T i).gens[k] q)=some v∧Sd n (trOf T) (n - (i+1)) (Ma.mulN (Ma.mulN u (T i).gens[k]) (Ma.invN v))
def Cmp (T:Twr) (i:Nat):Prop:=∀ q u,(T i).rep q=some u→(T i).tried q=(T i).gens.length
theorem Lvl.rp {n lo:Nat} {T:Twr} (h:∀ j,lo≤j→j<n→Lvl n T j):Rp n lo (trOf T) :=
 ⟨fun i p u hl hi hu=>(h i hl hi).tgd p u hu,fun i p u hl hi hu=>(h i hl hi).tfx p u hu,fun i p u hl hi hu=>(h i hl hi).tat p u hu,fun i hl hi=>(h i hl hi).self⟩
theorem Lvl.tow {n lo:Nat} {T:Twr} (h:∀ j,lo≤j→j<n→Lvl n T j∧Cmp T j):Tow n lo (fun i s=>s∈(T i).gens) (trOf T):=by
 refine ⟨Lvl.rp fun j a b=>(h j a b).1,fun i s a b=>(h i a b).1.ggd s,fun i s a b=>(h i a (by omega)).1.low b s,fun i p u a b hu=>(h i a b).1.tgr p u hu,fun i p u s a b hu hs=>?_⟩;obtain ⟨k,hk,rfl⟩:=List.getElem_of_mem hs;exact (h i a b).1.pr p u k hk hu (by rw [(h i a b).2 p u hu]; exact hk)
theorem Lvl.sd {n lo:Nat} {T:Twr} (h:∀ j,lo≤j→j<n→Lvl n T j∧Cmp T j) (hl:lo<n) {x:List Nat} (hx:Gr n (·∈(T lo).gens) x):Sd n (trOf T) (n - lo) x:=by
 have:=((Lvl.tow h).clos (d:=n - lo) (by omega) (by omega)).2 (by omega) x;rw [show n - (n - lo)=lo by omega] at this;exact this hx
structure Ext (T T':Twr):Prop where
 rep:∀ j p u,(T j).rep p=some u→(T' j).rep p=some u
 orb:∀ j,(T j).orb.length≤(T' j).orb.length
 gens:∀ j s,s∈(T j).gens→s∈(T' j).gens
theorem Ext.refl (T:Twr):Ext T T:=⟨fun _ _ _ h=>h,fun _=>Nat.le_refl _,fun _ _ h=>h⟩
theorem Ext.trans {T T' T'':Twr} (h:Ext T T') (h':Ext T' T''):Ext T T'':=⟨fun j p u e=>h'.rep j p u (h.rep j p u e),fun j=>Nat.le_trans (h.orb j) (h'.orb j),fun j s e=>h'.gens j s (h.gens j s e)⟩
theorem Lvl.ext0 {n i:Nat} {T T':Twr} (h:Lvl n T i) (he:T' i=T i) (hx:∀ j p u,(T j).rep p=some u→(T' j).rep p=some u) (hlow:i+1<n→∀ s∈(T' (i+1)).gens,Gr n (·∈(T i).gens) s):Lvl n T' i:=by
 refine ⟨by rw [he]; exact h.ggd,by rw [he]; exact h.gfx,by rw [he]; exact hlow,by rw [he]; exact h.self,by rw [he]; exact h.tgd,by rw [he]; exact h.tfx,by rw [he]; exact h.tat,by rw [he]; exact h.tlt,by rw [he]; exact h.tgr,by rw [he]; exact h.nd,by rw [he]; exact h.orb,by rw [he]; exact h.le,by rw [he]; exact h.tr0,?_⟩;simp only [he];intro q u k hk hu hq;obtain ⟨v,h1,h2⟩:=h.pr q u k hk hu hq;exact ⟨v,h1,Sd.mono (fun j p u _ e=>hx j p u e) h2⟩
theorem Lvl.ext {n i:Nat} {T T':Twr} (h:Lvl n T i) (he:T' i=T i) (hx:Ext T T') (hlow:i+1<n→∀ s∈(T' (i+1)).gens,Gr n (·∈(T i).gens) s):Lvl n T' i:=h.ext0 he hx.rep hlow
theorem Cmp.ext {i:Nat} {T T':Twr} (h:Cmp T i) (he:T' i=T i):Cmp T' i:=by
 unfold Cmp at *; rw [he]; exact h
def potd (n:Nat) (T:Twr):Nat→Nat
 | 0=>0
 | d+1=>(T (n - (d+1))).orb.length+potd n T d
def pot (n:Nat) (T:Twr) (i:Nat):Nat:=potd n T (n - i)
theorem potd_mono {n:Nat} {T T':Twr} (h:Ext T T'):∀ d,potd n T d≤potd n T' d
 | 0=>Nat.le_refl _
 | d+1=>Nat.add_le_add (h.orb _) (potd_mono h d)
theorem potd_more {n:Nat} {T T':Twr} (h:Ext T T') {i:Nat} (hi:i<n) (hlt:(T i).orb.length<(T' i).orb.length):∀ d,d≤n→n - i≤d→potd n T d<potd n T' d
 | 0,_,hd=>by omega
 | d+1,hdn,hd=>by
  by_cases e:n - i=d+1
  ·have:n - (d+1)=i:=by omega
   show (T (n - (d+1))).orb.length+potd n T d<(T' (n - (d+1))).orb.length+potd n T' d;rw [this];exact Nat.add_lt_add_of_lt_of_le hlt (potd_mono h d)
  ·exact Nat.add_lt_add_of_le_of_lt (h.orb _) (potd_more h hi hlt d (by omega) (by omega))
theorem pot_mono {n:Nat} {T T':Twr} (h:Ext T T') (i:Nat):pot n T i≤pot n T' i:=potd_mono h _
theorem pot_more {n:Nat} {T T':Twr} (h:Ext T T') {i j:Nat} (hi:i<n) (hj:j≤i) (hlt:(T i).orb.length<(T' i).orb.length):pot n T j<pot n T' j:=potd_more h hi hlt _ (by omega) (by omega)
theorem orb_len {n i:Nat} {T:Twr} (h:Lvl n T i):(T i).orb.length≤n:=by
 have h1:(T i).orb ⊆ List.range n:=fun p hp=>by
  obtain ⟨u,hu⟩:=(h.orb p).1 hp;exact List.mem_range.2 (h.tlt p u hu)
 have:=List.Nodup.length_le_of_subset h.nd h1
 rwa [List.length_range] at this
theorem potd_le {n lo:Nat} {T:Twr} (h:∀ j,lo≤j→j<n→Lvl n T j):∀ d,d≤n→lo≤n - d→potd n T d≤d*n
 | 0,_,_=>by simp [potd]
 | d+1,hd,hl=>by
  have h1:=orb_len (h (n - (d+1)) hl (by omega));have h2:=potd_le h d (by omega) (by omega);show _+_≤_;rw [Nat.succ_mul]; omega
theorem pot_le {n lo:Nat} {T:Twr} (h:∀ j,lo≤j→j<n→Lvl n T j) {i:Nat} (hi:lo≤i) (hn:n≤64):pot n T i≤4096:=by
 by_cases hin:i≤n
 ·have h1:=potd_le h (n - i) (by omega) (by omega)
  have h2:(n - i)*n≤64*64:=Nat.mul_le_mul (by omega) hn;unfold pot; omega
 ·unfold pot; rw [show n - i=0 by omega]; simp [potd]
def putG (T:Twr) (lo hi:Nat) (r:List Nat):Twr:=fun j=>if lo≤j∧j≤hi then { T j with gens:=(T j).gens++[r] } else T j
theorem putG_in {T:Twr} {lo hi:Nat} {r:List Nat} {j:Nat} (h:lo≤j∧j≤hi):putG T lo hi r j={ T j with gens:=(T j).gens++[r] }:=if_pos h
theorem putG_out {T:Twr} {lo hi:Nat} {r:List Nat} {j:Nat} (h:¬ (lo≤j∧j≤hi)):putG T lo hi r j=T j:=if_neg h
theorem putG_to (T:Twr) (lo hi:Nat) (r:List Nat):trOf (putG T lo hi r)=trOf T:=by
 funext j p
 unfold trOf
 by_cases h:lo≤j∧j≤hi
 ·rw [putG_in h]
 ·rw [putG_out h]
theorem putG_orb (T:Twr) (lo hi:Nat) (r:List Nat) (j:Nat):(putG T lo hi r j).orb=(T j).orb:=by
 by_cases h:lo≤j∧j≤hi
 ·rw [putG_in h]
 ·rw [putG_out h]
theorem putG_ext (T:Twr) (lo hi:Nat) (r:List Nat):Ext T (putG T lo hi r) :=
 ⟨fun j p u h=>(show trOf (putG T lo hi r) j p=some u by rw [putG_to]; exact h),fun j=>by rw [putG_orb]; exact Nat.le_refl _,fun j s hs=>by
  by_cases h:lo≤j∧j≤hi
  ·rw [putG_in h]; exact List.mem_append_left _ hs
  ·rw [putG_out h]; exact hs⟩
theorem putG_lvl {n lo hi i:Nat} {T:Twr} {r:List Nat} (h:Lvl n T i) (hl:lo≤i) (hr:Gd n r) (hf:Fx hi r):Lvl n (putG T lo hi r) i:=by
 have hto:=fun p=>congrFun (congrFun (putG_to T lo hi r) i) p;have hto':∀ p,(putG T lo hi r i).rep p=(T i).rep p:=hto
 by_cases hi2:i≤hi
 ·have e:=putG_in (T:=T) (r:=r) ⟨hl,hi2⟩
  have hg:∀ s,s∈(T i).gens→s∈(putG T lo hi r i).gens:=fun s hs=>by rw [e]; exact List.mem_append_left _ hs
  have hm:∀ s,s∈(putG T lo hi r i).gens→s∈(T i).gens∨s=r:=fun s hs=>by
   rw [e] at hs
   rcases List.mem_append.1 hs with hs | hs
   ·exact .inl hs
   ·exact .inr (List.mem_singleton.1 hs)
  have hrm:r∈(putG T lo hi r i).gens:=by rw [e]; exact List.mem_append_right _ (List.mem_singleton.2 rfl)
  refine ⟨fun s hs=>?_,fun s hs=>?_,fun h1 s hs=>?_,by rw [hto']; exact h.self,fun p u hu=>h.tgd p u (by rwa [hto'] at hu),fun p u hu=>h.tfx p u (by rwa [hto'] at hu),fun p u hu=>h.tat p u (by rwa [hto'] at hu),fun p u hu=>h.tlt p u (by rwa [hto'] at hu),
   fun p u hu=>(h.tgr p u (by rwa [hto'] at hu)).mono hg,by rw [putG_orb]; exact h.nd,fun p=>by rw [putG_orb,hto']; exact h.orb p,fun q=>?_,fun p hp=>by rw [hto'] at hp; rw [e]; exact h.tr0 p hp,?_⟩
  ·rcases hm s hs with hs | rfl
   ·exact h.ggd s hs
   ·exact hr
  ·rcases hm s hs with hs | rfl
   ·exact h.gfx s hs
   ·exact hf.mono hi2
  ·by_cases h2:i+1≤hi
   ·rw [putG_in ⟨by omega,h2⟩] at hs
    rcases List.mem_append.1 hs with hs | hs
    ·exact (h.low h1 s hs).mono hg
    ·rw [List.mem_singleton] at hs; subst hs; exact .gen _ hrm
   ·rw [putG_out (by omega)] at hs
    exact (h.low h1 s hs).mono hg
  ·have:=h.le q
   rw [e]; simp; omega
  ·intro q u k hk hu hq
   rw [hto'] at hu
   have hq':k<(T i).tried q:=by rw [e] at hq; exact hq
   have hk':k<(T i).gens.length:=Nat.lt_of_lt_of_le hq' (h.le q)
   have eg:(putG T lo hi r i).gens[k]=(T i).gens[k]:=by simp only [e]; rw [List.getElem_append_left hk']
   obtain ⟨v,h1,h2⟩:=h.pr q u k hk' hu hq';rw [eg];exact ⟨v,by rw [hto']; exact h1,by rw [putG_to]; exact h2⟩
 ·exact h.ext (putG_out (by omega)) (putG_ext T lo hi r) fun h1 s hs=>by
   rw [putG_out (by omega)] at hs; exact h.low h1 s hs
def tick (T:Twr) (i q:Nat):Twr:=fun j=>if j=i then { T j with tried:=fun p=>if p=q then (T j).tried p+1 else (T j).tried p } else T j
def find (T:Twr) (i p:Nat) (y:List Nat):Twr:=fun j=>if j=i then { T j with orb:=(T j).orb++[p],rep:=fun z=>if z=p then some y else (T j).rep z } else T j
theorem tick_at (T:Twr) (i q:Nat):tick T i q i={ T i with tried:=fun p=>if p=q then (T i).tried p+1 else (T i).tried p }:=if_pos rfl
theorem tick_ne {T:Twr} {i q j:Nat} (h:j≠i):tick T i q j=T j:=if_neg h
theorem find_at' (T:Twr) (i p:Nat) (y:List Nat):find T i p y i={ T i with orb:=(T i).orb++[p],rep:=fun z=>if z=p then some y else (T i).rep z }:=if_pos rfl
theorem find_ne {T:Twr} {i p j:Nat} {y:List Nat} (h:j≠i):find T i p y j=T j:=if_neg h
theorem tick_ext (T:Twr) (i q:Nat):Ext T (tick T i q) :=
 ⟨fun j p u h=>by
  by_cases e:j=i
  ·subst e; rw [tick_at]; exact h
  ·rw [tick_ne e]; exact h,fun j=>by
  by_cases e:j=i
  ·subst e; rw [tick_at]; exact Nat.le_refl _
  ·rw [tick_ne e]; exact Nat.le_refl _,fun j s hs=>by
  by_cases e:j=i
  ·subst e; rw [tick_at]; exact hs
  ·rw [tick_ne e]; exact hs⟩
theorem find_ext {T:Twr} {i p:Nat} {y:List Nat} (hp:(T i).rep p=none):Ext T (find T i p y) :=
 ⟨fun j z u h=>by
  by_cases e:j=i
  ·subst e
   rw [find_at'];show (if z=p then some y else (T j).rep z)=some u;rw [if_neg,h];rintro rfl; rw [hp] at h; cases h
  ·rw [find_ne e]; exact h,fun j=>by
  by_cases e:j=i
  ·subst e; rw [find_at']; simp
  ·rw [find_ne e]; exact Nat.le_refl _,fun j s hs=>by
  by_cases e:j=i
  ·subst e; rw [find_at']; exact hs
  ·rw [find_ne e]; exact hs⟩
theorem tick_lvl {n i q:Nat} {T T':Twr} (h:Lvl n T i) {s uq v:List Nat} (hk:(T i).tried q<(T i).gens.length) (hs:(T i).gens[(T i).tried q]=s) (huq:(T i).rep q=some uq)
  (hi:T' i=tick T i q i) (hx:Ext T T') (hlow:i+1<n→∀ s∈(T' (i+1)).gens,Gr n (·∈(T i).gens) s) (hv:(T i).rep (ap s q)=some v) (hsd:Sd n (trOf T') (n - (i+1)) (Ma.mulN (Ma.mulN uq s) (Ma.invN v))):Lvl n T' i:=by
 rw [tick_at] at hi;refine ⟨by rw [hi]; exact h.ggd,by rw [hi]; exact h.gfx,by rw [hi]; exact hlow,by rw [hi]; exact h.self,by rw [hi]; exact h.tgd,by rw [hi]; exact h.tfx,by rw [hi]; exact h.tat,by rw [hi]; exact h.tlt,by rw [hi]; exact h.tgr,by rw [hi]; exact h.nd,by rw [hi]; exact h.orb,?_,?_,?_⟩
 ·rw [hi]
  intro p;show (if p=q then (T i).tried p+1 else (T i).tried p)≤(T i).gens.length
  split
  ·rename_i e; subst e; omega
  ·exact h.le p
 ·rw [hi]
  intro p hp;show (if p=q then (T i).tried p+1 else (T i).tried p)=0;rw [if_neg]
  ·exact h.tr0 p hp
  ·rintro rfl
   have hp':(T i).rep p=none:=hp;rw [huq] at hp'; cases hp'
 ·simp only [hi]
  intro p u k hk2 hu hp
  by_cases e:p=q
  ·subst e
   rw [if_pos rfl] at hp
   by_cases e2:k=(T i).tried p
   ·subst e2
    rw [huq] at hu; cases hu;rw [hs]; exact ⟨v,hv,hsd⟩
   ·obtain ⟨v2,h1,h2⟩:=h.pr p u k hk2 hu (by omega)
    exact ⟨v2,h1,Sd.mono (fun j p u _ e=>hx.rep j p u e) h2⟩
  ·rw [if_neg e] at hp
   obtain ⟨v2,h1,h2⟩:=h.pr p u k hk2 hu hp;exact ⟨v2,h1,Sd.mono (fun j p u _ e=>hx.rep j p u e) h2⟩
theorem find_lvl {n i q:Nat} {T:Twr} (h:∀ j,i≤j→j<n→Lvl n T j) (hin:i<n) {s uq:List Nat} (hk:(T i).tried q<(T i).gens.length) (hs:(T i).gens[(T i).tried q]=s) (huq:(T i).rep q=some uq) (hp:(T i).rep (ap s q)=none) :
  Lvl n (find (tick T i q) i (ap s q) (Ma.mulN uq s)) i:=by
 have hl:=h i (Nat.le_refl _) hin
 have hsm:s∈(T i).gens:=by rw [← hs]; exact List.getElem_mem hk
 have gs:=hl.ggd s hsm;have gu:=hl.tgd q uq huq;have hq:=hl.tlt q uq huq;have gy:=gd_mul gu gs;have hx:Ext T (find (tick T i q) i (ap s q) (Ma.mulN uq s)):=(tick_ext T i q).trans (find_ext (by rw [tick_at]; exact hp))
 have ei:find (tick T i q) i (ap s q) (Ma.mulN uq s) i={ gens:=(T i).gens,orb:=(T i).orb++[ap s q],rep:=fun z=>if z=ap s q then some (Ma.mulN uq s) else (T i).rep z,tried:=fun p=>if p=q then (T i).tried p+1 else (T i).tried p }:=by rw [find_at',tick_at]
 have ay:ap (Ma.mulN uq s) i=ap s q:=by rw [ap_mul gu hin,hl.tat q uq huq]
 have fy:Fx i (Ma.mulN uq s):=Fx.mul gu (by omega) (hl.tfx q uq huq) (hl.gfx s hsm);refine ⟨by rw [ei]; exact hl.ggd,by rw [ei]; exact hl.gfx,?_,?_,?_,?_,?_,?_,?_,?_,?_,?_,?_,?_⟩
 ·rw [ei]
  intro h1 z hz;rw [find_ne (by omega),tick_ne (by omega)] at hz;exact hl.low h1 z hz
 ·rw [ei]
  show (if i=ap s q then _ else _)=_;rw [if_neg,hl.self];intro e; rw [← e,hl.self] at hp; cases hp
 ·rw [ei]
  intro p u hu;have hu':(if p=ap s q then some (Ma.mulN uq s) else (T i).rep p)=some u:=hu
  split at hu'
  ·cases hu'; exact gy
  ·exact hl.tgd p u hu'
 ·rw [ei]
  intro p u hu;have hu':(if p=ap s q then some (Ma.mulN uq s) else (T i).rep p)=some u:=hu
  split at hu'
  ·cases hu'; exact fy
  ·exact hl.tfx p u hu'
 ·rw [ei]
  intro p u hu;have hu':(if p=ap s q then some (Ma.mulN uq s) else (T i).rep p)=some u:=hu
  split at hu'
  ·rename_i e; cases hu'; rw [e]; exact ay
  ·exact hl.tat p u hu'
 ·rw [ei]
  intro p u hu;have hu':(if p=ap s q then some (Ma.mulN uq s) else (T i).rep p)=some u:=hu
  split at hu'
  ·rename_i e; rw [e]; exact ap_lt gs hq
  ·exact hl.tlt p u hu'
 ·rw [ei]
  intro p u hu;have hu':(if p=ap s q then some (Ma.mulN uq s) else (T i).rep p)=some u:=hu
  split at hu'
  ·cases hu'; exact .mul _ _ (hl.tgr q uq huq) (.gen _ hsm)
  ·exact hl.tgr p u hu'
 ·rw [ei]
  show ((T i).orb++[ap s q]).Nodup;rw [List.nodup_append];refine ⟨hl.nd,by simp,?_⟩;intro a ha b hb e;rw [List.mem_singleton] at hb;subst hb; subst e;obtain ⟨u,hu⟩:=(hl.orb _).1 ha;rw [hp] at hu; cases hu
 ·rw [ei]
  intro p;show p∈(T i).orb++[ap s q]↔∃ u,(if p=ap s q then some (Ma.mulN uq s) else (T i).rep p)=some u;rw [List.mem_append,List.mem_singleton]
  by_cases e:p=ap s q
  ·rw [if_pos e]; exact ⟨fun _=>⟨_,rfl⟩,fun _=>.inr e⟩
  ·rw [if_neg e,← hl.orb p]; exact ⟨fun h=>h.resolve_right e,.inl⟩
 ·rw [ei]
  intro p;show (if p=q then (T i).tried p+1 else (T i).tried p)≤(T i).gens.length
  split
  ·rename_i e; subst e; omega
  ·exact hl.le p
 ·rw [ei]
  intro p hp2;have hp3:(if p=ap s q then some (Ma.mulN uq s) else (T i).rep p)=none:=hp2;show (if p=q then (T i).tried p+1 else (T i).tried p)=0
  split at hp3
  ·cases hp3
  ·rw [if_neg]
   ·exact hl.tr0 p hp3
   ·rintro rfl; rw [huq] at hp3; cases hp3
 ·intro p u k hk0 hu hpk
  have hk2:k<(T i).gens.length:=by rw [ei] at hk0; exact hk0
  simp only [ei] at hu hpk ⊢
  have hto:∀ z v,(T i).rep z=some v→(if z=ap s q then some (Ma.mulN uq s) else (T i).rep z)=some v:=fun z v hz=>by
   rw [if_neg,hz];rintro rfl; rw [hp] at hz; cases hz
  have hold:∀ p u k (hk2:k<(T i).gens.length),(T i).rep p=some u→k<(T i).tried p→∃ v,(if ap (T i).gens[k] p=ap s q then some (Ma.mulN uq s) else (T i).rep (ap (T i).gens[k] p))=some v∧Sd n (trOf (find (tick T i q) i (ap s q) (Ma.mulN uq s))) (n - (i+1)) (Ma.mulN (Ma.mulN u (T i).gens[k]) (Ma.invN v)):=fun p u k hk2 hu hpk=>by
   obtain ⟨v,h1,h2⟩:=hl.pr p u k hk2 hu hpk;exact ⟨v,hto _ _ h1,Sd.mono (fun j p u _ e=>hx.rep j p u e) h2⟩
  by_cases e:p=ap s q
  ·
   rw [if_pos e] at hu
   exfalso
   by_cases e2:p=q
   ·rw [← e2,e,hp] at huq; cases huq
   ·rw [if_neg e2] at hpk
    have:=hl.tr0 p (by rw [e]; exact hp);omega
  ·rw [if_neg e] at hu
   by_cases e2:p=q
   ·subst e2
    rw [if_pos rfl] at hpk
    by_cases e3:k=(T i).tried p
    ·subst e3
     rw [huq] at hu; cases hu;rw [hs,if_pos rfl];refine ⟨_,rfl,?_⟩;rw [mul_inv gy];have hr:Rp n (i+1) (trOf T):=Lvl.rp fun j a b=>h j (by omega) b;exact Sd.mono (fun j p u _ e=>hx.rep j p u e) (Sd.one hr (by omega) (by omega))
    ·exact hold p u k hk2 hu (by omega)
   ·rw [if_neg e2] at hpk
    exact hold p u k hk2 hu hpk
end Go.Proofs.Cm

namespace Go.Proofs.YtdnmmibchbceeaaGreat
open Go.RowKit
open Go.Proofs
attribute [local irreducible] Go.Calls
theorem b_lss {w:World} {u v:Int} {b:Bool} (t:TypeId) (h:decide (u<v)=b):(binOp .lss t (.int .i64 u) (.int .i64 v)).run Tryz.prog w=.ok (.bool b) w:=by
 subst h;simp [binOp,Op.intCmp]
theorem b_leq {w:World} {u v:Int} {b:Bool} (t:TypeId) (h:decide (u≤v)=b):(binOp .leq t (.int .i64 u) (.int .i64 v)).run Tryz.prog w=.ok (.bool b) w:=by
 subst h;simp [binOp,Op.intCmp]
theorem b_geq {w:World} {u v:Int} {b:Bool} (t:TypeId) (h:decide (v≤u)=b):(binOp .geq t (.int .i64 u) (.int .i64 v)).run Tryz.prog w=.ok (.bool b) w:=by
 subst h;simp [binOp,Op.intCmp]
theorem b_neqB {w:World} {u v:Int} {b:Bool} (t:TypeId) (h:decide (u≠v)=b):(binOp .neq t (.int .i64 u) (.int .i64 v)).run Tryz.prog w=.ok (.bool b) w:=by
 subst h
 by_cases e:u=v <;> simp [binOp,Op.intCmp,e]
def GI (w:World) (b:Nat) (d:Int) (a:Option Addr) (ll:List (List Int)) (c:Nat):Prop :=
 w.cell? ⟨b,0,none⟩=some (.int .i64 d)∧w.cell? ⟨b,1,none⟩=some (.slice a ll.length c)∧Rg.Rows w (.slice a ll.length c) ll∧b<w.heap.size
theorem GI.c0 {w:World} {b:Nat} {d:Int} {a:Option Addr} {ll:List (List Int)} {c:Nat} (h:GI w b d a ll c):w.cell? ⟨b,0,none⟩=some (.int .i64 d):=h.1
theorem GI.c1 {w:World} {b:Nat} {d:Int} {a:Option Addr} {ll:List (List Int)} {c:Nat} (h:GI w b d a ll c):w.cell? ⟨b,1,none⟩=some (.slice a ll.length c):=h.2.1
theorem GI.rows {w:World} {b:Nat} {d:Int} {a:Option Addr} {ll:List (List Int)} {c:Nat} (h:GI w b d a ll c):Rg.Rows w (.slice a ll.length c) ll:=h.2.2.1
theorem GI.lt {w:World} {b:Nat} {d:Int} {a:Option Addr} {ll:List (List Int)} {c:Nat} (h:GI w b d a ll c):b<w.heap.size:=h.2.2.2
theorem GI.below {w w':World} {b:Nat} {d:Int} {a:Option Addr} {ll:List (List Int)} {c:Nat} (h:GI w b d a ll c) (hb:Below w.heap.size w w'):GI w' b d a ll c :=
 ⟨(hb.cell (p:=⟨b,0,none⟩) h.lt).trans h.c0,(hb.cell (p:=⟨b,1,none⟩) h.lt).trans h.c1,Rg.Rows.below h.rows hb,Nat.lt_of_lt_of_le h.lt hb.size⟩
theorem GI.new {w:World} {d:Int} {a:Option Addr} {ll:List (List Int)} {c:Nat} (h:Rg.Rows w (.slice a ll.length c) ll):GI (w.alloc (.cells #[.int .i64 d,.slice a ll.length c] 24)) w.heap.size d a ll c :=
 ⟨by rw [Rg.cellNew]; rfl,by rw [Rg.cellNew]; rfl,Rg.Rows.below h ((Below.refl _ _).alloc (Nat.le_refl _) _),by simp⟩
theorem GI.enter {w:World} {gv:Value} (d:Int) {ll:List (List Int)} (h:Rg.Rows w gv ll):∃ a c,gv=.slice a ll.length c∧GI (w.alloc (.cells #[.int .i64 d,.slice a ll.length c] 24)) w.heap.size d a ll c∧Below w.heap.size w (w.alloc (.cells #[.int .i64 d,.slice a ll.length c] 24)):=by
 obtain ⟨a,c,rfl,_⟩:=h.shape;exact ⟨a,c,rfl,GI.new h,(Below.refl _ _).alloc (Nat.le_refl _) _⟩
end Go.Proofs.YtdnmmibchbceeaaGreat

namespace Go.Proofs.YtdnmmibchbceeaaGreat
open Go.RowKit
open Go.Proofs
open Go.Proofs.Ob
attribute [local irreducible] Go.Calls
def PR (B:Nat) (w:World) (v:Value) (gs:List (List Nat)):Prop :=
 B≤w.heap.size∧∃ us,w.ownsRow B 30 1 v gs.length us∧Rg.Elts w us gs∧Rg.Offs us v.ownBlock
theorem PR.nil {B:Nat} {w:World} (h:B≤w.heap.size):PR B w (.slice none 0 0) []:=⟨h,[],World.ownsRow_nil _ _ _ _,Rg.Elts.nil _,Rg.Offs.nil _⟩
theorem PR.below {B:Nat} {w w':World} {v:Value} {gs:List (List Nat)} (h:PR B w v gs) (hb:Below w.heap.size w w'):PR B w' v gs:=by
 obtain ⟨h0,us,h1,h2,h3⟩:=h;exact ⟨Nat.le_trans h0 hb.size,us,Rg.row_below h1 hb,h2.below hb,h3⟩
theorem PR.rows {B:Nat} {w:World} {v:Value} {gs:List (List Nat)} (h:PR B w v gs) (hl:gs.length≤1000000000):Rg.NRows w v gs:=by
 obtain ⟨h0,us,h1,h2,h3⟩:=h;exact h2.rows (Rg.Vals.of_row h1 hl)
theorem PR.lt {B:Nat} {w:World} {v:Value} {gs:List (List Nat)} (h:PR B w v gs):∀ j,v.ownBlock=some j→B≤j∧j<w.heap.size:=by
 obtain ⟨h0,us,h1,h2,h3⟩:=h;exact fun j e=>h1.lt j e
theorem PR.off {B:Nat} {w:World} {v u:Value} {gs:List (List Nat)} (h:PR B w v gs) (hu:Rg.Fresh w.heap.size u):Rg.Off u v.ownBlock:=Rg.Off.fresh hu fun j e=>(h.lt j e).2
theorem PR.app {B:Nat} {w:World} {v u:Value} {gs:List (List Nat)} {g:List Nat} (h:PR B w v gs) (hu:Rg.NP w u g) (hs:∃ a n c,u=.slice a n c) (ho:Rg.Off u v.ownBlock) (hn:gs.length<1000000) (ty:TypeId) :
  ∃ v' X,(Builtin.append_ #[22,22] ty #[v,.slice (some ⟨w.heap.size,0,none⟩) 1 1]).run Tryz.prog (w.alloc (.cells #[u] 30))=.ok v' X ∧
   PR B X v' (gs++[g])∧Below B w X∧(∀ v2 l2,Rg.NP w v2 l2→Rg.Off v2 v.ownBlock→Rg.NP X v2 l2∧Rg.Off v2 v'.ownBlock)∧(∃ a c,v'=.slice a (gs.length+1) c):=by
 obtain ⟨a,n,c,rfl⟩:=hs;obtain ⟨h0,us,h1,h2,h3⟩:=h;have hba:Below w.heap.size w (w.alloc (.cells #[.slice a n c] 30)):=(Below.refl _ _).alloc (Nat.le_refl _) _;obtain ⟨v',X,r1,r2,r3,r4,r5⟩:=app_run (P:=Tryz.prog) slPerms ty (Rg.row_below h1 hba) (by simp; omega) w.heap.size 1 (u:=.slice a n c) (by rw [Rg.cellNew]; rfl) rfl (by omega);have hE:=(h2.below hba).snoc (hu.below hba);have hO:=h3.snoc ho;have hge:(w.alloc (.cells #[.slice a n c] 30)).heap.size≤X.heap.size:=r3.size
 have hsz:(w.alloc (.cells #[.slice a n c] 30)).heap.size=w.heap.size+1:=by simp
 refine ⟨v',X,r1,⟨by omega,_,by rw [List.length_append]; exact r2,hE.grown hO r3,Rg.Offs.next hO hE r4 (Nat.le_refl _)⟩,((Below.refl _ _).alloc h0 _).grown r3 (by omega) (fun j e=>(h1.lt j e).1),fun v2 l2 e1 e2=>?_,r5⟩;exact ⟨(e1.below hba).grown e2 r3,Rg.Off.next e2 (e1.below hba) r4 (Nat.le_refl _)⟩
theorem run_build1P (X:World) (u:Value) (hs:∃ a n c,u=.slice a n c):(Instr.buildSlice 22 1 #[(0,u)]).run Tryz.prog X=.ok (.slice (some ⟨X.heap.size,0,none⟩) 1 1) (X.alloc (.cells #[u] 30)):=by
 obtain ⟨i0,hi,hz0,hz1,hz2⟩:=info_parts infoPerm;obtain ⟨a,n,c,rfl⟩:=hs;refine run_buildSlice X 22 30 1 _ _ i0 _ Tryz.underlying22 hi hz0 (by rw [hz1]; decide) (by rw [hz1]; decide) ?_;generalize (fun x=>((Value.slice none 0 0).cells)[x % (Value.slice none 0 0).cells.size]!)=f;rw [hz1];have h1:Array.range (1*1)=#[0]:=rfl;simp [Instr.fill,Value.cells,h1]
theorem ofN_inj {a b:List Nat}:Ma.ofN a=Ma.ofN b↔a=b:=by
 constructor
 ·intro h
  have:=congrArg (fun l=>l.map Int.toNat) h
  simpa [Ma.ofN,List.map_map,Function.comp_def] using this
 ·rintro rfl; rfl

theorem szP:(Tryz.prog.info? 30).map (·.size)=some 1:=by kernel_rfl

theorem exec_makeFunc {o:Oper} {a:Act} {w:World} (F:FuncId) (x:Operand) (ho:o.op=.makeFunc (.func F) #[] #[x]) {v:Value} (hx:a.eval x=v):(execOp a.eval o).run Tryz.prog w=.ok (.value (.func (.func F) #[] #[v])) w:=by
 unfold execOp;simp [ho,hx,Instr.makeFunc]

theorem exec_makeMap {o:Oper} {a:Act} {w:World} (t:TypeId) (ho:o.op=.makeMap t none):(execOp a.eval o).run Tryz.prog w=.ok (.value (.map (some w.heap.size))) (w.alloc (.map #[] 0)):=by
 unfold execOp;have h:=run_makeMap_plain (P:=Tryz.prog) w t;simp [ho,h,Result.andThen]
end Go.Proofs.YtdnmmibchbceeaaGreat

namespace Go.Proofs
open Go.Shelf
def Tryz.lays189_ren:Go.Shelf.Ren:=⟨fun | 189=>144 | 125=>82 | 257=>158 | 128=>109 | 129=>110 | 294=>159 | 295=>160 | 296=>161 | 297=>162 | 298=>163 | 299=>164 | 216=>165 | 300=>166 | 301=>167 | 328=>168 | 329=>129 | 330=>130 | 331=>169 | 332=>170 | 215=>133 | 343=>171 | n=>n,fun | 28=>25 | 3=>3 | 46=>129 | 0=>0 | 51=>157 | 53=>159 | 4=>4 | 183=>151 | 182=>150 | 131=>118 | 5=>5 | 9=>9 | 218=>182 | 222=>186 | 228=>202 | 229=>203 | n=>n,fun | n=>n⟩
theorem Tryz.lays189:Go.Proofs.Lays.n189 Tryz.prog Tryz.lays189_ren:={
 mixed:=by kernel_rfl
 f125:=Tryz.func82.trans (congrArg some (by kernel_rfl))
 f128:=Tryz.func109.trans (congrArg some (by kernel_rfl))
 f129:=Tryz.func110.trans (congrArg some (by kernel_rfl))
 f189:=Tryz.func144.trans (congrArg some (by kernel_rfl))
 f215:=Tryz.func133.trans (congrArg some (by kernel_rfl))
 f216:=Tryz.func165.trans (congrArg some (by kernel_rfl))
 f257:=Tryz.func158.trans (congrArg some (by kernel_rfl))
 f294:=Tryz.func159.trans (congrArg some (by kernel_rfl))
 f295:=Tryz.func160.trans (congrArg some (by kernel_rfl))
 f296:=Tryz.func161.trans (congrArg some (by kernel_rfl))
 f297:=Tryz.func162.trans (congrArg some (by kernel_rfl))
 f298:=Tryz.func163.trans (congrArg some (by kernel_rfl))
 f299:=Tryz.func164.trans (congrArg some (by kernel_rfl))
 f300:=Tryz.func166.trans (congrArg some (by kernel_rfl))
 f301:=Tryz.func167.trans (congrArg some (by kernel_rfl))
 f328:=Tryz.func168.trans (congrArg some (by kernel_rfl))
 f329:=Tryz.func129.trans (congrArg some (by kernel_rfl))
 f330:=Tryz.func130.trans (congrArg some (by kernel_rfl))
 f331:=Tryz.func169.trans (congrArg some (by kernel_rfl))
 f332:=Tryz.func170.trans (congrArg some (by kernel_rfl))
 f343:=Tryz.func171.trans (congrArg some (by kernel_rfl))
 t0:=Tryz.underlying0
 a0:=Tryz.isAgg0
 z0:=Tryz.sizeOf0
 v0:=Tryz.zeroValue0
 t3:=Tryz.underlying3
 a3:=Tryz.isAgg3
 z3:=Tryz.sizeOf3
 v3:=Tryz.zeroValue3
 t4:=Tryz.underlying4
 a4:=Tryz.isAgg4
 z4:=Tryz.sizeOf4
 v4:=Tryz.zeroValue4
 t5:=Tryz.underlying5
 a5:=Tryz.isAgg5
 z5:=Tryz.sizeOf5
 v5:=Tryz.zeroValue5
 t9:=Tryz.underlying9
 a9:=Tryz.isAgg9
 z9:=Tryz.sizeOf9
 v9:=Tryz.zeroValue9
 t28:=Tryz.underlying25
 a28:=Tryz.isAgg25
 z28:=Tryz.sizeOf25
 v28:=Tryz.zeroValue25
 t46:=Tryz.underlying129
 a46:=Tryz.isAgg129
 z46:=Tryz.sizeOf129
 v46:=Tryz.zeroValue129
 t51:=Tryz.underlying157
 a51:=Tryz.isAgg157
 z51:=Tryz.sizeOf157
 v51:=Tryz.zeroValue157
 t53:=Tryz.underlying159
 a53:=Tryz.isAgg159
 z53:=Tryz.sizeOf159
 v53:=Tryz.zeroValue159
 t131:=Tryz.underlying118
 a131:=Tryz.isAgg118
 z131:=Tryz.sizeOf118
 v131:=Tryz.zeroValue118
 t182:=Tryz.underlying150
 a182:=Tryz.isAgg150
 z182:=Tryz.sizeOf150
 v182:=Tryz.zeroValue150
 t183:=Tryz.underlying151
 a183:=Tryz.isAgg151
 z183:=Tryz.sizeOf151
 v183:=Tryz.zeroValue151
 t218:=Tryz.underlying182
 a218:=Tryz.isAgg182
 z218:=Tryz.sizeOf182
 v218:=Tryz.zeroValue182
 t222:=Tryz.underlying186
 a222:=Tryz.isAgg186
 z222:=Tryz.sizeOf186
 v222:=Tryz.zeroValue186
 t228:=Tryz.underlying202
 a228:=Tryz.isAgg202
 z228:=Tryz.sizeOf202
 v228:=Tryz.zeroValue202
 t229:=Tryz.underlying203
 a229:=Tryz.isAgg203
 z229:=Tryz.sizeOf203
 v229:=Tryz.zeroValue203 }
open Go.Sort Go.RowKit in
theorem Tryz.slices_Sort_int (blk off cap:Nat) (zs:List Int) (w:World) (hH:Holds (Value.int .i64) w blk off zs.toArray) (hblk:blk<w.heap.size) (hsz:zs.length<4611686018427387904) :
  Calls Tryz.prog 144 #[.slice (some ⟨blk,off,none⟩) zs.length cap] w fun e w' =>
   e=.returned (.tuple #[])∧∃ n os,w'=grow (putRow (Value.int .i64) (Sort.ahead w n) blk off (zs.mergeSort fun x y=>decide (x≤y)).toArray) os:=Any.slices_Sort_int Tryz.lays189 blk off cap zs w hH hblk hsz
end Go.Proofs

namespace Go.Proofs.YtdnmmibchbceeaaGreat
open Go.RowKit
open Go.Proofs
open Go.Proofs.Ob
attribute [local irreducible] Go.Calls
theorem asc_length (l:List Int):(asc l).length=l.length:=by
 rw [asc_sort]; exact List.length_mergeSort _
theorem sort_own (B n:Nat) (v:Value) (l:List Int) (w:World) (h:w.ownsRow B 3 1 v n (l.map (Value.int .i64))) (hn:0<n) (hm:n≤1000000000) :
  Calls Tryz.prog 144 #[v] w fun e w'=>(∃ r,e=.returned r)∧w'.ownsRow B 3 1 v n ((asc l).map (Value.int .i64))∧w.grownBy w' v.ownBlock:=by
 obtain ⟨h1,h2⟩:=h
 have hl:l.length=n:=by simpa using h1
 rcases h2 with ⟨_,h0⟩ | ⟨g,cap,cur,rfl,hg,hc,h3,h4,h5,h6⟩
 ·omega
 subst hl;rw [Nat.mul_one] at h6;have hH:=holds_of_blockI hc h6;refine (Tryz.slices_Sort_int g 0 cap l w hH (Array.getElem?_eq_some_iff.1 hc).1 (by omega)).mono ?_;rintro e w' ⟨rfl,N,os,rfl⟩;have e1:(l.mergeSort fun x y=>decide (x≤y))=asc l:=(asc_sort l).symm;rw [e1];refine ⟨⟨_,rfl⟩,ownsRow_sortedI (asc_length l) hg hc h3 h4 h5,grownBy_sortedI _⟩
end Go.Proofs.YtdnmmibchbceeaaGreat

namespace Go.Proofs.Rg
open Go Go.RowKit
variable {P:Program} {md:Region.Mode} {ops:Array Oper} {Q:Exit→Act→World→Prop} {S:Array Bool→World→Prop}
theorem doesRun {i d:Nat} {I:World→Prop} {R:Value→World→Prop} {K:World→World→Prop} {oi:Oper} {b:Act} {W W':World} {v:Value} (hi:ops[i]?=some oi) (hd:oi.dst=some d) (hw:Region.wanted oi (yielded ops b.tmps)=true)
  (hr:(execOp b.eval oi).run P W=.ok (.value v) W') (hp:I W'∧R v W'∧K W W'):Does P ops Q i d I R K b W :=
 wpOp_value (some d) hi hd hw hr ⟨v,rfl,hp⟩
def BlkF (B:Nat) (us:List Value) (v:Value) (w:World):Prop:=∃ p,v=.slice (some ⟨p,0,none⟩) us.length us.length∧B≤p∧p<w.heap.size∧∀ j (h:j<us.length),w.cell? ⟨p,j,none⟩=some us[j]
theorem BlkF.below {B:Nat} {us:List Value} {v:Value} {w w':World} (h:BlkF B us v w) (hb:Below w.heap.size w w'):BlkF B us v w':=by
 obtain ⟨p,e,h0,h1,h2⟩:=h;exact ⟨p,e,h0,Nat.lt_of_lt_of_le h1 hb.size,fun j hj=>(hb.cell (p:=⟨p,j,none⟩) h1).trans (h2 j hj)⟩
theorem BlkF.new {B:Nat} (w:World) (us:List Value) (t:TypeId) (hB:B≤w.heap.size):BlkF B us (.slice (some ⟨w.heap.size,0,none⟩) us.length us.length) (w.alloc (.cells us.toArray t)) :=
 ⟨w.heap.size,rfl,hB,by simp,fun j hj=>by rw [cellNew]; simp [List.getElem?_eq_getElem hj]⟩
theorem BlkF.grown {B:Nat} {us:List Value} {v:Value} {w w':World} {k:Option Nat} (h:BlkF B us v w) (hg:w.grownBy w' k) (hk:∀ j,k=some j→j<B):BlkF B us v w':=by
 obtain ⟨p,e,h0,h1,h2⟩:=h
 exact ⟨p,e,h0,Nat.lt_of_lt_of_le h1 hg.size,fun j hj=>by
  rw [← h2 j hj]
  exact World.cell?_of_block (a:=⟨p,j,none⟩) (hg.block p h1 (fun e=>by have:=hk p e.symm; omega))⟩
theorem BlkF.vals {B:Nat} {us:List Value} {v:Value} {w:World} (h:BlkF B us v w) (hl:us.length≤1000000):Vals w v us:=by
 obtain ⟨p,rfl,h0,h1,h2⟩:=h;exact Vals.mk h1 (Nat.le_refl _) (by unfold maxLen; omega) (by omega) (fun i hi=>by rw [Nat.zero_add]; exact h2 i hi)
end Go.Proofs.Rg

namespace Go.Proofs.YtdnmmibchbceeaaGreat
open Go.RowKit
open Go.Proofs
open Go.Proofs.Ob
attribute [local irreducible] Go.Calls
def Own0 (B:Nat) (u:Value) (w:World):Prop:=w.ownsRow B 3 1 u 0 []∧∃ p,u=.slice (some ⟨p,0,none⟩) 0 0∧p<w.heap.size∧w.cell? ⟨p,0,none⟩=none
theorem Own0.below {B:Nat} {u:Value} {w w':World} (h:Own0 B u w) (hb:Below w.heap.size w w'):Own0 B u w':=by
 obtain ⟨h1,p,e,h2,h3⟩:=h;exact ⟨Rg.row_below h1 hb,p,e,Nat.lt_of_lt_of_le h2 hb.size,(hb.cell (p:=⟨p,0,none⟩) h2).trans h3⟩
theorem Own0.new {B:Nat} (w:World) (hB:B≤w.heap.size):Own0 B (.slice (some ⟨w.heap.size,0,none⟩) 0 0) (w.alloc (.cells #[] 3)):=by
 refine ⟨⟨rfl,.inr ⟨w.heap.size,0,#[],rfl,hB,by show (w.heap.push _)[w.heap.size]?=_; simp,Nat.le_refl _,Nat.zero_le _,rfl,rfl⟩⟩,w.heap.size,rfl,by simp,by rw [Rg.cellNew]; rfl⟩
theorem Own0.ne {B B':Nat} {u v:Value} {x:Value} {w:World} (h:Own0 B u w) (h':Rg.BlkF B' [x] v w):∀ p,v=.slice (some ⟨p,0,none⟩) 1 1→u.ownBlock≠some p:=by
 obtain ⟨_,p,rfl,_,h3⟩:=h;obtain ⟨q,rfl,_,_,h4⟩:=h';intro p' e' e;simp at e';subst e';simp [Value.ownBlock] at e;subst e;have:=h4 0 (by simp);rw [h3] at this; cases this
theorem BlkF.off {B:Nat} {x v:Value} {w w':World} {k:Option Nat} (h:Rg.BlkF B [x] v w) (hg:w.grownBy w' k) (hk:∀ p,v=.slice (some ⟨p,0,none⟩) 1 1→k≠some p):Rg.BlkF B [x] v w':=by
 obtain ⟨p,e,h0,h1,h2⟩:=h
 exact ⟨p,e,h0,Nat.lt_of_lt_of_le h1 hg.size,fun j hj=>by
  rw [← h2 j hj]
  exact World.cell?_of_block (a:=⟨p,j,none⟩) (hg.block p h1 (fun e'=>hk p e e'.symm))⟩
theorem ints_cells {l:List Int}:∀ u∈l.map (Value.int .i64),u.oneCell'=true:=fun u hu=>by
 obtain ⟨x,_,rfl⟩:=List.mem_map.1 hu; rfl

def R2 (B:Nat) (w:World) (v1 v2:Value) (l1 l2:List Int):Prop :=
 B≤w.heap.size∧w.ownsRow B 3 1 v1 l1.length (l1.map (Value.int .i64))∧w.ownsRow B 3 1 v2 l2.length (l2.map (Value.int .i64))∧Rg.Apart v1 v2
theorem R2.below {B:Nat} {w w':World} {v1 v2:Value} {l1 l2:List Int} (h:R2 B w v1 v2 l1 l2) (hb:Below w.heap.size w w'):R2 B w' v1 v2 l1 l2 :=
 ⟨Nat.le_trans h.1 hb.size,Rg.row_below h.2.1 hb,Rg.row_below h.2.2.1 hb,h.2.2.2⟩
theorem R2.lt1 {B:Nat} {w:World} {v1 v2:Value} {l1 l2:List Int} (h:R2 B w v1 v2 l1 l2):∀ j,v1.ownBlock=some j→B≤j∧j<w.heap.size:=fun j e=>h.2.1.lt j e
theorem R2.nil {B:Nat} {w:World} (h:B≤w.heap.size):R2 B w (.slice none 0 0) (.slice none 0 0) [] []:=⟨h,World.ownsRow_nil _ _ _ _,World.ownsRow_nil _ _ _ _,Rg.Apart.nil _⟩
theorem R2.app1 {B:Nat} {w:World} {v1 v2:Value} {l1 l2:List Int} (h:R2 B w v1 v2 l1 l2) (hl:l1.length<1000000) {x:Int} {p c:Nat} (hc:w.cell? ⟨p,0,none⟩=some (.int .i64 x)) (ty:TypeId) :
  ∃ v' X,(Builtin.append_ #[25,25] ty #[v1,.slice (some ⟨p,0,none⟩) 1 c]).run Tryz.prog w=.ok v' X∧R2 B X v' v2 (l1++[x]) l2∧w.grownBy X v1.ownBlock:=by
 obtain ⟨h1,h2,h3,h4⟩:=h;obtain ⟨v',X,r1,r2,r3,r4,_⟩:=app_run (P:=Tryz.prog) slInts ty h2 h1 p c hc rfl hl;exact ⟨v',X,r1,⟨Nat.le_trans h1 r3.size,by simpa using r2,h4.keep h3 r3,h4.grow h3 r4 (Nat.le_refl _)⟩,r3⟩
theorem R2.swap {B:Nat} {w:World} {v1 v2:Value} {l1 l2:List Int} (h:R2 B w v1 v2 l1 l2):R2 B w v2 v1 l2 l1:=⟨h.1,h.2.2.1,h.2.1,h.2.2.2.symm⟩
end Go.Proofs.YtdnmmibchbceeaaGreat

namespace Go.Proofs.YtdnmmibchbceeaaGreat
open Go.RowKit
open Go.Proofs
open Go.Proofs.Ob
attribute [local irreducible] Go.Calls
variable {t e bt:TypeId} {B X n:Nat} {w w':World} {v lv:Value} {O:List (List Int)} {l:List Int} {F:Nat→Bool}
theorem infoInts:(Tryz.prog.info? 25).map (fun i=>(i.zero,i.size,i.bytes))=some (some (.slice none 0 0),1,24):=by kernel_rfl
theorem slIntss:Rg.SlT Tryz.prog 84 25 (.slice none 0 0) 24:=⟨Tryz.underlying84,infoInts,rfl,by decide⟩
theorem run_build1L (X:World) (u:Value) (hs:∃ a n c,u=.slice a n c):(Instr.buildSlice 84 1 #[(0,u)]).run Tryz.prog X=.ok (.slice (some ⟨X.heap.size,0,none⟩) 1 1) (X.alloc (.cells #[u] 25)):=by
 obtain ⟨i0,hi,hz0,hz1,hz2⟩:=info_parts infoInts;obtain ⟨a,n,c,rfl⟩:=hs;refine run_buildSlice X 84 25 1 _ _ i0 _ Tryz.underlying84 hi hz0 (by rw [hz1]; decide) (by rw [hz1]; decide) ?_;generalize (fun x=>((Value.slice none 0 0).cells)[x % (Value.slice none 0 0).cells.size]!)=f;rw [hz1];have h1:Array.range (1*1)=#[0]:=rfl;simp [Instr.fill,Value.cells,h1]
end Go.Proofs.YtdnmmibchbceeaaGreat

namespace Go.Proofs.YtdnmmibchbceeaaGreat
open Go.RowKit
open Go.Proofs
attribute [local irreducible] Go.Calls
theorem chMul_any (v1 v2:Value) (a c:List Nat) (w:World) (h:Rg.NP w v1 a) (h':Rg.NP w v2 c) (hac:∀ x∈a,x<c.length) (hn:a.length≤1000) (h1:1≤a.length) (h2:1≤c.length) :
  Calls Tryz.prog 146 #[v1,v2] w fun e w'=>∃ v,e=.returned v∧Rg.NPF w w' v (Ma.mulN a c)∧Below w.heap.size w w':=by
 obtain ⟨ad,cap,rfl,hc,_,_,hcell⟩:=h.shape;obtain ⟨b,o,rfl,hb,hr⟩:=hcell (by omega);obtain ⟨ad2,cap2,rfl,hc2,_,_,hcell2⟩:=h'.shape;obtain ⟨b2,o2,rfl,hb2,hr2⟩:=hcell2 (by omega);have Hr:=ι hr;have Hr2:=ι hr2;have Hac:=ι hac;clear hr hcell h hr2 hcell2 h' hac;have hmk:=mkPerm a.length (by omega) w;have hrow:=ι (World.rowIs_made w (.int .i64 0) a.length 3)
 go_enter Tryz.func146,Tryz.ntmps146
 go_wp2;clear hmk
 go_loopw [13] (fun i wr=>∃ k:Nat,k≤a.length∧i=.int .i64 k∧Hid (wr.rowIs w.heap.size 3 a.length (fun j=>.int .i64 (if j<k then ((c.getD (a.getD j 0) 0:Nat):Int) else 0)))∧Below w.heap.size w wr) (fun i _=>a.length - (intOf i).toNat)
 case atStart=>exact ⟨0,by omega,rfl,hrow.out.congr (fun i hi=>by simp),(Below.refl _ _).alloc (Nat.le_refl _) _⟩
 case round =>
  obtain ⟨k,hk,rfl,hs,hbel⟩:=hrel;obtain ⟨hc,hf⟩:=Rg.bcell hbel
  by_cases hlt:k<a.length
  ·have e0:wr.cell? ⟨b,o+k,none⟩=some (.int .i64 ((a[k]:Nat):Int)):=(hc b (o+k) hb).trans (Hr.out k hlt)
   have hak:a[k]<c.length:=Hac.out _ (List.getElem_mem hlt);have hga:a.getD k 0=a[k]:=Ma.getD_lt hlt
   have e1:wr.cell? ⟨b2,o2+a[k],none⟩=some (.int .i64 ((c.getD (a.getD k 0) 0:Nat):Int)):=by
    rw [hga,Ma.getD_lt hak];exact (hc b2 (o2+a[k]) hb2).trans (Hr2.out a[k] hak)
   generalize a[k]=x at *;have Hga:=ι hga;generalize hy:c.getD (a.getD k 0) 0=y at *;have Hy:=ι hy;clear hc hf hga hy;have c1:=hs.out.cell hlt;have f1:=hs.out.frozen k;simp only [Nat.lt_irrefl,if_false] at c1;go_wp2
   go_roundw
   case rel =>
    refine ⟨k+1,by omega,by go_num,?_,hbel.setCell (Nat.le_refl _) _⟩;refine (hs.out.set k _).congr fun i hi=>?_
    by_cases e:i=k
    ·subst e; rw [if_pos rfl,if_pos (by omega),Hy.out]
    ·rw [if_neg e]
     by_cases e2:i<k
     ·rw [if_pos e2,if_pos (by omega)]
     ·rw [if_neg e2,if_neg (by omega)]
   case measure=>simp [intOf]; omega
  ·obtain rfl:k=a.length:=by omega
   go_wp2;go_ret;refine ⟨_,rfl,⟨Rg.NP.of_rowIs hs.out (by rw [Ma.len_mulN]) (by omega) (fun i hi=>?_),Rg.Fresh.mk _ _ _ _⟩,by assumption⟩;rw [Ma.get_mulN];rw [Ma.len_mulN] at hi;rw [if_pos hi,Ma.getD_lt hi]
theorem chOne_any (n:Nat) (w:World) (hn:n≤1000) :
  Calls Tryz.prog 140 #[.int .i64 n] w fun e w'=>∃ v,e=.returned v∧Rg.NPF w w' v (Ma.oneN n)∧Below w.heap.size w w':=by
 have hmk:=mkPerm n (by omega) w;have hrow:=ι (World.rowIs_made w (.int .i64 0) n 3)
 go_enter Tryz.func140,Tryz.ntmps140
 go_wp2;clear hmk
 go_loopw [9] (fun i wr=>∃ k:Nat,k≤n∧i=.int .i64 k∧Hid (wr.rowIs w.heap.size 3 n (fun j=>.int .i64 (if j<k then (j:Int) else 0)))∧Below w.heap.size w wr) (fun i _=>n - (intOf i).toNat)
 case atStart=>exact ⟨0,by omega,rfl,hrow.out.congr (fun i hi=>by simp),(Below.refl _ _).alloc (Nat.le_refl _) _⟩
 case round =>
  obtain ⟨k,hk,rfl,hs,hbel⟩:=hrel
  by_cases hlt:k<n
  ·have c1:=hs.out.cell hlt
   have f1:=hs.out.frozen k;simp only [Nat.lt_irrefl,if_false] at c1;go_wp2
   go_roundw
   case rel =>
    refine ⟨k+1,by omega,by go_num,?_,hbel.setCell (Nat.le_refl _) _⟩;refine (hs.out.set k _).congr fun i hi=>?_
    by_cases e:i=k
    ·subst e; simp
    ·rw [if_neg e]
     by_cases e2:i<k
     ·rw [if_pos e2,if_pos (by omega)]
     ·rw [if_neg e2,if_neg (by omega)]
   case measure=>simp [intOf]; omega
  ·obtain rfl:k=n:=by omega
   go_wp2;go_ret;refine ⟨_,rfl,⟨Rg.NP.of_rowIs hs.out (by rw [Ma.len_oneN]) (by omega) (fun i hi=>?_),Rg.Fresh.mk _ _ _ _⟩,by assumption⟩;rw [Ma.get_oneN];rw [Ma.len_oneN] at hi;rw [if_pos hi]
theorem chInv_any (v:Value) (a:List Nat) (w:World) (h:Rg.NP w v a) (ha:Ma.okN a) (hn:a.length≤1000) (h1:1≤a.length) :
  Calls Tryz.prog 156 #[v] w fun e w'=>∃ v,e=.returned v∧Rg.NPF w w' v (Ma.invN a)∧Below w.heap.size w w':=by
 obtain ⟨ad,cap,rfl,hc,_,_,hcell⟩:=h.shape;obtain ⟨b,o,rfl,hb,hr⟩:=hcell (by omega);have Hr:=ι hr;clear hr hcell h;have hmk:=mkPerm a.length (by omega) w;have hrow:=ι (World.rowIs_made w (.int .i64 0) a.length 3)
 go_enter Tryz.func156,Tryz.ntmps156
 go_wp2;clear hmk
 go_loopw [11] (fun i wr=>∃ k:Nat,k≤a.length∧i=.int .i64 k∧Hid (wr.rowIs w.heap.size 3 a.length (fun j=>.int .i64 (if j∈a.take k then ((a.idxOf j:Nat):Int) else 0)))∧Below w.heap.size w wr) (fun i _=>a.length - (intOf i).toNat)
 case atStart=>exact ⟨0,by omega,rfl,hrow.out.congr (fun i hi=>by simp),(Below.refl _ _).alloc (Nat.le_refl _) _⟩
 case round =>
  obtain ⟨k,hk,rfl,hs,hbel⟩:=hrel;obtain ⟨hc,hf⟩:=Rg.bcell hbel
  by_cases hlt:k<a.length
  ·have hlt':k<a.length:=hlt
   have e0:wr.cell? ⟨b,o+k,none⟩=some (.int .i64 ((a[k]:Nat):Int)):=(hc b (o+k) hb).trans (Hr.out k hlt');have hak:a[k]<a.length:=Ma.okN_lt ha hlt';have hix:=Ma.idx_get ha hlt'
   have hmem:∀ i,i∈a.take (k+1)↔(i∈a.take k∨i=a[k]):=fun i=>by rw [List.take_succ_eq_append_getElem hlt',List.mem_append,List.mem_singleton]
   generalize hx:a[k]=x at *;have Hx:=ι hx;have Hix:=ι hix;have Hmem:=ι hmem;clear hx hc hf hix hmem;have c1:=hs.out.cell hak;have f1:=hs.out.frozen x;generalize (Value.int .i64 (if x∈a.take k then ((a.idxOf x:Nat):Int) else 0))=u0 at c1;go_wp2
   go_roundw
   case rel =>
    refine ⟨k+1,by omega,by go_num,?_,hbel.setCell (Nat.le_refl _) _⟩;refine (hs.out.set x _).congr fun i hi=>?_
    by_cases e:i=x
    ·subst e; rw [if_pos rfl,if_pos ((Hmem.out i).2 (.inr rfl)),Hix.out]
    ·rw [if_neg e]
     by_cases e2:i∈a.take k
     ·rw [if_pos e2,if_pos ((Hmem.out i).2 (.inl e2))]
     ·rw [if_neg e2,if_neg (fun e3=>((Hmem.out i).1 e3).elim e2 e)]
   case measure=>simp [intOf]; omega
  ·obtain rfl:k=a.length:=by omega
   go_wp2;go_ret;refine ⟨_,rfl,⟨Rg.NP.of_rowIs hs.out (by rw [Ma.len_invN]) (by omega) (fun i hi=>?_),Rg.Fresh.mk _ _ _ _⟩,by assumption⟩;rw [Ma.get_invN];rw [Ma.len_invN] at hi;rw [List.take_of_length_le (Nat.le_refl _),if_pos (Ma.okN_mem ha hi)]
theorem rowKp {M:Nat→Prop} {w w':World} {base:Nat} {e:TypeId} {size:Nat} {v:Value} {n:Nat} {xs:List Value} (h:w.ownsRow base e size v n xs) (hk:Rg.Kp M w w') (hM:∀ k,M k→v.ownBlock≠some k):w'.ownsRow base e size v n xs:=by
 obtain ⟨h1,h2⟩:=h
 rcases h2 with h2 | ⟨g,cap,cur,rfl,hg,hc,h3⟩
 ·exact ⟨h1,.inl h2⟩
 ·exact ⟨h1,.inr ⟨g,cap,cur,rfl,hg,(hk.block g (Array.getElem?_eq_some_iff.1 hc).1 (fun e=>hM g e (by simp [Value.ownBlock]))).trans hc,h3⟩⟩
def KF (F:Nat→Prop) (w w':World):Prop:=Rg.Kp (fun k=>¬ F k) w w'
theorem KF.refl (F:Nat→Prop) (w:World):KF F w w:=Rg.Kp.refl _ _
theorem KF.size {F:Nat→Prop} {w w':World} (h:KF F w w'):w.heap.size≤w'.heap.size:=Rg.Kp.size h
theorem KF.of_below {F:Nat→Prop} {w w':World} (h:Below w.heap.size w w'):KF F w w':=Rg.Kp.of_below h
theorem KF.trans {F F':Nat→Prop} {w w' w'':World} (h:KF F w w') (h':KF F' w' w'') (hF:∀ k,F k→F' k):KF F w w'':=Rg.Kp.trans h h' (fun k _ hk hf=>hk (hF k hf))
theorem KF.weak {F F':Nat→Prop} {w w':World} (h:KF F' w w') (hF:∀ k,F k→F' k):KF F w w':=Rg.Kp.weak h (fun k hk hf=>hk (hF k hf))
theorem KF.cell {F:Nat→Prop} {w w':World} (h:KF F w w') {b o:Nat} (hF:F b) (hb:b<w.heap.size):w'.cell? ⟨b,o,none⟩=w.cell? ⟨b,o,none⟩ :=
 World.cell?_of_block (a:=⟨b,o,none⟩) (Rg.Kp.block h b hb (fun e=>e hF))
theorem KF.below {F:Nat→Prop} {w w':World} {B:Nat} (h:KF F w w') (hB:B≤w.heap.size) (hF:∀ k,k<B→F k):Below B w w' :=
 ⟨Rg.Kp.os h,Rg.Kp.tape h,Rg.Kp.output h,h.size,fun k hk=>Rg.Kp.block h k (Nat.lt_of_lt_of_le hk hB) (fun e=>e (hF k hk))⟩
def Fup (F:Nat→Prop) (w w':World):Nat→Prop:=fun k=>F k∨(w.heap.size≤k∧k<w'.heap.size)
structure KG (F0:Nat→Prop) (w0:World) (F:Nat→Prop) (w:World):Prop where
 sub:∀ k,F0 k→F k
 lt:∀ k,F k→k<w.heap.size
 kf:KF F0 w0 w
theorem KG.refl {F:Nat→Prop} {w:World} (h:∀ k,F k→k<w.heap.size):KG F w F w:=⟨fun _ h=>h,h,KF.refl _ _⟩
theorem KG.up {F0 F:Nat→Prop} {w0 w w':World} (h:KG F0 w0 F w) (hb:Below w.heap.size w w'):KG F0 w0 (Fup F w w') w' :=
 ⟨fun k hk=>.inl (h.sub k hk),fun k hk=>by rcases hk with hk | hk; exact Nat.lt_of_lt_of_le (h.lt k hk) hb.size; exact hk.2,KF.trans h.kf (KF.of_below (F:=F) hb) h.sub⟩
theorem KG.kf' {F0 F:Nat→Prop} {w0 w w':World} (h:KG F0 w0 F w) (hk:KF F w w'):KG F0 w0 F w' :=
 ⟨h.sub,fun k hf=>Nat.lt_of_lt_of_le (h.lt k hf) hk.size,KF.trans h.kf hk h.sub⟩
theorem KG.trans {F0 F F':Nat→Prop} {w0 w w':World} (h:KG F0 w0 F w) (h':KG F w F' w'):KG F0 w0 F' w' :=
 ⟨fun k hk=>h'.sub k (h.sub k hk),h'.lt,KF.trans h.kf h'.kf h.sub⟩
structure CF (F:Nat→Prop) (w:World) (b o:Nat) (v:Value):Prop where
 cell:w.cell? ⟨b,o,none⟩=some v
 inF:F b
 lt:b<w.heap.size
theorem CF.up {F:Nat→Prop} {w w':World} {b o:Nat} {v:Value} (h:CF F w b o v) (hb:Below w.heap.size w w'):CF (Fup F w w') w' b o v :=
 ⟨(hb.cell (p:=⟨b,o,none⟩) h.lt).trans h.cell,.inl h.inF,Nat.lt_of_lt_of_le h.lt hb.size⟩
theorem CF.kf {F:Nat→Prop} {w w':World} {b o:Nat} {v:Value} (h:CF F w b o v) (hk:KF F w w'):CF F w' b o v :=
 ⟨(hk.cell h.inF h.lt).trans h.cell,h.inF,Nat.lt_of_lt_of_le h.lt hk.size⟩
theorem CF.mono {F F':Nat→Prop} {w:World} {b o:Nat} {v:Value} (h:CF F w b o v) (hF:∀ k,F k→F' k):CF F' w b o v:=⟨h.cell,hF _ h.inF,h.lt⟩
theorem CF.kg {F F':Nat→Prop} {w w':World} {b o:Nat} {v:Value} (h:CF F w b o v) (hk:KG F w F' w'):CF F' w' b o v:=(h.kf hk.kf).mono hk.sub
theorem fvals_up {F:Nat→Prop} {w w':World} {v:Value} {us:List Value} (h:Rg.FVals F w v us) (hb:Below w.heap.size w w'):Rg.FVals (Fup F w w') w' v us:=by
 obtain ⟨a,cap,h1,h2,h3,h4,h5⟩:=h;refine ⟨a,cap,h1,h2,h3,h4,fun h0=>?_⟩;obtain ⟨b,o,e1,e2,e3,e4⟩:=h5 h0;exact ⟨b,o,e1,Nat.lt_of_lt_of_le e2 hb.size,.inl e3,fun i hi=>(hb.cell (p:=⟨b,o+i,none⟩) e2).trans (e4 i hi)⟩
def FP (F:Nat→Prop) (w:World) (v:Value) (p:List Nat):Prop:=Rg.FI F w v (Ma.ofN p)
theorem FP.np {F:Nat→Prop} {w:World} {v:Value} {p:List Nat} (h:FP F w v p):Rg.NP w v p:=Rg.FI.ints h
theorem FP.up {F:Nat→Prop} {w w':World} {v:Value} {p:List Nat} (h:FP F w v p) (hb:Below w.heap.size w w'):FP (Fup F w w') w' v p:=fvals_up h hb
theorem FP.kf {F:Nat→Prop} {w w':World} {v:Value} {p:List Nat} (h:FP F w v p) (hk:KF F w w'):FP F w' v p:=Rg.FI.kp h hk (fun _ hF hn=>hn hF)
theorem FP.mono {F F':Nat→Prop} {w:World} {v:Value} {p:List Nat} (h:FP F w v p) (hF:∀ k,F k→F' k):FP F' w v p:=Rg.FI.mono h hF
theorem FP.kg {F F':Nat→Prop} {w w':World} {v:Value} {p:List Nat} (h:FP F w v p) (hk:KG F w F' w'):FP F' w' v p:=(h.kf hk.kf).mono hk.sub
theorem FP.new {F:Nat→Prop} {w w':World} {v:Value} {p:List Nat} (h:Rg.NPF w w' v p):FP (Fup F w w') w' v p:=by
 obtain ⟨h,hf⟩:=h;obtain ⟨a,cap,h1,h2,h3,h4,h5⟩:=h;refine ⟨a,cap,h1,h2,h3,h4,fun h0=>?_⟩;obtain ⟨b,o,e1,e2,e3⟩:=h5 h0;subst e1;exact ⟨b,o,rfl,e2,.inr ⟨hf _ _ _ h1,e2⟩,e3⟩
theorem FP.shape {F:Nat→Prop} {w:World} {v:Value} {p:List Nat} (h:FP F w v p) (h1:1≤p.length):∃ b o c,v=.slice (some ⟨b,o,none⟩) p.length c∧F b∧b<w.heap.size∧∀ i (hi:i<p.length),w.cell? ⟨b,o+i,none⟩=some (.int .i64 ((p[i]:Nat):Int)):=by
 obtain ⟨a,cap,e,h2,h3,h4,h5⟩:=h;rw [List.length_map,Ma.len_ofN] at e;obtain ⟨b,o,e1,e2,e3,e4⟩:=h5 (by rw [List.length_map,Ma.len_ofN]; omega);subst e1;exact ⟨b,o,cap,e,e3,e2,fun i hi=>by rw [e4 i (by simp [Ma.len_ofN]; exact hi)]; simp [Ma.ofN]⟩
theorem FP.cell {F:Nat→Prop} {w:World} {b o n c:Nat} {p:List Nat} (h:FP F w (.slice (some ⟨b,o,none⟩) n c) p) {i:Nat} (hi:i<p.length):CF F w b (o+i) (.int .i64 ((p.getD i 0:Nat):Int)):=by
 obtain ⟨b',o',c',e,h1,h2,h3⟩:=h.shape (by omega);simp at e;obtain ⟨⟨rfl,rfl⟩,_,_⟩:=e;exact ⟨by rw [h3 i hi]; simp [List.getD,List.getElem?_eq_getElem hi],h1,h2⟩
structure LV where
 g:Value
 us:List Value
 o:Value
 t:Nat→Value
 b:Nat→Value
open Go.Proofs.Cm (Lv Twr)
def cont (l:Lv) (v:LV) (m:Nat):Value :=
 if m=0 then v.g else if m=1 then v.o else if m<66 then v.t (m - 2) else if m<130 then v.b (m - 66) else .int .i64 ((l.tried (m - 130):Nat):Int)
structure LvOk (F:Nat→Prop) (L:Nat) (w:World) (l:Lv) (v:LV):Prop where
 gown:w.ownsRow 0 30 1 v.g l.gens.length v.us
 gel:Rg.FElts F w v.us (l.gens.map Ma.ofN)
 oown:w.ownsRow 0 3 1 v.o l.orb.length ((Ma.ofN l.orb).map (Value.int .i64))
 gF:∀ k,v.g.ownBlock=some k→¬ F k∧k≠L
 oF:∀ k,v.o.ownBlock=some k→¬ F k∧k≠L
 go:∀ k,v.g.ownBlock=some k→v.o.ownBlock≠some k
 some_:∀ p x,p<64→l.rep p=some x→FP F w (v.t p) x∧FP F w (v.b p) (Ma.invN x)
 none_:∀ p,p<64→l.rep p=none→v.t p=.slice none 0 0∧v.b p=.slice none 0 0
def LV.own (v:LV) (k:Nat):Prop:=v.g.ownBlock=some k∨v.o.ownBlock=some k
structure TowAt (F:Nat→Prop) (L n:Nat) (w:World) (T:Twr) (V:Nat→LV):Prop where
 Flt:∀ k,F k→k<w.heap.size
 LF:¬ F L
 row:w.rowIs L 178 (n*194) (fun j=>cont (T (j / 194)) (V (j / 194)) (j % 194))
 lv:∀ i,i<n→LvOk F L w (T i) (V i)
 dist:∀ i j,i<n→j<n→i≠j→∀ k,(V i).own k→¬ (V j).own k
theorem rowIs_lt {w:World} {b:Nat} {t:TypeId} {n:Nat} {f:Nat→Value} (h:w.rowIs b t n f):b<w.heap.size:=by
 obtain ⟨c,h1,_⟩:=h;exact (Array.getElem?_eq_some_iff.1 h1).1
theorem TowAt.lt {F:Nat→Prop} {L n:Nat} {w:World} {T:Twr} {V:Nat→LV} (h:TowAt F L n w T V):L<w.heap.size:=rowIs_lt h.row
theorem div_mod {i m n:Nat} (hi:i<n) (hm:m<194):(i*194+m) / 194=i∧(i*194+m) % 194=m∧i*194+m<n*194:=by
 refine ⟨by omega,by omega,?_⟩;have:(i+1)*194≤n*194:=Nat.mul_le_mul_right _ hi;omega
theorem TowAt.cell {F:Nat→Prop} {L n:Nat} {w:World} {T:Twr} {V:Nat→LV} (h:TowAt F L n w T V) {i m o:Nat} (hi:i<n) (hm:m<194) (ho:o=i*194+m):w.cell? ⟨L,o,none⟩=some (cont (T i) (V i) m):=by
 subst ho;obtain ⟨h1,h2,h3⟩:=div_mod hi hm;have:=h.row.cell h3;rw [this,h1,h2]
theorem TowAt.frozen {F:Nat→Prop} {L n:Nat} {w:World} {T:Twr} {V:Nat→LV} (h:TowAt F L n w T V) (o:Nat):w.frozen? ⟨L,o,none⟩=false:=h.row.frozen _
theorem LvOk.kp {F M:Nat→Prop} {L:Nat} {w w':World} {l:Lv} {v:LV} (h:LvOk F L w l v) (hk:Rg.Kp M w w') (hF:∀ k,F k→¬ M k) (ho:∀ k,v.own k→¬ M k):LvOk F L w' l v:=by
 refine ⟨rowKp h.gown hk (fun k hm e=>ho k (.inl e) hm),h.gel.kp hk hF,rowKp h.oown hk (fun k hm e=>ho k (.inr e) hm),h.gF,h.oF,h.go,fun p x hp hx=>?_,h.none_⟩;obtain ⟨h1,h2⟩:=h.some_ p x hp hx;exact ⟨Rg.FI.kp h1 hk hF,Rg.FI.kp h2 hk hF⟩
theorem LvOk.mono {F F':Nat→Prop} {L:Nat} {w:World} {l:Lv} {v:LV} (h:LvOk F L w l v) (hF:∀ k,F k→F' k) (ho:∀ k,v.own k→¬ F' k):LvOk F' L w l v:=by
 refine ⟨h.gown,h.gel.mono hF,h.oown,fun k e=>⟨ho k (.inl e),(h.gF k e).2⟩,fun k e=>⟨ho k (.inr e),(h.oF k e).2⟩,h.go,fun p x hp hx=>?_,h.none_⟩;obtain ⟨h1,h2⟩:=h.some_ p x hp hx;exact ⟨h1.mono hF,h2.mono hF⟩
theorem LvOk.lt {F:Nat→Prop} {L:Nat} {w:World} {l:Lv} {v:LV} (h:LvOk F L w l v):∀ k,v.own k→k<w.heap.size:=fun k e=>by
 rcases e with e | e
 ·exact (h.gown.lt k e).2
 ·exact (h.oown.lt k e).2
theorem LvOk.nF {F:Nat→Prop} {L:Nat} {w:World} {l:Lv} {v:LV} (h:LvOk F L w l v):∀ k,v.own k→¬ F k∧k≠L:=fun k e=>by
 rcases e with e | e
 ·exact h.gF _ e
 ·exact h.oF _ e
theorem rowIs_kp {M:Nat→Prop} {w w':World} {b:Nat} {t:TypeId} {n:Nat} {f:Nat→Value} (h:w.rowIs b t n f) (hk:Rg.Kp M w w') (hM:¬ M b):w'.rowIs b t n f:=by
 have hlt:=rowIs_lt h;obtain ⟨c,h1,h2,h3⟩:=h;exact ⟨c,by rw [hk.block b hlt hM]; exact h1,h2,h3⟩
theorem TowAt.up {F:Nat→Prop} {L n:Nat} {w w':World} {T:Twr} {V:Nat→LV} (h:TowAt F L n w T V) (hb:Below w.heap.size w w'):TowAt (Fup F w w') L n w' T V:=by
 have hk:Rg.Kp (fun k=>False) w w':=Rg.Kp.of_below hb;have hL:=h.lt
 refine ⟨fun k hk=>by rcases hk with hk | hk; exact Nat.lt_of_lt_of_le (h.Flt k hk) hb.size; exact hk.2,fun e=>?_,rowIs_kp h.row hk id,fun i hi=>?_,h.dist⟩
 ·rcases e with e | e
  ·exact h.LF e
  ·omega
 ·have hv:=h.lv i hi
  refine (hv.kp hk (fun _ _=>id) (fun _ _=>id)).mono (fun k=>.inl) (fun k e=>?_);have h1:=hv.lt k e;have h2:=(hv.nF k e).1
  rintro (h3 | h3)
  ·exact h2 h3
  ·omega
theorem put2 {F:Nat→Prop} {L n:Nat} {w:World} {T T':Twr} {V V':Nat→LV} {i m o:Nat} {x:Value} (Flt:∀ k,F k→k<w.heap.size) (LF:¬ F L)
  (row:w.rowIs L 178 (n*194) (fun j=>cont (T (j / 194)) (V (j / 194)) (j % 194))) (lv:∀ j,j<n→j≠i→LvOk F L w (T j) (V j))
  (dist:∀ a b,a<n→b<n→a≠b→a≠i→b≠i→∀ k,(V a).own k→¬ (V b).own k) (hi:i<n) (hm:m<194) (ho:o=i*194+m)
  (hT:∀ j,j≠i→T' j=T j∧V' j=V j) (hc:∀ m',m' < 194→cont (T' i) (V' i) m'=if m'=m then x else cont (T i) (V i) m')
  (hv:LvOk F L w (T' i) (V' i)) (hd:∀ j k,j<n→j≠i→(V' i).own k→¬ (V j).own k) :
  TowAt F L n (w.setCell ⟨L,o,none⟩ x) T' V'∧KF F w (w.setCell ⟨L,o,none⟩ x):=by
 subst ho;have hk:Rg.Kp (fun k=>k=L) w (w.setCell ⟨L,i*194+m,none⟩ x):=Rg.Kp.of_setCell rfl;have hFL:∀ k,F k→¬ k=L:=fun k hk e=>LF (e▸hk);refine ⟨⟨fun k hf=>Nat.lt_of_lt_of_le (Flt k hf) hk.size,LF,?_,fun j hj=>?_,fun a b ha hb hab k h1 h2=>?_⟩,Rg.Kp.weak hk fun k e hf=>hFL k hf e⟩
 ·refine (row.set (i*194+m) x).congr fun j hj=>?_
  obtain ⟨h1,h2,_⟩:=div_mod hi hm
  by_cases e:j / 194=i
  ·have hm':j % 194<194:=Nat.mod_lt _ (by decide)
   have:=hc (j % 194) hm'
   by_cases e2:j=i*194+m
   ·rw [if_pos e2,e,this,if_pos (by rw [e2,h2])]
   ·rw [if_neg e2,e,this,if_neg (by omega)]
  ·have e2:j≠i*194+m:=by rintro rfl; exact e h1
   rw [if_neg e2,(hT _ e).1,(hT _ e).2]
 ·by_cases e:j=i
  ·subst e
   exact hv.kp hk hFL fun k e=>(hv.nF k e).2
  ·rw [(hT j e).1,(hT j e).2]
   exact (lv j hj e).kp hk hFL fun k e'=>((lv j hj e).nF k e').2
 ·by_cases ea:a=i
  ·have eb:b≠i:=fun e=>hab (ea.trans e.symm)
   rw [ea] at h1; rw [(hT b eb).2] at h2;exact hd b k hb eb h1 h2
  ·rw [(hT a ea).2] at h1
   by_cases eb:b=i
   ·rw [eb] at h2
    exact hd a k ha ea h2 h1
   ·rw [(hT b eb).2] at h2
    exact dist a b ha hb hab ea eb k h1 h2
theorem TowAt.put {F:Nat→Prop} {L n:Nat} {w:World} {T T':Twr} {V V':Nat→LV} (h:TowAt F L n w T V) {i m o:Nat} {x:Value} (hi:i<n) (hm:m<194) (ho:o=i*194+m)
  (hT:∀ j,j≠i→T' j=T j∧V' j=V j) (hc:∀ m',m' < 194→cont (T' i) (V' i) m'=if m'=m then x else cont (T i) (V i) m')
  (hv:LvOk F L w (T' i) (V' i)) (hd:∀ j k,j<n→j≠i→(V' i).own k→¬ (V j).own k) :
  TowAt F L n (w.setCell ⟨L,o,none⟩ x) T' V'∧KF F w (w.setCell ⟨L,o,none⟩ x) :=
 put2 h.Flt h.LF h.row (fun j hj _=>h.lv j hj) (fun a b ha hb hab _ _=>h.dist a b ha hb hab) hi hm ho hT hc hv hd
theorem TowAt.tick {F:Nat→Prop} {L n:Nat} {w:World} {T:Twr} {V:Nat→LV} (h:TowAt F L n w T V) {i q o:Nat} (hi:i<n) (hq:q<64) (ho:o=i*194+(130+q)) :
  TowAt F L n (w.setCell ⟨L,o,none⟩ (.int .i64 (((T i).tried q+1:Nat):Int))) (Cm.tick T i q) V∧KF F w (w.setCell ⟨L,o,none⟩ (.int .i64 (((T i).tried q+1:Nat):Int))):=by
 have hv:=h.lv i hi;refine h.put hi (by omega) ho (fun j hj=>⟨Cm.tick_ne hj,rfl⟩) (fun m' hm'=>?_) ?_ (fun j k hj hne e1 e2=>h.dist i j hi hj (Ne.symm hne) k e1 e2)
 ·rw [Cm.tick_at]
  unfold cont
  by_cases h0:m'=0
  ·subst h0; simp; omega
  by_cases h1:m'=1
  ·subst h1; simp; omega
  by_cases h2:m' < 66
  ·simp [h0,h1,h2]; omega
  by_cases h3:m' < 130
  ·simp [h0,h1,h2,h3]; omega
  ·simp only [h0,h1,h2,h3,if_false]
   by_cases e:m'=130+q
   ·subst e; simp
   ·rw [if_neg e,if_neg (by omega)]
 ·rw [Cm.tick_at]
  exact ⟨hv.gown,hv.gel,hv.oown,hv.gF,hv.oF,hv.go,hv.some_,hv.none_⟩
def setTo (T:Twr) (i p:Nat) (y:List Nat):Twr:=fun j=>if j=i then { T j with rep:=fun z=>if z=p then some y else (T j).rep z } else T j
def pushO (T:Twr) (i p:Nat):Twr:=fun j=>if j=i then { T j with orb:=(T j).orb++[p] } else T j
def pushG (T:Twr) (i:Nat) (r:List Nat):Twr:=fun j=>if j=i then { T j with gens:=(T j).gens++[r] } else T j
theorem find_eq (T:Twr) (i p:Nat) (y:List Nat):Cm.find T i p y=pushO (setTo T i p y) i p:=by
 funext j
 unfold Cm.find pushO setTo
 by_cases e:j=i
 ·simp [e]
 ·simp [e]
theorem TowAt.setTo {F:Nat→Prop} {L n:Nat} {w:World} {T:Twr} {V:Nat→LV} (h:TowAt F L n w T V) {i p o1 o2:Nat} {y:List Nat} {yv bv:Value} (hi:i<n) (hp:p<64) (ho1:o1=i*194+(2+p)) (ho2:o2=i*194+(66+p))
  (hy:FP F w yv y) (hb:FP F w bv (Ma.invN y)) :
  ∃ V',TowAt F L n ((w.setCell ⟨L,o1,none⟩ yv).setCell ⟨L,o2,none⟩ bv) (setTo T i p y) V'∧KF F w ((w.setCell ⟨L,o1,none⟩ yv).setCell ⟨L,o2,none⟩ bv):=by
 subst ho1 ho2;have hv:=h.lv i hi
 let V1:Nat→LV:=fun j=>if j=i then { V j with t:=fun z=>if z=p then yv else (V j).t z,b:=fun z=>if z=p then bv else (V j).b z } else V j
 have e1:V1 i={ V i with t:=fun z=>if z=p then yv else (V i).t z,b:=fun z=>if z=p then bv else (V i).b z }:=if_pos rfl
 have eT:Go.Proofs.YtdnmmibchbceeaaGreat.setTo T i p y i={ T i with rep:=fun z=>if z=p then some y else (T i).rep z }:=if_pos rfl
 have hk1:Rg.Kp (fun k=>k=L) w (w.setCell ⟨L,i*194+(2+p),none⟩ yv):=Rg.Kp.of_setCell rfl;have hk2:Rg.Kp (fun k=>k=L) (w.setCell ⟨L,i*194+(2+p),none⟩ yv) ((w.setCell ⟨L,i*194+(2+p),none⟩ yv).setCell ⟨L,i*194+(66+p),none⟩ bv):=Rg.Kp.of_setCell rfl;have hk:=Rg.Kp.trans hk1 hk2 (fun k _ e=>e);have hFL:∀ k,F k→¬ k=L:=fun k hk e=>h.LF (e▸hk)
 have hvi:LvOk F L w (Go.Proofs.YtdnmmibchbceeaaGreat.setTo T i p y i) (V1 i):=by
  rw [eT,e1];refine ⟨hv.gown,hv.gel,hv.oown,hv.gF,hv.oF,hv.go,fun z x hz hx=>?_,fun z hz hx=>?_⟩
  ·have hx':(if z=p then some y else (T i).rep z)=some x:=hx
   by_cases e:z=p
   ·rw [if_pos e] at hx'; cases hx'
    simp only [e,if_true]; exact ⟨hy,hb⟩
   ·rw [if_neg e] at hx'
    simp only [e,if_false]; exact hv.some_ z x hz hx'
  ·have hx':(if z=p then some y else (T i).rep z)=none:=hx
   by_cases e:z=p
   ·rw [if_pos e] at hx'; cases hx'
   ·rw [if_neg e] at hx'
    simp only [e,if_false]; exact hv.none_ z hz hx'
 refine ⟨V1,⟨fun k hf=>Nat.lt_of_lt_of_le (h.Flt k hf) hk.size,h.LF,?_,fun j hj=>?_,fun a b ha hb hab k h1 h2=>?_⟩,Rg.Kp.weak hk fun k e hf=>hFL k hf e⟩
 ·refine ((h.row.set (i*194+(2+p)) yv).set (i*194+(66+p)) bv).congr fun j hj=>?_
  have hm':j % 194<194:=Nat.mod_lt _ (by decide)
  by_cases e:j / 194=i
  ·rw [e,eT,e1]
   by_cases a:j=i*194+(66+p)
   ·have:j % 194=66+p:=by omega
    rw [if_pos a,this]; unfold cont;rw [if_neg (by omega),if_neg (by omega),if_neg (by omega),if_pos (by omega)];simp
   ·rw [if_neg a]
    by_cases b:j=i*194+(2+p)
    ·have:j % 194=2+p:=by omega
     rw [if_pos b,this]; unfold cont;rw [if_neg (by omega),if_neg (by omega),if_pos (by omega)];simp
    ·rw [if_neg b]
     unfold cont
     by_cases h0:j % 194=0
     ·simp [h0]
     by_cases h1:j % 194=1
     ·simp [h1]
     by_cases h2:j % 194<66
     ·simp only [h0,h1,h2,if_false,if_true]
      show _=(if j % 194 - 2=p then yv else (V i).t (j % 194 - 2));rw [if_neg (by omega)]
     by_cases h3:j % 194<130
     ·simp only [h0,h1,h2,h3,if_false,if_true]
      show _=(if j % 194 - 66=p then bv else (V i).b (j % 194 - 66));rw [if_neg (by omega)]
     ·simp [h0,h1,h2,h3]
  ·have ev:V1 (j / 194)=V (j / 194):=if_neg e
   have et:Go.Proofs.YtdnmmibchbceeaaGreat.setTo T i p y (j / 194)=T (j / 194):=if_neg e;rw [if_neg (by rintro rfl; exact e (div_mod hi (by omega)).1),if_neg (by rintro rfl; exact e (div_mod hi (by omega)).1),ev,et]
 ·by_cases e:j=i
  ·subst e
   exact hvi.kp hk hFL fun k e=>(hvi.nF k e).2
  ·have ev:V1 j=V j:=if_neg e
   have et:Go.Proofs.YtdnmmibchbceeaaGreat.setTo T i p y j=T j:=if_neg e;rw [ev,et];exact (h.lv j hj).kp hk hFL fun k e=>((h.lv j hj).nF k e).2
 ·have ho:∀ j k,(V1 j).own k→(V j).own k:=fun j k hk=>by
   by_cases e:j=i
   ·subst e; rw [e1] at hk; exact hk
   ·have ev:V1 j=V j:=if_neg e
    rwa [ev] at hk
  exact h.dist a b ha hb hab k (ho a k h1) (ho b k h2)
theorem getTo {F:Nat→Prop} {L n:Nat} {w:World} {T:Twr} {V:Nat→LV} (h:TowAt F L n w T V) {i p o:Nat} (hi:i<n) (hp:p<64) (ho:o=i*194+(2+p)):w.cell? ⟨L,o,none⟩=some ((V i).t p):=by
 rw [h.cell hi (m:=2+p) (by omega) ho];unfold cont;rw [if_neg (by omega),if_neg (by omega),if_pos (by omega),show 2+p - 2=p by omega]
theorem getBy {F:Nat→Prop} {L n:Nat} {w:World} {T:Twr} {V:Nat→LV} (h:TowAt F L n w T V) {i p o:Nat} (hi:i<n) (hp:p<64) (ho:o=i*194+(66+p)):w.cell? ⟨L,o,none⟩=some ((V i).b p):=by
 rw [h.cell hi (m:=66+p) (by omega) ho];unfold cont;rw [if_neg (by omega),if_neg (by omega),if_neg (by omega),if_pos (by omega),show 66+p - 66=p by omega]
theorem getTried {F:Nat→Prop} {L n:Nat} {w:World} {T:Twr} {V:Nat→LV} (h:TowAt F L n w T V) {i p o:Nat} (hi:i<n) (hp:p<64) (ho:o=i*194+(130+p)):w.cell? ⟨L,o,none⟩=some (.int .i64 (((T i).tried p:Nat):Int)):=by
 rw [h.cell hi (m:=130+p) (by omega) ho];unfold cont;rw [if_neg (by omega),if_neg (by omega),if_neg (by omega),if_neg (by omega),show 130+p - 130=p by omega]
theorem getG {F:Nat→Prop} {L n:Nat} {w:World} {T:Twr} {V:Nat→LV} (h:TowAt F L n w T V) {i o:Nat} (hi:i<n) (ho:o=i*194):w.cell? ⟨L,o,none⟩=some (V i).g:=by
 rw [h.cell hi (m:=0) (by omega) ho]; rfl
theorem getO {F:Nat→Prop} {L n:Nat} {w:World} {T:Twr} {V:Nat→LV} (h:TowAt F L n w T V) {i o:Nat} (hi:i<n) (ho:o=i*194+1):w.cell? ⟨L,o,none⟩=some (V i).o:=by
 rw [h.cell hi (m:=1) (by omega) ho]; rfl
end Go.Proofs.YtdnmmibchbceeaaGreat

namespace Go.Proofs.YtdnmmibchbceeaaGreat
open Go.RowKit
open Go.Proofs
open Go.Proofs.Cm (Lv Twr)
attribute [local irreducible] Go.Calls
theorem TowAt.addG {F:Nat→Prop} {L n:Nat} {w:World} {T:Twr} {V:Nat→LV} (h:TowAt F L n w T V) {i o:Nat} (hi:i<n) (ho:o=i*194) {r:List Nat} {rv:Value} (hr:FP F w rv r) (hs:∃ a m c,rv=.slice a m c) (hl:(T i).gens.length<1000000) (ty:TypeId) :
  ∃ a c X,(Builtin.append_ #[22,22] ty #[(V i).g,.slice (some ⟨w.heap.size,0,none⟩) 1 1]).run Tryz.prog (w.alloc (.cells #[rv] 30))=.ok (.slice a ((T i).gens.length+1) c) X ∧
   X.cell? ⟨L,o,none⟩=some (V i).g∧X.frozen? ⟨L,o,none⟩=false∧∃ V',TowAt F L n (X.setCell ⟨L,o,none⟩ (.slice a ((T i).gens.length+1) c)) (pushG T i r) V'∧KF F w (X.setCell ⟨L,o,none⟩ (.slice a ((T i).gens.length+1) c)):=by
 subst ho;have hv:=h.lv i hi;obtain ⟨a0,m0,c0,rfl⟩:=hs;have hk1:Rg.Kp (fun _=>False) w (w.alloc (.cells #[.slice a0 m0 c0] 30)):=Rg.Kp.of_below ((Below.refl _ _).alloc (Nat.le_refl _) _)
 have hsz:(w.alloc (.cells #[.slice a0 m0 c0] 30)).heap.size=w.heap.size+1:=by simp
 have hv1:=hv.kp hk1 (fun _ _=>id) (fun _ _=>id);obtain ⟨v',X,r1,r2,r3,r4,a,c,rfl⟩:=app_run (P:=Tryz.prog) slPerms ty hv1.gown (Nat.zero_le _) w.heap.size 1 (u:=.slice a0 m0 c0) (by rw [Rg.cellNew]; rfl) rfl hl;have hkX:Rg.Kp (fun k=>(V i).g.ownBlock=some k) w X:=Rg.Kp.trans (M:=fun k=>(V i).g.ownBlock=some k) (hk1.weak fun _=>False.elim) (Rg.Kp.of_grown r3 fun _ e=>e) (fun _ _ e=>e);have hFo:∀ k,F k→¬ (V i).g.ownBlock=some k:=fun k hk e=>(hv.gF k e).1 hk;have hLo:¬ (V i).g.ownBlock=some L:=fun e=>(hv.gF L e).2 rfl
 have hcX:X.cell? ⟨L,i*194,none⟩=some (V i).g:=by
  rw [World.cell?_of_block (w:=w) (a:=⟨L,i*194,none⟩) (hkX.block L h.lt hLo)];exact getG h hi rfl
 have hrow:=rowIs_kp h.row hkX hLo
 refine ⟨a,c,X,r1,hcX,hrow.frozen _,fun j=>if j=i then { V i with g:=.slice a ((T i).gens.length+1) c,us:=(V i).us++[.slice a0 m0 c0] } else V j,?_⟩
 have hnew:∀ k,(Value.slice a ((T i).gens.length+1) c).ownBlock=some k→(V i).g.ownBlock=some k∨k=w.heap.size+1:=fun k e=>by
  rcases r4 with r4 | r4
  ·exact .inl (by rw [← r4]; exact e)
  ·rw [r4] at e; injection e with e; exact .inr (by omega)
 have hres:=put2 (T:=T) (T':=pushG T i r) (V:=V) (V':=fun j=>if j=i then { V i with g:=.slice a ((T i).gens.length+1) c,us:=(V i).us++[.slice a0 m0 c0] } else V j) (x:=.slice a ((T i).gens.length+1) c)
  (fun k hk=>Nat.lt_of_lt_of_le (h.Flt k hk) hkX.size) h.LF hrow (fun j hj hne=>(h.lv j hj).kp hkX hFo (fun k e e2=>h.dist j i hj hi hne k e (.inl e2)))
  (fun a b ha hb hab _ _=>h.dist a b ha hb hab) hi (m:=0) (by omega) rfl (fun j hj=>⟨if_neg hj,if_neg hj⟩) ?_ ?_ ?_
 ·exact ⟨hres.1,Rg.Kp.trans (hkX.weak fun k e hf=>hFo k hf e) hres.2 (fun _ _ e=>e)⟩
 ·intro m' hm'
  simp only [if_true,pushG];unfold cont
  by_cases h0:m'=0
  ·simp [h0]
  by_cases h1:m'=1
  ·simp [h1]
  ·simp [h0,h1]
 ·simp only [if_true,pushG]
  have hF:=hv.kp (M:=fun _=>False) (w':=w) (Rg.Kp.refl _ _) (fun _ _=>id) (fun _ _=>id);have hlt:=hv.lt;have hs2:=fun q x hq hx=>(hv.some_ q x hq hx);refine ⟨?_,?_,?_,?_,hv.oF,?_,fun q x hq hx=>⟨Rg.FI.kp (hs2 q x hq hx).1 hkX hFo,Rg.FI.kp (hs2 q x hq hx).2 hkX hFo⟩,hv.none_⟩
  ·rw [List.length_append]; exact r2
  ·rw [List.map_append]
   exact (hv.gel.kp hkX hFo).app (Rg.FElts.one (Rg.FI.kp hr hkX hFo))
  ·exact rowKp hv.oown hkX (fun k e e2=>hv.go k e e2)
  ·intro k e
   rcases hnew k e with e | e
   ·exact hv.gF k e
   ·exact ⟨fun hf=>by have:=h.Flt k hf; omega,by have:=h.lt; omega⟩
  ·intro k e e2
   rcases hnew k e with e | e
   ·exact hv.go k e e2
   ·have:=hlt k (.inr e2); omega
 ·intro j k hj hne e
  simp only [if_true] at e
  rcases e with e | e
  ·rcases hnew k e with e | e
   ·exact h.dist i j hi hj (Ne.symm hne) k (.inl e)
   ·intro e2; have:=(h.lv j hj).lt k e2; omega
  ·exact h.dist i j hi hj (Ne.symm hne) k (.inr e)
theorem TowAt.addO {F:Nat→Prop} {L n:Nat} {w:World} {T:Twr} {V:Nat→LV} (h:TowAt F L n w T V) {i o:Nat} (hi:i<n) (ho:o=i*194+1) (p:Nat) (hl:(T i).orb.length<1000000) (ty:TypeId) :
  ∃ a c X,(Builtin.append_ #[25,25] ty #[(V i).o,.slice (some ⟨w.heap.size,0,none⟩) 1 1]).run Tryz.prog (w.alloc (.cells #[.int .i64 ((p:Nat):Int)] 3))=.ok (.slice a ((T i).orb.length+1) c) X ∧
   X.cell? ⟨L,o,none⟩=some (V i).o∧X.frozen? ⟨L,o,none⟩=false∧∃ V',TowAt F L n (X.setCell ⟨L,o,none⟩ (.slice a ((T i).orb.length+1) c)) (pushO T i p) V'∧KF F w (X.setCell ⟨L,o,none⟩ (.slice a ((T i).orb.length+1) c)):=by
 subst ho;have hv:=h.lv i hi;have hk1:Rg.Kp (fun _=>False) w (w.alloc (.cells #[.int .i64 ((p:Nat):Int)] 3)):=Rg.Kp.of_below ((Below.refl _ _).alloc (Nat.le_refl _) _)
 have hsz:(w.alloc (.cells #[.int .i64 ((p:Nat):Int)] 3)).heap.size=w.heap.size+1:=by simp
 have hv1:=hv.kp hk1 (fun _ _=>id) (fun _ _=>id);obtain ⟨v',X,r1,r2,r3,r4,a,c,rfl⟩:=app_run (P:=Tryz.prog) slInts ty hv1.oown (Nat.zero_le _) w.heap.size 1 (u:=.int .i64 ((p:Nat):Int)) (by rw [Rg.cellNew]; rfl) rfl hl;have hkX:Rg.Kp (fun k=>(V i).o.ownBlock=some k) w X:=Rg.Kp.trans (M:=fun k=>(V i).o.ownBlock=some k) (hk1.weak fun _=>False.elim) (Rg.Kp.of_grown r3 fun _ e=>e) (fun _ _ e=>e);have hFo:∀ k,F k→¬ (V i).o.ownBlock=some k:=fun k hk e=>(hv.oF k e).1 hk;have hLo:¬ (V i).o.ownBlock=some L:=fun e=>(hv.oF L e).2 rfl
 have hcX:X.cell? ⟨L,i*194+1,none⟩=some (V i).o:=by
  rw [World.cell?_of_block (w:=w) (a:=⟨L,i*194+1,none⟩) (hkX.block L h.lt hLo)];exact getO h hi rfl
 have hrow:=rowIs_kp h.row hkX hLo
 refine ⟨a,c,X,r1,hcX,hrow.frozen _,fun j=>if j=i then { V i with o:=.slice a ((T i).orb.length+1) c } else V j,?_⟩
 have hnew:∀ k,(Value.slice a ((T i).orb.length+1) c).ownBlock=some k→(V i).o.ownBlock=some k∨k=w.heap.size+1:=fun k e=>by
  rcases r4 with r4 | r4
  ·exact .inl (by rw [← r4]; exact e)
  ·rw [r4] at e; injection e with e; exact .inr (by omega)
 have hres:=put2 (T:=T) (T':=pushO T i p) (V:=V) (V':=fun j=>if j=i then { V i with o:=.slice a ((T i).orb.length+1) c } else V j) (x:=.slice a ((T i).orb.length+1) c)
  (fun k hk=>Nat.lt_of_lt_of_le (h.Flt k hk) hkX.size) h.LF hrow (fun j hj hne=>(h.lv j hj).kp hkX hFo (fun k e e2=>h.dist j i hj hi hne k e (.inr e2)))
  (fun a b ha hb hab _ _=>h.dist a b ha hb hab) hi (m:=1) (by omega) rfl (fun j hj=>⟨if_neg hj,if_neg hj⟩) ?_ ?_ ?_
 ·exact ⟨hres.1,Rg.Kp.trans (hkX.weak fun k e hf=>hFo k hf e) hres.2 (fun _ _ e=>e)⟩
 ·intro m' hm'
  simp only [if_true,pushO];unfold cont
  by_cases h0:m'=0
  ·simp [h0]
  by_cases h1:m'=1
  ·simp [h1]
  ·simp [h0,h1]
 ·simp only [if_true,pushO]
  have hF:=hv.kp (M:=fun _=>False) (w':=w) (Rg.Kp.refl _ _) (fun _ _=>id) (fun _ _=>id);have hlt:=hv.lt;have hs2:=fun q x hq hx=>(hv.some_ q x hq hx);refine ⟨?_,hv.gel.kp hkX hFo,?_,hv.gF,?_,?_,fun q x hq hx=>⟨Rg.FI.kp (hs2 q x hq hx).1 hkX hFo,Rg.FI.kp (hs2 q x hq hx).2 hkX hFo⟩,hv.none_⟩
  ·exact rowKp hv.gown hkX (fun k e e2=>hv.go k e2 e)
  ·have e1:(Ma.ofN ((T i).orb++[p])).map (Value.int .i64)=(Ma.ofN (T i).orb).map (Value.int .i64)++[.int .i64 ((p:Nat):Int)]:=by simp [Ma.ofN]
   rw [e1,List.length_append]; exact r2
  ·intro k e
   rcases hnew k e with e | e
   ·exact hv.oF k e
   ·exact ⟨fun hf=>by have:=h.Flt k hf; omega,by have:=h.lt; omega⟩
  ·intro k e e2
   rcases hnew k e2 with e2 | e2
   ·exact hv.go k e e2
   ·have:=hlt k (.inl e); omega
 ·intro j k hj hne e
  simp only [if_true] at e
  rcases e with e | e
  ·exact h.dist i j hi hj (Ne.symm hne) k (.inl e)
  ·rcases hnew k e with e | e
   ·exact h.dist i j hi hj (Ne.symm hne) k (.inr e)
   ·intro e2; have:=(h.lv j hj).lt k e2; omega
theorem lvF0 (b o:Nat) (w:World):(Instr.fieldAt 178 (.pointer (some ⟨b,o,none⟩)) 0).run Tryz.prog w=.ok (.pointer (some ⟨b,o,none⟩)) w:=by kernel_rfl
theorem lvF1 (b o:Nat) (w:World):(Instr.fieldAt 178 (.pointer (some ⟨b,o,none⟩)) 1).run Tryz.prog w=.ok (.pointer (some ⟨b,o+1,none⟩)) w:=by kernel_rfl
theorem lvF2 (b o:Nat) (w:World):(Instr.fieldAt 178 (.pointer (some ⟨b,o,none⟩)) 2).run Tryz.prog w=.ok (.pointer (some ⟨b,o+2,none⟩)) w:=by kernel_rfl
theorem lvF3 (b o:Nat) (w:World):(Instr.fieldAt 178 (.pointer (some ⟨b,o,none⟩)) 3).run Tryz.prog w=.ok (.pointer (some ⟨b,o+66,none⟩)) w:=by kernel_rfl
theorem lvF4 (b o:Nat) (w:World):(Instr.fieldAt 178 (.pointer (some ⟨b,o,none⟩)) 4).run Tryz.prog w=.ok (.pointer (some ⟨b,o+130,none⟩)) w:=by kernel_rfl
theorem towF0 (b:Nat) (w:World):(Instr.fieldAt 170 (.pointer (some ⟨b,0,none⟩)) 0).run Tryz.prog w=.ok (.pointer (some ⟨b,0,none⟩)) w:=by kernel_rfl
theorem towF1 (b:Nat) (w:World):(Instr.fieldAt 170 (.pointer (some ⟨b,0,none⟩)) 1).run Tryz.prog w=.ok (.pointer (some ⟨b,1,none⟩)) w:=by kernel_rfl
theorem szLevel:(Tryz.prog.info? 178).map (·.size)=some 194:=by kernel_rfl
theorem exec_indexZ {o:Oper} {a:Act} {w:World} {t e:TypeId} {z:Nat} (x y:Operand) (ho:o.op=.indexAddr t x y) (hu:Tryz.prog.underlying t=some (.slice e)) (hsz:(Tryz.prog.info? e).map (·.size)=some z) (b of len cap i:Nat) (hx:a.eval x=.slice (some ⟨b,of,none⟩) len cap) (hy:a.eval y=.int .i64 (i:Int)) (hi:i<len) :
  (execOp a.eval o).run Tryz.prog w=.ok (.value (.pointer (some ⟨b,of+i*z,none⟩))) w:=by
 obtain ⟨ie,hie,hs⟩:=Option.map_eq_some_iff.1 hsz;have h1:(0:Int)≤(i:Int)∧(i:Int)<(len:Int):=⟨by omega,by omega⟩
 have hr:(Instr.indexAt t (.slice (some ⟨b,of,none⟩) len cap) (.int .i64 (i:Int))).run Tryz.prog w=.ok (.pointer (some ⟨b,of+i*z,none⟩)) w:=by
  simp [Instr.indexAt,asIntOf,run_underlying hu,sizeOf,typeInfo,hie,hs,h1];rw [if_pos hi];unfold Addr.add
  split
  ·rename_i h0; rw [h0]; rfl
  ·rfl
 unfold execOp;simp only [ho,hx,hy,Sem.run_bind,Sem.run_pure,hr,Result.andThen_ok]
theorem exec_indexZ0 {o:Oper} {a:Act} {w:World} {t e:TypeId} {z:Nat} (x y:Operand) (ho:o.op=.indexAddr t x y) (hu:Tryz.prog.underlying t=some (.slice e)) (hsz:(Tryz.prog.info? e).map (·.size)=some z) (b len cap i:Nat) (hx:a.eval x=.slice (some ⟨b,0,none⟩) len cap) (hy:a.eval y=.int .i64 (i:Int)) (hi:i<len) :
  (execOp a.eval o).run Tryz.prog w=.ok (.value (.pointer (some ⟨b,i*z,none⟩))) w:=by
 have:=exec_indexZ (w:=w) x y ho hu hsz b 0 len cap i hx hy hi
 rwa [Nat.zero_add] at this
theorem chMul_f {F:Nat→Prop} {n:Nat} {v1 v2:Value} {a b:List Nat} {w:World} (h1:FP F w v1 a) (h2:FP F w v2 b) (ga:Cm.Gd n a) (gb:Cm.Gd n b) (hn:1≤n) (hn2:n≤64) :
  Calls Tryz.prog 146 #[v1,v2] w fun e w'=>∃ v,e=.returned v∧FP (Fup F w w') w' v (Ma.mulN a b)∧Below w.heap.size w w':=by
 have e1:=ga.2;have e2:=gb.2;refine (chMul_any v1 v2 a b w h1.np h2.np (fun x hx=>by have:=ga.1.1 x hx; omega) (by omega) (by omega) (by omega)).mono ?_;rintro e w' ⟨v,rfl,hv,hb⟩;exact ⟨v,rfl,FP.new hv,hb⟩
theorem chInv_f {F:Nat→Prop} {n:Nat} {v1:Value} {a:List Nat} {w:World} (h1:FP F w v1 a) (ga:Cm.Gd n a) (hn:1≤n) (hn2:n≤64) :
  Calls Tryz.prog 156 #[v1] w fun e w'=>∃ v,e=.returned v∧FP (Fup F w w') w' v (Ma.invN a)∧Below w.heap.size w w':=by
 have e1:=ga.2;refine (chInv_any v1 a w h1.np ga.1 (by omega) (by omega)).mono ?_;rintro e w' ⟨v,rfl,hv,hb⟩;exact ⟨v,rfl,FP.new hv,hb⟩
theorem chOne_f {F:Nat→Prop} (n:Nat) (w:World) (hn2:n≤64) :
  Calls Tryz.prog 140 #[.int .i64 n] w fun e w'=>∃ v,e=.returned v∧FP (Fup F w w') w' v (Ma.oneN n)∧Below w.heap.size w w':=by
 refine (chOne_any n w (by omega)).mono ?_;rintro e w' ⟨v,rfl,hv,hb⟩;exact ⟨v,rfl,FP.new hv,hb⟩
end Go.Proofs.YtdnmmibchbceeaaGreat

namespace Go.Proofs.YtdnmmibchbceeaaGreat
open Go.RowKit
open Go.Proofs
open Go.Proofs.Cm (Lv Twr trOf)
attribute [local irreducible] Go.Calls
theorem Vmcl0 (args:Array Value) (w:World):(callFunc 146 args).run Tryz.prog w=.ok (.enter 146 args) w:=by kernel_rfl
theorem exec_nilT {o:Oper} {a:Act} {w:World} (x y:Operand) (ho:o.op=.binOp .eql 30 x y 30) (hx:a.eval x=.slice none 0 0) (hy:a.eval y=.slice none 0 0):(execOp a.eval o).run Tryz.prog w=.ok (.value (.bool true)) w:=by
 have h1:(binOp .eql 30 (.slice none 0 0) (.slice none 0 0)).run Tryz.prog w=.ok (.bool true) w:=by kernel_rfl
 have hg:(eqGuard .eql 30 x y (.slice none 0 0) (.slice none 0 0)).run Tryz.prog w=.ok () w:=by
  simp [eqGuard]
 unfold execOp;simp only [ho,hx,hy,Sem.run_bind,Sem.run_pure,hg,h1,Result.andThen_ok]
theorem exec_nilF {o:Oper} {a:Act} {w:World} {ad:Addr} {n c:Nat} (x y:Operand) (ho:o.op=.binOp .eql 30 x y 30) (hx:a.eval x=.slice (some ad) n c) (hy:a.eval y=.slice none 0 0):(execOp a.eval o).run Tryz.prog w=.ok (.value (.bool false)) w:=by
 have h1:(binOp .eql 30 (.slice (some ad) n c) (.slice none 0 0)).run Tryz.prog w=.ok (.bool false) w:=by kernel_rfl
 have hg:(eqGuard .eql 30 x y (.slice (some ad) n c) (.slice none 0 0)).run Tryz.prog w=.ok () w:=by
  simp [eqGuard]
 unfold execOp;simp only [ho,hx,hy,Sem.run_bind,Sem.run_pure,hg,h1,Result.andThen_ok]
theorem TowAt.byS {F:Nat→Prop} {L n:Nat} {w:World} {T:Twr} {V:Nat→LV} (h:TowAt F L n w T V) {i p:Nat} (hi:i<n) (hp:p<64) {u:List Nat} (hu:trOf T i p=some u) (gu:Cm.Gd n u) (hn:1≤n):∃ b o c,(V i).b p=.slice (some ⟨b,o,none⟩) n c∧FP F w (.slice (some ⟨b,o,none⟩) n c) (Ma.invN u):=by
 have h1:=((h.lv i hi).some_ p u hp hu).2;obtain ⟨b,o,c,e,_⟩:=h1.shape (by rw [(Cm.gd_inv gu).2]; exact hn);rw [(Cm.gd_inv gu).2] at e;exact ⟨b,o,c,e,by rw [← e]; exact h1⟩
theorem TowAt.toS {F:Nat→Prop} {L n:Nat} {w:World} {T:Twr} {V:Nat→LV} (h:TowAt F L n w T V) {i p:Nat} (hi:i<n) (hp:p<64) {u:List Nat} (hu:trOf T i p=some u) (gu:Cm.Gd n u) (hn:1≤n):∃ b o c,(V i).t p=.slice (some ⟨b,o,none⟩) n c∧FP F w (.slice (some ⟨b,o,none⟩) n c) u:=by
 have h1:=((h.lv i hi).some_ p u hp hu).1;obtain ⟨b,o,c,e,_⟩:=h1.shape (by rw [gu.2]; exact hn);rw [gu.2] at e;exact ⟨b,o,c,e,by rw [← e]; exact h1⟩
theorem FP.shape' {F:Nat→Prop} {n:Nat} {w:World} {v:Value} {p:List Nat} (h:FP F w v p) (gp:Cm.Gd n p) (hn:1≤n):∃ b o c,v=.slice (some ⟨b,o,none⟩) n c:=by
 obtain ⟨b,o,c,e,_⟩:=h.shape (by rw [gp.2]; exact hn);rw [gp.2] at e;exact ⟨b,o,c,e⟩
theorem FP.ap {F:Nat→Prop} {n:Nat} {w:World} {b o m c:Nat} {p:List Nat} (h:FP F w (.slice (some ⟨b,o,none⟩) m c) p) (gp:Cm.Gd n p) {i:Nat} (hi:i<n):CF F w b (o+i) (.int .i64 ((Cm.ap p i:Nat):Int)):=h.cell (by rw [gp.2]; exact hi)
theorem sift_any {F:Nat→Prop} {L n tb:Nat} {w:World} {T:Twr} {V:Nat→LV} (hT:TowAt F L n w T V) (hc0:CF F w tb 0 (.int .i64 ((n:Nat):Int))) (hc1:CF F w tb 1 (.slice (some ⟨L,0,none⟩) n n)) (hn1:1≤n) (hn2:n≤64)
  {xv:Value} {x:List Nat} {i0:Nat} (hx:FP F w xv x) (gx:Cm.Gd n x) (hi0:i0≤n) (hfx:Cm.Fx i0 x) (hr:Cm.Rp n i0 (trOf T)) :
  Calls Tryz.prog 141 #[.pointer (some ⟨tb,0,none⟩),xv,.int .i64 ((i0:Nat):Int)] w fun e w'=>∃ F' rv,e=.returned (.tuple #[.int .i64 (((Cm.sfP n (trOf T) (n - i0) x).1:Nat):Int),rv])∧KG F w F' w'∧TowAt F' L n w' T V∧FP F' w' rv (Cm.sfP n (trOf T) (n - i0) x).2∧Below w.heap.size w w':=by
 obtain ⟨xb0,xo0,xc0,rfl⟩:=hx.shape' gx hn1;have K:=ι (KG.refl hT.Flt);have HT:=ι hT;have C0:=ι hc0;have C1:=ι hc1;have X:=ι hx;have HR:=ι hr;obtain ⟨A,hA⟩:∃ A,Hid (A=Cm.sfP n (trOf T) (n - i0) x):=⟨_,ι rfl⟩;rw [← hA.out];have KB:=ι (Below.refl w.heap.size w);have hg0:=hc0.cell;have hS0:=ι hA.out.symm;clear hT hc0 hc1 hx hr
 go_enter Tryz.func141,Tryz.ntmps141
 go_wp2
 go_loopw [1,8] (fun yv iv wr=>∃ (i:Nat) (y:List Nat) (F1:Nat→Prop),i0≤i∧i≤n∧iv=.int .i64 i∧Hid (FP F1 wr yv y)∧Hid (TowAt F1 L n wr T V)∧Hid (CF F1 wr tb 0 (.int .i64 ((n:Nat):Int)))∧Hid (CF F1 wr tb 1 (.slice (some ⟨L,0,none⟩) n n))∧Hid (KG F w F1 wr)∧Hid (Below w.heap.size w wr)∧Hid (Cm.Gd n y)∧Hid (Cm.Fx i y)∧Hid (Cm.sfP n (trOf T) (n - i) y=A)) (fun _ iv _=>n - (intOf iv).toNat)
 case atStart=>exact ⟨i0,x,F,Nat.le_refl _,hi0,rfl,X,HT,C0,C1,K,KB,ι gx,ι hfx,hS0⟩
 case round =>
  clear X HT C0 C1 K KB hg0 hS0 hfx gx;obtain ⟨i,y,F,hi1,hi2,rfl,X,HT,C0,C1,K,KB,GY,FY,HS⟩:=hrel;have hg0:=C0.out.cell
  by_cases hin:i<n
  ·have hiN:(i:Int)<(n:Int):=by omega
   obtain ⟨xb,xo,xc,rfl⟩:=X.out.shape' GY.out hn1;have hqn:=Cm.ap_lt GY.out hin;obtain ⟨q,hq⟩:∃ q:Nat,Hid (q=Cm.ap y i):=⟨_,ι rfl⟩;rw [← hq.out] at hqn;have CX:=ι (show CF F wr xb (xo+i) (.int .i64 ((q:Nat):Int)) by rw [hq.out]; exact X.out.ap GY.out hin)
   have hq64:q<64:=by omega
   have HIN:=ι hin
   cases htr:trOf T i q with
   | none =>
    have hby:=((HT.out.lv i hin).none_ q hq64 htr).2;have CB:=ι (show wr.cell? ⟨L,i*194+66+q,none⟩=some (.slice none 0 0) by rw [getBy HT.out hin hq64 (by omega),hby])
    have HE:=ι (show A=(i,y) by
     rw [← HS.out]
     have e1:n - i=(n - i - 1)+1:=by omega
     rw [e1,Cm.sfP_none]
     ·rw [show n - (n - i - 1+1)=i by omega]
     ·rw [show n - (n - i - 1+1)=i by omega,← hq.out]; exact htr)
    have hLlt:=ι HT.out.lt;clear hby htr;go_upto_region 4 with (fail);have hV1:Below wr.heap.size wr wr.drew:=(Below.refl _ _).drew;replace HT:=ι (HT.out.up hV1);replace KB:=ι (Rg.acc KB.out hV1);replace CB:=ι ((hV1.cell (p:=⟨L,i*194+66+q,none⟩) hLlt.out).trans CB.out);replace hLlt:=ι (Nat.lt_of_lt_of_le hLlt.out hV1.size);clear hV1;have hV0:Below wr.heap.size wr wr.drew:=(Below.refl _ _).drew;replace X:=ι (X.out.up hV0);replace C0:=ι (C0.out.up hV0);replace C1:=ι (C1.out.up hV0);replace CX:=ι (CX.out.up hV0);replace K:=ι (K.out.up hV0);generalize Fup F wr wr.drew=F1 at *;clear hV0;refine Rg.Any.begin (S:=Rg.Both 13 (fun _=>True) (fun W=>Below wr.drew.heap.size wr.drew W)) mix ?_;generalize wr.drew=w1 at *;have hS:∀ (l:Array Bool) W,Below w1.heap.size w1 W→Rg.Both 13 (fun _=>True) (fun W=>Below w1.heap.size w1 W) l W:=fun l W h=>⟨.inr trivial,h⟩
    have hI:Below w1.heap.size w1 w1:=Below.refl _ _;refine Rg.tm 0 13 (.pointer (some ⟨tb,0,none⟩)) 19 (hS _ _ hI) ?_;go_frame;refine Rg.tg 1 13 (.pointer (some ⟨tb,0,none⟩)) 20 rfl rfl (.inl ⟨rfl,fun w _=>exec_nil _ rfl rfl⟩) (hS _ _ hI) ?_;go_frame;refine Rg.tg 2 13 (.pointer (some ⟨tb,1,none⟩)) 21 rfl rfl (.inl ⟨rfl,fun w _=>exec_field _ rfl rfl (towF1 _ _)⟩) (hS _ _ hI) ?_;go_frame;refine Rg.tg 3 13 (.slice (some ⟨L,0,none⟩) n n) 22 rfl rfl (Rg.yields_cell _ _ rfl rfl ⟨tb,1,none⟩ rfl (fun W hW=>Rg.run_loadSl _ _ Tryz.underlying168 ((Below.cell (p:=⟨tb,1,none⟩) hW C1.out.lt).trans C1.out.cell))) (hS _ _ hI) ?_;go_frame;refine Rg.tm 4 13 (.int .i64 ((i:Nat):Int)) 23 (hS _ _ hI) ?_;go_frame;refine Rg.tm 5 13 (.slice (some ⟨xb,xo,none⟩) n xc) 24 (hS _ _ hI) ?_;go_frame;refine Rg.tm 6 13 (.int .i64 ((i:Nat):Int)) 25 (hS _ _ hI) ?_;go_frame;refine Rg.tg 7 13 (.pointer (some ⟨xb,xo+i,none⟩)) 26 rfl rfl (Rg.yields_index slPerm _ _ rfl rfl xb (xo) (n) xc (i) rfl rfl HIN.out) (hS _ _ hI) ?_;go_frame
    refine Rg.tg 8 13 (.int .i64 ((q:Nat):Int)) 27 rfl rfl (Rg.yields_cell _ _ rfl rfl ⟨xb,xo+i,none⟩ rfl (fun W hW=>run_loadInt ((Below.cell (p:=⟨xb,xo+i,none⟩) hW CX.out.lt).trans CX.out.cell))) (hS _ _ hI) ?_;go_frame;refine Rg.tg 9 13 (.pointer (some ⟨L,i*194,none⟩)) 28 rfl rfl (.inl ⟨rfl,fun w _=>exec_indexZ0 _ _ rfl Tryz.underlying168 szLevel L (n) (n) (i) rfl rfl HIN.out⟩) (hS _ _ hI) ?_;go_frame;refine Rg.tg 10 13 (.pointer (some ⟨L,i*194+66,none⟩)) 29 rfl rfl (.inl ⟨rfl,fun w _=>exec_field _ rfl rfl (lvF3 _ _ _)⟩) (hS _ _ hI) ?_;go_frame;refine Rg.tg 11 13 (.pointer (some ⟨L,i*194+66+q,none⟩)) 30 rfl rfl (.inl ⟨rfl,fun w _=>exec_indexArr _ _ rfl Tryz.underlying175 szP L (i*194+66) (q) rfl rfl hq64⟩) (hS _ _ hI) ?_;go_frame;refine Rg.tg 12 13 (.slice none 0 0) 31 rfl rfl (Rg.yields_cell _ _ rfl rfl ⟨L,i*194+66+q,none⟩ rfl (fun W hW=>Rg.run_loadSl _ _ Tryz.underlying30 ((Below.cell (p:=⟨L,i*194+66+q,none⟩) hW hLlt.out).trans CB.out))) (hS _ _ hI) ?_;go_frame
    refine Rg.Any.one (i:=13) (by kernel_rfl) (Rg.Any.run (some 9) rfl rfl rfl (Rg.xa (.slice none 0 0) _ rfl rfl) (hS _ _ hI) ?_);go_frame;refine Rg.Any.done (by kernel_rfl) ?_ _;clear hS hI;go_upto_region 5 with (fail);refine Rg.wl ?_;refine Rg.lm 32 (.slice none 0 0) ?_;go_frame;refine Rg.lr 33 (exec_nilT _ _ rfl rfl rfl) ?_;go_frame;go_wp2
    go_ret2
    exact ⟨_,.slice (some ⟨xb,xo,none⟩) n xc,by rw [HE.out]; rfl,K.out,HT.out,by rw [HE.out]; exact X.out,KB.out⟩
   | some u =>
    have gu:=HR.out.gd i q u hi1 hin htr;obtain ⟨bb,bo,bc,hbv,hbp⟩:=HT.out.byS hin hq64 htr gu hn1
    have hHS:Cm.sfP n (trOf T) (n - (i+1)) (Ma.mulN y (Ma.invN u))=A:=by
     rw [← HS.out]
     have e1:n - i=(n - i - 1)+1:=by omega
     rw [e1,Cm.sfP_some (u:=u) (by rw [show n - (n - i - 1+1)=i by omega,← hq.out]; exact htr),show n - i - 1=n - (i+1) by omega]
    obtain ⟨hgy2,hfy2⟩:=Cm.step_fx HR.out hi1 hin GY.out FY.out (by rw [← hq.out]; exact htr);have BP:=ι hbp;have GI:=ι (Cm.gd_inv gu);have HS2:=ι hHS;have GY2:=ι hgy2;have FY2:=ι hfy2;have CB:=ι (show wr.cell? ⟨L,i*194+66+q,none⟩=some (.slice (some ⟨bb,bo,none⟩) n bc) by rw [getBy HT.out hin hq64 (by omega),hbv])
    have hone:=ι (show q=i→Ma.mulN y (Ma.invN u)=y from fun e=>by
     have h1:=HR.out.self i hi1 hin;rw [e,h1] at htr
     cases htr
     rw [Cm.inv_one,Cm.mul_one GY.out])
    have hLlt:=ι HT.out.lt;clear hbv hbp gu hHS hgy2 hfy2 htr HS
    by_cases hqi:q=i
    ·have HY:=ι (hone.out hqi)
     have hqe:(q:Int)=(i:Int):=by omega
     clear hqi hone;go_upto_region 4 with (fail);have hV1:Below wr.heap.size wr wr.drew:=(Below.refl _ _).drew;replace KB:=ι (Rg.acc KB.out hV1);replace CB:=ι ((hV1.cell (p:=⟨L,i*194+66+q,none⟩) hLlt.out).trans CB.out);replace hLlt:=ι (Nat.lt_of_lt_of_le hLlt.out hV1.size);clear hV1;have hV0:Below wr.heap.size wr wr.drew:=(Below.refl _ _).drew;replace X:=ι (X.out.up hV0);replace HT:=ι (HT.out.up hV0);replace C0:=ι (C0.out.up hV0);replace C1:=ι (C1.out.up hV0);replace CX:=ι (CX.out.up hV0);replace BP:=ι (BP.out.up hV0);replace K:=ι (K.out.up hV0);generalize Fup F wr wr.drew=F1 at *;clear hV0;refine Rg.Any.begin (S:=Rg.Both 13 (fun _=>True) (fun W=>Below wr.drew.heap.size wr.drew W)) mix ?_;generalize wr.drew=w1 at *;have hS:∀ (l:Array Bool) W,Below w1.heap.size w1 W→Rg.Both 13 (fun _=>True) (fun W=>Below w1.heap.size w1 W) l W:=fun l W h=>⟨.inr trivial,h⟩
     have hI:Below w1.heap.size w1 w1:=Below.refl _ _;refine Rg.tm 0 13 (.pointer (some ⟨tb,0,none⟩)) 19 (hS _ _ hI) ?_;go_frame;refine Rg.tg 1 13 (.pointer (some ⟨tb,0,none⟩)) 20 rfl rfl (.inl ⟨rfl,fun w _=>exec_nil _ rfl rfl⟩) (hS _ _ hI) ?_;go_frame;refine Rg.tg 2 13 (.pointer (some ⟨tb,1,none⟩)) 21 rfl rfl (.inl ⟨rfl,fun w _=>exec_field _ rfl rfl (towF1 _ _)⟩) (hS _ _ hI) ?_;go_frame;refine Rg.tg 3 13 (.slice (some ⟨L,0,none⟩) n n) 22 rfl rfl (Rg.yields_cell _ _ rfl rfl ⟨tb,1,none⟩ rfl (fun W hW=>Rg.run_loadSl _ _ Tryz.underlying168 ((Below.cell (p:=⟨tb,1,none⟩) hW C1.out.lt).trans C1.out.cell))) (hS _ _ hI) ?_;go_frame;refine Rg.tm 4 13 (.int .i64 ((i:Nat):Int)) 23 (hS _ _ hI) ?_;go_frame;refine Rg.tm 5 13 (.slice (some ⟨xb,xo,none⟩) n xc) 24 (hS _ _ hI) ?_;go_frame;refine Rg.tm 6 13 (.int .i64 ((i:Nat):Int)) 25 (hS _ _ hI) ?_;go_frame;refine Rg.tg 7 13 (.pointer (some ⟨xb,xo+i,none⟩)) 26 rfl rfl (Rg.yields_index slPerm _ _ rfl rfl xb (xo) (n) xc (i) rfl rfl HIN.out) (hS _ _ hI) ?_;go_frame
     refine Rg.tg 8 13 (.int .i64 ((q:Nat):Int)) 27 rfl rfl (Rg.yields_cell _ _ rfl rfl ⟨xb,xo+i,none⟩ rfl (fun W hW=>run_loadInt ((Below.cell (p:=⟨xb,xo+i,none⟩) hW CX.out.lt).trans CX.out.cell))) (hS _ _ hI) ?_;go_frame;refine Rg.tg 9 13 (.pointer (some ⟨L,i*194,none⟩)) 28 rfl rfl (.inl ⟨rfl,fun w _=>exec_indexZ0 _ _ rfl Tryz.underlying168 szLevel L (n) (n) (i) rfl rfl HIN.out⟩) (hS _ _ hI) ?_;go_frame;refine Rg.tg 10 13 (.pointer (some ⟨L,i*194+66,none⟩)) 29 rfl rfl (.inl ⟨rfl,fun w _=>exec_field _ rfl rfl (lvF3 _ _ _)⟩) (hS _ _ hI) ?_;go_frame;refine Rg.tg 11 13 (.pointer (some ⟨L,i*194+66+q,none⟩)) 30 rfl rfl (.inl ⟨rfl,fun w _=>exec_indexArr _ _ rfl Tryz.underlying175 szP L (i*194+66) (q) rfl rfl hq64⟩) (hS _ _ hI) ?_;go_frame;refine Rg.tg 12 13 (.slice (some ⟨bb,bo,none⟩) n bc) 31 rfl rfl (Rg.yields_cell _ _ rfl rfl ⟨L,i*194+66+q,none⟩ rfl (fun W hW=>Rg.run_loadSl _ _ Tryz.underlying30 ((Below.cell (p:=⟨L,i*194+66+q,none⟩) hW hLlt.out).trans CB.out))) (hS _ _ hI) ?_;go_frame
     refine Rg.Any.one (i:=13) (by kernel_rfl) (Rg.Any.run (some 9) rfl rfl rfl (Rg.xa (.slice (some ⟨bb,bo,none⟩) n bc) _ rfl rfl) (hS _ _ hI) ?_);go_frame;refine Rg.Any.done (by kernel_rfl) ?_ _;clear hS hI;go_upto_region 5 with (fail);refine Rg.wl ?_;refine Rg.lm 32 (.slice (some ⟨bb,bo,none⟩) n bc) ?_;go_frame;refine Rg.lr 33 (exec_nilF _ _ rfl rfl rfl) ?_;go_frame;go_upto_region 7 with (fail);refine Rg.wl ?_;refine Rg.lm 36 (.slice (some ⟨xb,xo,none⟩) n xc) ?_;go_frame;refine Rg.lm 37 (.int .i64 ((i:Nat):Int)) ?_;go_frame;refine Rg.lr 38 (exec_indexS slPerm _ _ rfl xb (xo) (n) xc (i) rfl rfl HIN.out) ?_;go_frame;refine Rg.lr 39 (Rg.exec_load (v:=.int .i64 ((q:Nat):Int)) _ _ rfl ⟨xb,xo+i,none⟩ rfl (run_loadInt CX.out.cell)) ?_;go_frame;refine Rg.lm 40 (.int .i64 ((i:Nat):Int)) ?_;go_frame;refine Rg.lr 41 (exec_bin (R:=.bool false) .neq _ _ _ rfl rfl rfl (b_neqB _ Rg.dF)) ?_;go_frame
     have hg0:=C0.out.cell;go_wp2
     go_roundw
     case rel=>exact ⟨i+1,y,_,by omega,by omega,by go_num,X,HT,C0,C1,K,KB,GY,ι (by have:=FY2.out; rwa [HY.out] at this),ι (by have:=HS2.out; rwa [HY.out] at this)⟩
     case measure=>simp [intOf]; omega
    ·have hqe:¬ (q:Int)=(i:Int):=by omega
     clear hqi hone;go_upto_region 4 with (fail);have hV1:Below wr.heap.size wr wr.drew:=(Below.refl _ _).drew;replace KB:=ι (Rg.acc KB.out hV1);replace CB:=ι ((hV1.cell (p:=⟨L,i*194+66+q,none⟩) hLlt.out).trans CB.out);replace hLlt:=ι (Nat.lt_of_lt_of_le hLlt.out hV1.size);clear hV1;have hV0:Below wr.heap.size wr wr.drew:=(Below.refl _ _).drew;replace X:=ι (X.out.up hV0);replace HT:=ι (HT.out.up hV0);replace C0:=ι (C0.out.up hV0);replace C1:=ι (C1.out.up hV0);replace CX:=ι (CX.out.up hV0);replace BP:=ι (BP.out.up hV0);replace K:=ι (K.out.up hV0);generalize Fup F wr wr.drew=F1 at *;clear hV0;refine Rg.Any.begin (S:=Rg.Both 13 (fun _=>True) (fun W=>Below wr.drew.heap.size wr.drew W)) mix ?_;generalize wr.drew=w1 at *;have hS:∀ (l:Array Bool) W,Below w1.heap.size w1 W→Rg.Both 13 (fun _=>True) (fun W=>Below w1.heap.size w1 W) l W:=fun l W h=>⟨.inr trivial,h⟩
     have hI:Below w1.heap.size w1 w1:=Below.refl _ _;refine Rg.tm 0 13 (.pointer (some ⟨tb,0,none⟩)) 19 (hS _ _ hI) ?_;go_frame;refine Rg.tg 1 13 (.pointer (some ⟨tb,0,none⟩)) 20 rfl rfl (.inl ⟨rfl,fun w _=>exec_nil _ rfl rfl⟩) (hS _ _ hI) ?_;go_frame;refine Rg.tg 2 13 (.pointer (some ⟨tb,1,none⟩)) 21 rfl rfl (.inl ⟨rfl,fun w _=>exec_field _ rfl rfl (towF1 _ _)⟩) (hS _ _ hI) ?_;go_frame;refine Rg.tg 3 13 (.slice (some ⟨L,0,none⟩) n n) 22 rfl rfl (Rg.yields_cell _ _ rfl rfl ⟨tb,1,none⟩ rfl (fun W hW=>Rg.run_loadSl _ _ Tryz.underlying168 ((Below.cell (p:=⟨tb,1,none⟩) hW C1.out.lt).trans C1.out.cell))) (hS _ _ hI) ?_;go_frame;refine Rg.tm 4 13 (.int .i64 ((i:Nat):Int)) 23 (hS _ _ hI) ?_;go_frame;refine Rg.tm 5 13 (.slice (some ⟨xb,xo,none⟩) n xc) 24 (hS _ _ hI) ?_;go_frame;refine Rg.tm 6 13 (.int .i64 ((i:Nat):Int)) 25 (hS _ _ hI) ?_;go_frame;refine Rg.tg 7 13 (.pointer (some ⟨xb,xo+i,none⟩)) 26 rfl rfl (Rg.yields_index slPerm _ _ rfl rfl xb (xo) (n) xc (i) rfl rfl HIN.out) (hS _ _ hI) ?_;go_frame
     refine Rg.tg 8 13 (.int .i64 ((q:Nat):Int)) 27 rfl rfl (Rg.yields_cell _ _ rfl rfl ⟨xb,xo+i,none⟩ rfl (fun W hW=>run_loadInt ((Below.cell (p:=⟨xb,xo+i,none⟩) hW CX.out.lt).trans CX.out.cell))) (hS _ _ hI) ?_;go_frame;refine Rg.tg 9 13 (.pointer (some ⟨L,i*194,none⟩)) 28 rfl rfl (.inl ⟨rfl,fun w _=>exec_indexZ0 _ _ rfl Tryz.underlying168 szLevel L (n) (n) (i) rfl rfl HIN.out⟩) (hS _ _ hI) ?_;go_frame;refine Rg.tg 10 13 (.pointer (some ⟨L,i*194+66,none⟩)) 29 rfl rfl (.inl ⟨rfl,fun w _=>exec_field _ rfl rfl (lvF3 _ _ _)⟩) (hS _ _ hI) ?_;go_frame;refine Rg.tg 11 13 (.pointer (some ⟨L,i*194+66+q,none⟩)) 30 rfl rfl (.inl ⟨rfl,fun w _=>exec_indexArr _ _ rfl Tryz.underlying175 szP L (i*194+66) (q) rfl rfl hq64⟩) (hS _ _ hI) ?_;go_frame;refine Rg.tg 12 13 (.slice (some ⟨bb,bo,none⟩) n bc) 31 rfl rfl (Rg.yields_cell _ _ rfl rfl ⟨L,i*194+66+q,none⟩ rfl (fun W hW=>Rg.run_loadSl _ _ Tryz.underlying30 ((Below.cell (p:=⟨L,i*194+66+q,none⟩) hW hLlt.out).trans CB.out))) (hS _ _ hI) ?_;go_frame
     refine Rg.Any.one (i:=13) (by kernel_rfl) (Rg.Any.run (some 9) rfl rfl rfl (Rg.xa (.slice (some ⟨bb,bo,none⟩) n bc) _ rfl rfl) (hS _ _ hI) ?_);go_frame;refine Rg.Any.done (by kernel_rfl) ?_ _;clear hS hI;go_upto_region 5 with (fail);refine Rg.wl ?_;refine Rg.lm 32 (.slice (some ⟨bb,bo,none⟩) n bc) ?_;go_frame;refine Rg.lr 33 (exec_nilF _ _ rfl rfl rfl) ?_;go_frame;go_upto_region 7 with (fail);refine Rg.wl ?_;refine Rg.lm 36 (.slice (some ⟨xb,xo,none⟩) n xc) ?_;go_frame;refine Rg.lm 37 (.int .i64 ((i:Nat):Int)) ?_;go_frame;refine Rg.lr 38 (exec_indexS slPerm _ _ rfl xb (xo) (n) xc (i) rfl rfl HIN.out) ?_;go_frame;refine Rg.lr 39 (Rg.exec_load (v:=.int .i64 ((q:Nat):Int)) _ _ rfl ⟨xb,xo+i,none⟩ rfl (run_loadInt CX.out.cell)) ?_;go_frame;refine Rg.lm 40 (.int .i64 ((i:Nat):Int)) ?_;go_frame;refine Rg.lr 41 (exec_bin (R:=.bool true) .neq _ _ _ rfl rfl rfl (b_neqB _ Rg.dT)) ?_;go_frame
     clear hg0;go_upto_region 8 with (fail);refine Rg.wl ?_;refine Rg.lm 42 (.slice (some ⟨xb,xo,none⟩) n xc) ?_;go_frame;refine Rg.lm 43 (.slice (some ⟨bb,bo,none⟩) n bc) ?_;go_frame;refine Rg.lk 44 (exec_fn 146 _ _ _ rfl rfl rfl (Vmcl0 _ _)) ?_;refine (chMul_f X.out BP.out GY.out GI.out hn1 hn2).mono ?_;rintro e1 w2 ⟨mv,rfl,hmv,hb⟩;replace KB:=ι (Rg.acc KB.out hb);refine ⟨_,rfl,?_⟩;go_frame;replace X:=ι (X.out.up hb);replace HT:=ι (HT.out.up hb);replace C0:=ι (C0.out.up hb);replace C1:=ι (C1.out.up hb);replace CX:=ι (CX.out.up hb);replace BP:=ι (BP.out.up hb);replace K:=ι (K.out.up hb);have MV:=ι hmv;generalize Fup F1 w1 w2=F2 at *;clear hb;refine Rg.la 1 (mv) ?_;go_frame;have hg0:=C0.out.cell;go_wp2
     go_roundw
     case rel=>exact ⟨i+1,_,_,by omega,by omega,by go_num,MV,HT,C0,C1,K,KB,GY2,FY2,HS2⟩
     case measure=>simp [intOf]; omega
  ·obtain rfl:i=n:=by omega
   have HE:=ι (show A=(i,y) by rw [← HS.out,Nat.sub_self]; rfl);clear HS;go_wp2
   go_ret2
   exact ⟨_,u1,by rw [HE.out]; rfl,K.out,HT.out,by rw [HE.out]; exact X.out,KB.out⟩
end Go.Proofs.YtdnmmibchbceeaaGreat

namespace Go.Proofs.Cm
open Go.Proofs
def Full (n:Nat) (T:Twr) (j:Nat):Prop:=Lvl n T j∧Cmp T j∧(T j).gens.length≤pot n T j
structure CInv (n i:Nat) (T T1:Twr):Prop where
 ext:Ext T T1
 low:∀ j,j<i→T1 j=T j
 gens:(T1 i).gens=(T i).gens
 up:∀ j,i<j→j<n→Full n T1 j
 lvl:Lvl n T1 i
def Done (T:Twr) (i k:Nat):Prop:=∀ m (h:m<(T i).orb.length),m<k→(T i).tried (T i).orb[m]=(T i).gens.length
theorem CInv.refl {n i:Nat} {T:Twr} (h:Lvl n T i) (hu:∀ j,i<j→j<n→Full n T j):CInv n i T T:=⟨Ext.refl T,fun _ _=>rfl,rfl,hu,h⟩
theorem CInv.all {n i:Nat} {T T1:Twr} (h:CInv n i T T1):∀ j,i≤j→j<n→Lvl n T1 j:=fun j h1 h2=>by
 by_cases e:j=i
 ·subst e; exact h.lvl
 ·exact (h.up j (by omega) h2).1
theorem Done.cmp {n i:Nat} {T:Twr} (h:Done T i (T i).orb.length) (hl:Lvl n T i):Cmp T i:=fun q u hu=>by
 obtain ⟨m,hm,rfl⟩:=List.getElem_of_mem ((hl.orb q).2 ⟨u,hu⟩);exact h m hm hm
theorem Full.ext {n:Nat} {T T':Twr} {j:Nat} (h:Full n T j) (hx:Ext T T') (e:T' j=T j) (e2:j+1<n→T' (j+1)=T (j+1)):Full n T' j:=by
 obtain ⟨h1,h2,h3⟩:=h;refine ⟨h1.ext e hx fun h0 s hs=>?_,h2.ext e,by rw [e]; exact Nat.le_trans h3 (pot_mono hx j)⟩;rw [e2 h0] at hs;exact h1.low h0 s hs
theorem CInv.found {n i k:Nat} {T T1:Twr} (h:CInv n i T T1) (hd:Done T1 i k) (hin:i<n) {q:Nat} {s uq:List Nat} (hk:(T1 i).tried q<(T1 i).gens.length) (hs:(T1 i).gens[(T1 i).tried q]=s) (huq:(T1 i).rep q=some uq) (hp:(T1 i).rep (ap s q)=none)
  (hkq:∃ h:k<(T1 i).orb.length,(T1 i).orb[k]=q) :
  CInv n i T (find (tick T1 i q) i (ap s q) (Ma.mulN uq s))∧Done (find (tick T1 i q) i (ap s q) (Ma.mulN uq s)) i k∧((find (tick T1 i q) i (ap s q) (Ma.mulN uq s) i).tried q=(T1 i).tried q+1)∧(find (tick T1 i q) i (ap s q) (Ma.mulN uq s) i).gens=(T1 i).gens ∧
   ∃ h:k<(find (tick T1 i q) i (ap s q) (Ma.mulN uq s) i).orb.length,(find (tick T1 i q) i (ap s q) (Ma.mulN uq s) i).orb[k]=q:=by
 have hx:Ext T1 (find (tick T1 i q) i (ap s q) (Ma.mulN uq s)):=(tick_ext T1 i q).trans (find_ext (by rw [tick_at]; exact hp))
 have ne:∀ j,j≠i→find (tick T1 i q) i (ap s q) (Ma.mulN uq s) j=T1 j:=fun j hj=>by rw [find_ne hj,tick_ne hj]
 have ei:find (tick T1 i q) i (ap s q) (Ma.mulN uq s) i={ gens:=(T1 i).gens,orb:=(T1 i).orb++[ap s q],rep:=fun z=>if z=ap s q then some (Ma.mulN uq s) else (T1 i).rep z,tried:=fun p=>if p=q then (T1 i).tried p+1 else (T1 i).tried p }:=by rw [find_at',tick_at]
 obtain ⟨hko,hkq⟩:=hkq;refine ⟨⟨h.ext.trans hx,fun j hj=>by rw [ne j (by omega)]; exact h.low j hj,by rw [ei]; exact h.gens,fun j h1 h2=>(h.up j h1 h2).ext hx (ne j (by omega)) (fun _=>ne _ (by omega)),find_lvl h.all hin hk hs huq hp⟩,?_,by rw [ei]; simp,by rw [ei],?_⟩
 ·intro m hm hmk
  have hm':m<(T1 i).orb.length:=by omega
  have e1:(find (tick T1 i q) i (ap s q) (Ma.mulN uq s) i).orb[m]=(T1 i).orb[m]:=by simp only [ei]; rw [List.getElem_append_left hm']
  rw [e1]
  have hne:(T1 i).orb[m]≠q:=by
   rw [← hkq];intro e;have:=(List.getElem_inj h.lvl.nd).1 e;omega
  simp only [ei];rw [if_neg hne];exact hd m hm' hmk
 ·have hk2:k<((T1 i).orb++[ap s q]).length:=by simp; omega
  refine ⟨by rw [ei]; exact hk2,?_⟩;simp only [ei];rw [List.getElem_append_left hko]; exact hkq
theorem CInv.ticked {n i k:Nat} {T T1 T4:Twr} (h:CInv n i T T1) (hd:Done T1 i k) {q:Nat} {s uq v:List Nat} (hk:(T1 i).tried q<(T1 i).gens.length) (hs:(T1 i).gens[(T1 i).tried q]=s) (huq:(T1 i).rep q=some uq) (hv:(T1 i).rep (ap s q)=some v)
  (hkq:∃ h:k<(T1 i).orb.length,(T1 i).orb[k]=q) (hx:Ext (tick T1 i q) T4) (he:∀ j,j<i+1→T4 j=tick T1 i q j) (hu:∀ j,i<j→j<n→Full n T4 j)
  (hlow:i+1<n→∀ s∈(T4 (i+1)).gens,Gr n (·∈(T1 i).gens) s) (hsd:Sd n (trOf T4) (n - (i+1)) (Ma.mulN (Ma.mulN uq s) (Ma.invN v))) :
  CInv n i T T4∧Done T4 i k∧(T4 i).tried q=(T1 i).tried q+1∧(T4 i).gens=(T1 i).gens∧∃ h:k<(T4 i).orb.length,(T4 i).orb[k]=q:=by
 have hx1:=(tick_ext T1 i q).trans hx;have ei:=(he i (by omega)).trans (tick_at T1 i q);obtain ⟨hko,hkq⟩:=hkq;refine ⟨⟨h.ext.trans hx1,fun j hj=>by rw [he j (by omega),tick_ne (by omega)]; exact h.low j hj,by rw [ei]; exact h.gens,hu,tick_lvl h.lvl hk hs huq (he i (by omega)) hx1 hlow hv hsd⟩,?_,by rw [ei]; simp,by rw [ei],?_⟩
 ·intro m hm hmk
  have hm':m<(T1 i).orb.length:=by rw [ei] at hm; exact hm
  have hne:(T1 i).orb[m]≠q:=by
   rw [← hkq];intro e;have:=(List.getElem_inj h.lvl.nd).1 e;omega
  simp only [ei];rw [if_neg hne];exact hd m hm' hmk
 ·refine ⟨by rw [ei]; exact hko,?_⟩
  simp only [ei]; exact hkq
theorem schr_ok {n i q:Nat} {T:Twr} (h:Lvl n T i) (hin:i<n) {s uq v:List Nat} (hs:s∈(T i).gens) (huq:(T i).rep q=some uq) (hv:(T i).rep (ap s q)=some v) :
  Gd n (Ma.mulN uq s)∧Gd n v∧ap (Ma.mulN uq s) i=ap s q∧Gd n (Ma.mulN (Ma.mulN uq s) (Ma.invN v))∧Fx (i+1) (Ma.mulN (Ma.mulN uq s) (Ma.invN v))∧Gr n (·∈(T i).gens) (Ma.mulN (Ma.mulN uq s) (Ma.invN v)):=by
 have gs:=h.ggd s hs;have gu:=h.tgd q uq huq;have gv:=h.tgd _ v hv;have gy:=gd_mul gu gs
 have ay:ap (Ma.mulN uq s) i=ap s q:=by rw [ap_mul gu hin,h.tat q uq huq]
 have fy:Fx i (Ma.mulN uq s):=Fx.mul gu (by omega) (h.tfx q uq huq) (h.gfx s hs);refine ⟨gy,gv,ay,gd_mul gy (gd_inv gv),fun j hj=>?_,.mul _ _ (.mul _ _ (h.tgr q uq huq) (.gen _ hs)) (.inv _ (h.tgr _ v hv))⟩;rw [ap_mul gy (by omega)]
 by_cases e:j=i
 ·subst e
  rw [ay,← h.tat _ v hv];exact ap_inv gv hin
 ·rw [fy j (by omega)]
  exact Fx.inv gv (by omega) (h.tfx _ v hv) j (by omega)
structure Added (n i:Nat) (T T':Twr) (x:List Nat):Prop where
 ext:Ext T T'
 low:∀ j,j<i→T' j=T j
 full:∀ j,i≤j→j<n→Full n T' j
 sd:Sd n (trOf T') (n - i) x
 gens:∀ H:List Nat→Prop,IsG n H→(∀ s∈(T i).gens,H s)→H x→∀ s∈(T' i).gens,H s
theorem Added.same {n i:Nat} {T:Twr} {x:List Nat} (hf:∀ j,i≤j→j<n→Full n T j) (hi:i<n) (gx:Gd n x) (fx:Fx i x) (h:(sfP n (trOf T) (n - i) x).1=n):Added n i T T x:=by
 have hr:Rp n i (trOf T):=Lvl.rp fun j a b=>(hf j a b).1;obtain ⟨_,_,g,f,_⟩:=sfP_all hr (d:=n - i) (x:=x) (by omega) (by omega) gx (by rw [show n - (n - i)=i by omega]; exact fx);rw [h] at f;refine ⟨Ext.refl T,fun _ _=>rfl,hf,?_,fun H _ hs _=>hs⟩;refine sfP_back (tr:=trOf T) (by omega) (fun _ _ _ _ e=>e) ?_;rw [h,Nat.sub_self];exact Fx.all g f
structure AInv (n i at_ k:Nat) (T T1:Twr) (r:List Nat):Prop where
 ext:Ext T T1
 low:∀ j,j<i→T1 j=T j
 put:∀ j,i≤j→j<k→T1 j=putG T i at_ r j
 full:∀ j,k≤j→j<n→Full n T1 j
 genk:k≤at_→(T1 k).gens=(T k).gens++[r]
 tail:k=at_+1→∀ j,at_<j→T1 j=T j
 memr:r∈(T1 at_).gens
 more:k≤at_→(T at_).orb.length<(T1 at_).orb.length
theorem AInv.start {n i at_:Nat} {T:Twr} {r:List Nat} (hf:∀ j,i≤j→j<n→Full n T j) (hi:i≤at_):AInv n i at_ (at_+1) T (putG T i at_ r) r :=
 ⟨putG_ext _ _ _ _,fun j hj=>putG_out (by omega),fun _ _ _=>rfl,fun j h1 h2=>(hf j (by omega) h2).ext (putG_ext T i at_ r) (putG_out (by omega)) (fun _=>putG_out (by omega)),fun h=>by omega,fun _ j hj=>putG_out (by omega),
  by rw [putG_in ⟨hi,Nat.le_refl _⟩]; exact List.mem_append_right _ (List.mem_singleton.2 rfl),fun h=>by omega⟩
theorem AInv.lvl {n i at_ k:Nat} {T T1:Twr} {r:List Nat} (h:AInv n i at_ (k+1) T T1 r) (hf:∀ j,i≤j→j<n→Full n T j) (hi:i≤k) (hk:k≤at_) (ha:at_<n) (gr:Gd n r) (fr:Fx at_ r):Lvl n T1 k:=by
 have h1:=putG_lvl (hf k hi (by omega)).1 hi gr fr;have e0:=h.put k hi (by omega);refine h1.ext0 e0 (fun j p u e=>?_) fun h0 s hs=>?_
 ·have:trOf (putG T i at_ r) j p=some u:=e
  rw [putG_to] at this;exact h.ext.rep j p u this
 ·by_cases e:k+1≤at_
  ·rw [h.genk e] at hs
   have hp:=h1.low h0 s;rw [putG_in (j:=k+1) ⟨by omega,e⟩] at hp;exact hp hs
  ·have e2:k+1=at_+1:=by omega
   rw [h.tail e2 (k+1) (by omega)] at hs;have hp:=h1.low h0 s;rw [putG_out (j:=k+1) (by omega)] at hp;exact hp hs
theorem AInv.step {n i at_ k:Nat} {T T1 T2:Twr} {r:List Nat} (h:AInv n i at_ (k+1) T T1 r) (hf:∀ j,i≤j→j<n→Full n T j) (hi:i≤k) (hk:k≤at_) (ha:at_<n) (hp:(T at_).rep (ap r at_)=none) (hc:CInv n k T1 T2) (hcm:Cmp T2 k):AInv n i at_ k T T2 r:=by
 have hx:=h.ext.trans hc.ext
 have hg:(T2 k).gens=(T k).gens++[r]:=by rw [hc.gens,h.put k hi (by omega),putG_in ⟨hi,hk⟩]
 have hm:=hc.ext.gens at_ r h.memr
 have hlt:(T at_).orb.length<(T2 at_).orb.length:=by
  by_cases e:k=at_
  ·subst e
   have h0:=(hf k hi ha).1;have hl:=hc.lvl;have hself:=hl.self;obtain ⟨m,hm1,hm2⟩:=List.getElem_of_mem hm;obtain ⟨v,hv,_⟩:=hl.pr k _ m hm1 hself (by rw [hcm k _ hself]; exact hm1);rw [hm2] at hv;have hin:=(hl.orb (ap r k)).2 ⟨v,hv⟩
   have hnin:ap r k∉(T k).orb:=fun hh=>by
    obtain ⟨u,hu⟩:=(h0.orb _).1 hh;rw [hp] at hu; cases hu
   have hnd:(ap r k :: (T k).orb).Nodup:=List.nodup_cons.2 ⟨hnin,h0.nd⟩
   have:=List.Nodup.length_le_of_subset hnd (l₂:=(T2 k).orb) (fun z hz=>by
    rcases List.mem_cons.1 hz with rfl | hz
    ·exact hin
    ·obtain ⟨u,hu⟩:=(h0.orb z).1 hz
     exact (hl.orb z).2 ⟨u,hx.rep k z u hu⟩)
   simp at this; omega
  ·exact Nat.lt_of_lt_of_le (h.more (by omega)) (hc.ext.orb at_)
 refine ⟨hx,fun j hj=>by rw [hc.low j (by omega)]; exact h.low j hj,fun j h1 h2=>by rw [hc.low j h2]; exact h.put j h1 (by omega),fun j h1 h2=>?_,fun _=>hg,fun e=>by omega,hm,fun _=>hlt⟩
 by_cases e:j=k
 ·subst e
  refine ⟨hc.lvl,hcm,?_⟩;have:=(hf j hi h2).2.2;have h3:=pot_more (n:=n) hx ha hk hlt;rw [hg,List.length_append,List.length_singleton];omega
 ·exact hc.up j (by omega) h2
theorem AInv.up {n i at_ k:Nat} {T T1:Twr} {r:List Nat} (h:AInv n i at_ (k+1) T T1 r):∀ j,k<j→j<n→Full n T1 j:=fun j h1 h2=>h.full j (by omega) h2
theorem AInv.added {n i:Nat} {T T1:Twr} {x:List Nat} (hf:∀ j,i≤j→j<n→Full n T j) (hi:i<n) (gx:Gd n x) (fx:Fx i x) (h:AInv n i (sfP n (trOf T) (n - i) x).1 i T T1 (sfP n (trOf T) (n - i) x).2) (ha:(sfP n (trOf T) (n - i) x).1<n):Added n i T T1 x:=by
 have hr:Rp n i (trOf T):=Lvl.rp fun j a b=>(hf j a b).1;obtain ⟨_,hge,gr,fr,_⟩:=sfP_all hr (d:=n - i) (x:=x) (by omega) (by omega) gx (by rw [show n - (n - i)=i by omega]; exact fx);rw [show n - (n - i)=i by omega] at hge;refine ⟨h.ext,h.low,h.full,?_,fun H hH hs hx s hs2=>?_⟩
 ·refine sfP_back (tr:=trOf T) (by omega) (fun j p u _ e=>h.ext.rep j p u e) ?_
  exact Lvl.sd (fun j h1 h2=>⟨(h.full j (by omega) h2).1,(h.full j (by omega) h2).2.1⟩) ha (.gen _ h.memr)
 ·rw [h.genk hge] at hs2
  rcases List.mem_append.1 hs2 with hs2 | hs2
  ·exact hs s hs2
  ·rw [List.mem_singleton] at hs2
   subst hs2;refine sfP_mem hH (by omega) (fun j p u h1 h2 hu=>?_) hx;have hT:Tow n i (fun j s=>s∈(T j).gens) (trOf T):=Lvl.tow fun j a b=>⟨(hf j a b).1,(hf j a b).2.1⟩;have h3:=hT.mem j p u (by omega) h2 hu;have h4:=hT.sub (i:=i) (Nat.le_refl _) (k:=j - i) (by omega) (x:=u) (by rwa [show i+(j - i)=j by omega]);exact Gr.sub hH hs h4
end Go.Proofs.Cm

namespace Go.Proofs.YtdnmmibchbceeaaGreat
open Go.RowKit
open Go.Proofs
open Go.Proofs.Cm (Lv Twr trOf)
attribute [local irreducible] Go.Calls
theorem Vncl1 (args:Array Value) (w:World):(callFunc 156 args).run Tryz.prog w=.ok (.enter 156 args) w:=by kernel_rfl
theorem Vncl2 (args:Array Value) (w:World):(callFunc 121 args).run Tryz.prog w=.ok (.enter 121 args) w:=by kernel_rfl
theorem row_of {w:World} {B:Nat} {e:TypeId} {v:Value} {n:Nat} {xs:List Value} (h:w.ownsRow B e 1 v n xs) {k:Nat} (hk:k<n):∃ g c u,v=.slice (some ⟨g,0,none⟩) n c∧w.cell? ⟨g,0+k,none⟩=some u∧xs[k]?=some u∧g<w.heap.size:=by
 have hh:=h;obtain ⟨h1,h2⟩:=h
 rcases h2 with ⟨_,h0⟩ | ⟨g,cap,cur,rfl,hg,hc,h3,h4,h5,h6⟩
 ·omega
 ·have hx:k<xs.length:=by omega
  refine ⟨g,cap,xs[k],rfl,?_,List.getElem?_eq_getElem hx,(Array.getElem?_eq_some_iff.1 hc).1⟩;have:=hh.cells (g:=g) rfl k xs[k] (List.getElem?_eq_getElem hx);rw [Nat.zero_add];unfold Addr.add at this
  split at this
  ·rename_i h0; subst h0; exact this
  ·simpa using this
theorem TowAt.orbS {F:Nat→Prop} {L n:Nat} {w:World} {T:Twr} {V:Nat→LV} (h:TowAt F L n w T V) {i k:Nat} (hi:i<n) (hk:k<(T i).orb.length):∃ g c,(V i).o=.slice (some ⟨g,0,none⟩) (T i).orb.length c∧w.cell? ⟨g,0+k,none⟩=some (.int .i64 (((T i).orb[k]:Nat):Int))∧g<w.heap.size:=by
 obtain ⟨g,c,u,e,h1,h2,h3⟩:=row_of (h.lv i hi).oown hk;refine ⟨g,c,e,?_,h3⟩;rw [h1,← h2];simp [Ma.ofN,List.getElem?_eq_getElem hk]
theorem TowAt.orbL {F:Nat→Prop} {L n:Nat} {w:World} {T:Twr} {V:Nat→LV} (h:TowAt F L n w T V) {i:Nat} (hi:i<n):∃ a c,(V i).o=.slice a (T i).orb.length c:=Rg.row_shape (h.lv i hi).oown
theorem TowAt.genL {F:Nat→Prop} {L n:Nat} {w:World} {T:Twr} {V:Nat→LV} (h:TowAt F L n w T V) {i:Nat} (hi:i<n):∃ a c,(V i).g=.slice a (T i).gens.length c:=Rg.row_shape (h.lv i hi).gown
theorem TowAt.genS {F:Nat→Prop} {L n:Nat} {w:World} {T:Twr} {V:Nat→LV} (h:TowAt F L n w T V) {i k:Nat} (hi:i<n) (hk:k<(T i).gens.length):∃ g c u,(V i).g=.slice (some ⟨g,0,none⟩) (T i).gens.length c∧w.cell? ⟨g,0+k,none⟩=some u∧FP F w u (T i).gens[k]∧g<w.heap.size:=by
 obtain ⟨g,c,u,e,h1,h2,h3⟩:=row_of (h.lv i hi).gown hk;refine ⟨g,c,u,e,h1,?_,h3⟩;have hel:=(h.lv i hi).gel;obtain ⟨hku,rfl⟩:=List.getElem?_eq_some_iff.1 h2;have:=hel.2 k hku (by simpa using hk);simp only [List.getElem_map] at this;exact this
structure CL (w:World) (b o:Nat) (v:Value):Prop where
 cell:w.cell? ⟨b,o,none⟩=some v
 lt:b<w.heap.size
theorem CL.up {w w':World} {b o:Nat} {v:Value} (h:CL w b o v) (hb:Below w.heap.size w w'):CL w' b o v:=⟨(hb.cell (p:=⟨b,o,none⟩) h.lt).trans h.cell,Nat.lt_of_lt_of_le h.lt hb.size⟩
theorem Done.next {T:Twr} {i k q:Nat} (h:Cm.Done T i k) (hq:∃ h:k<(T i).orb.length,(T i).orb[k]=q) (ht:(T i).tried q=(T i).gens.length):Cm.Done T i (k+1):=fun m hm hmk=>by
 by_cases e:m=k
 ·subst e
  obtain ⟨_,e⟩:=hq;rw [e]; exact ht
 ·exact h m hm (by omega)
open Go.Proofs.Cm in
def CloseC (n i:Nat):Prop:=∀ (F:Nat→Prop) (L tb:Nat) (w:World) (T:Twr) (V:Nat→LV),TowAt F L n w T V→CF F w tb 0 (.int .i64 ((n:Nat):Int))→CF F w tb 1 (.slice (some ⟨L,0,none⟩) n n)→(∀ j,i<j→j<n→Full n T j)→Lvl n T i→(T i).gens.length≤5000 →
 Calls Tryz.prog 142 #[.pointer (some ⟨tb,0,none⟩),.int .i64 ((i:Nat):Int)] w fun e w'=>∃ F' T' V',e=.returned (.tuple #[])∧KG F w F' w'∧TowAt F' L n w' T' V'∧CInv n i T T'∧Cmp T' i
open Go.Proofs.Cm in
def AddC (n i:Nat):Prop:=∀ (F:Nat→Prop) (L tb:Nat) (w:World) (T:Twr) (V:Nat→LV) (xv:Value) (x:List Nat),TowAt F L n w T V→CF F w tb 0 (.int .i64 ((n:Nat):Int))→CF F w tb 1 (.slice (some ⟨L,0,none⟩) n n)→FP F w xv x→Gd n x→Fx i x→(∀ j,i≤j→j<n→Full n T j) →
 Calls Tryz.prog 121 #[.pointer (some ⟨tb,0,none⟩),xv,.int .i64 ((i:Nat):Int)] w fun e w'=>∃ F' T' V',e=.returned (.tuple #[])∧KG F w F' w'∧TowAt F' L n w' T' V'∧Added n i T T' x
open Go.Proofs.Cm in
theorem close_any {n i:Nat} (hn1:1≤n) (hn2:n≤64) (hin:i<n) (hadd:i+1<n→AddC n (i+1)):CloseC n i:=by
 intro F L tb w T V hT hc0 hc1 hup hlv hgl;have K:=ι (KG.refl hT.Flt);have HT:=ι hT;have C0:=ι hc0;have C1:=ι hc1;have HI:=ι (CInv.refl hlv hup);have HD:=ι (show Done T i 0 from fun m _ h=>absurd h (Nat.not_lt_zero _));have HADD:=ι hadd;have HG:=ι hgl;have hOO:=ι (orb_len hlv);clear hT hc0 hc1 hup hlv hadd hgl
 go_enter Tryz.func142,Tryz.ntmps142
 go_upto_region 0 with (fail);refine Rg.wl ?_;refine Rg.lm 10 (.pointer (some ⟨tb,0,none⟩)) ?_;go_frame;refine Rg.lr 11 (exec_nil _ rfl rfl) ?_;go_frame;refine Rg.lr 12 (exec_field _ rfl rfl (towF1 _ _)) ?_;go_frame;refine Rg.lr 13 (Rg.exec_load (v:=.slice (some ⟨L,0,none⟩) n n) _ _ rfl ⟨tb,1,none⟩ rfl (Rg.run_loadSl _ _ Tryz.underlying168 C1.out.cell)) ?_;go_frame;refine Rg.lm 14 (.int .i64 ((i:Nat):Int)) ?_;go_frame;refine Rg.lr 15 (exec_indexZ0 _ _ rfl Tryz.underlying168 szLevel L (n) (n) (i) rfl rfl hin) ?_;go_frame;refine Rg.la 4 (.pointer (some ⟨L,i*194,none⟩)) ?_;go_frame;have hVo:=HT.out.orbL hin;obtain ⟨oa0,oc0,hVo⟩:=hVo
 have hL0:w.cell? ⟨L,i*194+1,none⟩=some (.slice oa0 (T i).orb.length oc0):=by rw [getO HT.out hin (by omega),hVo]
 have hoN:((T i).orb.length:Int)≤64:=by have:=hOO.out; omega
 clear hVo;go_wp2
 go_loopw [5] (fun kv wr=>∃ (k:Nat) (F1:Nat→Prop) (T1:Twr) (V1:Nat→LV),kv=.int .i64 k∧k≤(T1 i).orb.length∧Hid (TowAt F1 L n wr T1 V1)∧Hid (CF F1 wr tb 0 (.int .i64 ((n:Nat):Int)))∧Hid (CF F1 wr tb 1 (.slice (some ⟨L,0,none⟩) n n))∧Hid (KG F w F1 wr)∧Hid (CInv n i T T1)∧Hid (Done T1 i k)) (fun kv _=>n - (intOf kv).toNat)
 case atStart=>exact ⟨0,F,T,V,rfl,Nat.zero_le _,HT,C0,C1,K,HI,HD⟩
 case round =>
  clear HT C0 C1 K HI HD hL0 hoN;obtain ⟨k,F1,T1,V,rfl,hk,HT,C0,C1,K,HI,HD⟩:=hrel;have hon:=orb_len HI.out.lvl
  have hoN:((T1 i).orb.length:Int)≤64:=by omega
  by_cases hkl:k<(T1 i).orb.length
  ·obtain ⟨ob,oc,hVo,hoc,hob⟩:=HT.out.orbS hin hkl
   have hL0:wr.cell? ⟨L,i*194+1,none⟩=some (.slice (some ⟨ob,0,none⟩) (T1 i).orb.length oc):=by rw [getO HT.out hin (by omega),hVo]
   have hkN:(k:Int)<((T1 i).orb.length:Int):=by omega
   obtain ⟨q,hq⟩:∃ q:Nat,Hid (q=(T1 i).orb[k]):=⟨_,ι rfl⟩;have HKL:=ι hkl;have hoc':=ι (show wr.cell? ⟨ob,0+k,none⟩=some (.int .i64 ((q:Nat):Int)) by rw [hq.out]; exact hoc);have HL0:=ι hL0;clear hVo hoc hob;go_upto_region 4 with (fail);refine Rg.wl ?_;refine Rg.lm 25 (.pointer (some ⟨L,i*194,none⟩)) ?_;go_frame;refine Rg.lr 26 (exec_nil _ rfl rfl) ?_;go_frame;refine Rg.lr 27 (exec_field _ rfl rfl (lvF1 _ _ _)) ?_;go_frame;refine Rg.lr 28 (Rg.exec_load (v:=.slice (some ⟨ob,0,none⟩) (T1 i).orb.length oc) _ _ rfl ⟨L,i*194+1,none⟩ rfl (Rg.run_loadSl _ _ Tryz.underlying25 HL0.out)) ?_;go_frame;refine Rg.lm 29 (.int .i64 ((k:Nat):Int)) ?_;go_frame;refine Rg.lr 30 (exec_indexS slInts _ _ rfl ob (0) ((T1 i).orb.length) oc (k) rfl rfl HKL.out) ?_;go_frame;refine Rg.lr 31 (Rg.exec_load (v:=.int .i64 ((q:Nat):Int)) _ _ rfl ⟨ob,0+k,none⟩ rfl (run_loadInt hoc'.out)) ?_;go_frame
   refine Rg.la 6 (.int .i64 ((q:Nat):Int)) ?_;go_frame;have hqo:=ι (show q∈(T1 i).orb by rw [hq.out]; exact List.getElem_mem HKL.out);obtain ⟨uq,huq⟩:=(HI.out.lvl.orb q).1 hqo.out;have hqn:q<n:=HI.out.lvl.tlt q uq huq;have HUQ:=ι huq;have HKQ:=ι (show ∃ h:k<(T1 i).orb.length,(T1 i).orb[k]=q from ⟨HKL.out,hq.out.symm⟩);have HEX:=ι (Ext.refl T1);have hle:=HI.out.lvl.le q;have HN0:=ι (show ((T1 i).gens.length - (T1 i).tried q)+(T1 i).tried q=(T1 i).gens.length by omega);clear huq hL0 hle hoc' hq hqo hkN hon hoN HL0
   have hq64:q<64:=by omega
   go_wp2;simp only [Nat.zero_add]
   go_loopg [] ((T1 i).gens.length - (T1 i).tried q) (fun g wr=>∃ (F2:Nat→Prop) (T2:Twr) (V2:Nat→LV),Hid (g+(T2 i).tried q=(T2 i).gens.length)∧Hid (TowAt F2 L n wr T2 V2)∧Hid (CF F2 wr tb 0 (.int .i64 ((n:Nat):Int)))∧Hid (CF F2 wr tb 1 (.slice (some ⟨L,0,none⟩) n n))∧Hid (KG F w F2 wr)∧Hid (CInv n i T T2)∧Hid (Done T2 i k)∧Hid (∃ h:k<(T2 i).orb.length,(T2 i).orb[k]=q)∧Hid (Ext T1 T2))
   case atStart=>exact ⟨F1,T1,V,HN0,HT,C0,C1,K,HI,HD,HKQ,HEX⟩
   case round =>
    clear HT C0 C1 K HI HD HKQ HEX HN0 HKL;obtain ⟨F2,T2,V2,HN,HT,C0,C1,K,HI,HD,HKQ,HEX⟩:=hrel;obtain ⟨tr,htr⟩:∃ tr:Nat,Hid (tr=(T2 i).tried q):=⟨_,ι rfl⟩;obtain ⟨gn,hgn⟩:∃ gn:Nat,Hid (gn=(T2 i).gens.length):=⟨_,ι rfl⟩
    have hgt:gk+tr=gn:=by rw [htr.out,hgn.out]; exact HN.out
    have hgn5:gn≤5000:=by rw [hgn.out,HI.out.gens]; exact HG.out
    have CT:=ι (CL.mk (show wr.cell? ⟨L,i*194+130+q,none⟩=some (.int .i64 ((tr:Nat):Int)) by rw [getTried HT.out hin hq64 (by omega),← htr.out]) HT.out.lt);obtain ⟨ga,gc,hVg⟩:=HT.out.genL hin;have CG:=ι (CL.mk (show wr.cell? ⟨L,i*194,none⟩=some (.slice ga gn gc) by rw [getG HT.out hin rfl,hVg,hgn.out]) HT.out.lt);have hon:=orb_len HI.out.lvl
    by_cases hk0:gk=0
    ·clear hVg
     go_upto_region 5 with (fail);have hV0:Below wr.heap.size wr wr.drew:=(Below.refl _ _).drew;replace HT:=ι (HT.out.up hV0);replace C0:=ι (C0.out.up hV0);replace C1:=ι (C1.out.up hV0);replace CT:=ι (CT.out.up hV0);replace CG:=ι (CG.out.up hV0);replace K:=ι (K.out.up hV0);generalize Fup F2 wr wr.drew=F1 at *;clear hV0;refine Rg.Any.begin (S:=Rg.Both 11 (fun _=>True) (fun W=>Below wr.drew.heap.size wr.drew W)) mix ?_;generalize wr.drew=w21 at *;have hS:∀ (l:Array Bool) W,Below w21.heap.size w21 W→Rg.Both 11 (fun _=>True) (fun W=>Below w21.heap.size w21 W) l W:=fun l W h=>⟨.inr trivial,h⟩;have hI:Below w21.heap.size w21 w21:=Below.refl _ _;refine Rg.tm 0 11 (.pointer (some ⟨L,i*194,none⟩)) 32 (hS _ _ hI) ?_;go_frame;refine Rg.tm 1 11 (.int .i64 ((q:Nat):Int)) 33 (hS _ _ hI) ?_;go_frame;refine Rg.tg 2 11 (.pointer (some ⟨L,i*194,none⟩)) 34 rfl rfl (.inl ⟨rfl,fun w _=>exec_nil _ rfl rfl⟩) (hS _ _ hI) ?_;go_frame
     refine Rg.tg 3 11 (.pointer (some ⟨L,i*194+130,none⟩)) 35 rfl rfl (.inl ⟨rfl,fun w _=>exec_field _ rfl rfl (lvF4 _ _ _)⟩) (hS _ _ hI) ?_;go_frame;refine Rg.tg 4 11 (.pointer (some ⟨L,i*194+130+q,none⟩)) 36 rfl rfl (.inl ⟨rfl,fun w _=>exec_indexArr _ _ rfl Tryz.underlying176 szI L (i*194+130) (q) rfl rfl hq64⟩) (hS _ _ hI) ?_;go_frame;refine Rg.tg 5 11 (.int .i64 ((tr:Nat):Int)) 37 rfl rfl (Rg.yields_cell _ _ rfl rfl ⟨L,i*194+130+q,none⟩ rfl (fun W hW=>run_loadInt ((Below.cell (p:=⟨L,i*194+130+q,none⟩) hW CT.out.lt).trans CT.out.cell))) (hS _ _ hI) ?_;go_frame;refine Rg.tm 6 11 (.pointer (some ⟨L,i*194,none⟩)) 38 (hS _ _ hI) ?_;go_frame;refine Rg.tg 7 11 (.pointer (some ⟨L,i*194,none⟩)) 39 rfl rfl (.inl ⟨rfl,fun w _=>exec_nil _ rfl rfl⟩) (hS _ _ hI) ?_;go_frame;refine Rg.tg 8 11 (.pointer (some ⟨L,i*194,none⟩)) 40 rfl rfl (.inl ⟨rfl,fun w _=>exec_field _ rfl rfl (lvF0 _ _ _)⟩) (hS _ _ hI) ?_;go_frame
     refine Rg.tg 9 11 (.slice ga gn gc) 41 rfl rfl (Rg.yields_cell _ _ rfl rfl ⟨L,i*194,none⟩ rfl (fun W hW=>Rg.run_loadSl _ _ Tryz.underlying22 ((Below.cell (p:=⟨L,i*194,none⟩) hW CG.out.lt).trans CG.out.cell))) (hS _ _ hI) ?_;go_frame;refine Rg.tg 10 11 (.int .i64 ((gn:Nat):Int)) 42 rfl rfl (.inl ⟨rfl,fun w _=>exec_len _ _ _ rfl Tryz.underlying22 _ _ _ rfl⟩) (hS _ _ hI) ?_;go_frame;refine Rg.Any.one (i:=11) (by kernel_rfl) (Rg.Any.run (some 43) rfl rfl rfl (exec_bin (R:=.bool false) .lss _ _ _ rfl rfl rfl (b_lss _ Rg.dF)) (hS _ _ hI) ?_);go_frame;refine Rg.Any.done (by kernel_rfl) ?_ _;clear hS hI;have HD2:=ι (Done.next HD.out HKQ.out (by rw [← htr.out,← hgn.out]; omega));obtain ⟨hkq1,hkq2⟩:=HKQ.out;go_wp2
     go_roundw
     case rel=>exact ⟨k+1,_,T2,V2,by go_num,hkq1,HT,C0,C1,K,HI,HD2⟩
     case measure=>simp [intOf]; omega
    ·obtain ⟨gb,gc',u,hVg',hgc,hgp,hgl⟩:=HT.out.genS hin (k:=tr) (by have:=hgn.out; omega)
     rw [hVg,← hgn.out] at hVg'
     injection hVg' with e1 _ e2
     subst e1 e2;have HKT:=ι (show tr<gn by omega);obtain ⟨s,hs⟩:∃ s,Hid (∃ h:tr<(T2 i).gens.length,(T2 i).gens[tr]=s):=⟨_,ι ⟨by rw [← hgn.out]; omega,rfl⟩⟩;obtain ⟨hs1,hs2⟩:=hs.out;have hsm:=ι (show s∈(T2 i).gens by rw [← hs2]; exact List.getElem_mem hs1);have GS:=ι (HI.out.lvl.ggd s hsm.out);rw [hs2] at hgp;obtain ⟨sb,so,sc,rfl⟩:=hgp.shape' GS.out hn1;have SP:=ι hgp;have CS:=ι (CL.mk hgc hgl);have hrq:=HEX.out.rep i q uq HUQ.out;have HRQ:=ι hrq;have GU:=ι (HI.out.lvl.tgd q uq hrq)
     have hpq0:Cm.ap (Ma.mulN uq s) i=Cm.ap s q:=by rw [Cm.ap_mul GU.out hin,HI.out.lvl.tat q uq hrq]
     have GY:=ι (Cm.gd_mul GU.out GS.out);obtain ⟨p,hp⟩:∃ p,Hid (p=Cm.ap s q):=⟨_,ι rfl⟩;have hpy:=ι (show Cm.ap (Ma.mulN uq s) i=p by rw [hp.out]; exact hpq0)
     have hpn:p<n:=by rw [← hpy.out]; exact Cm.ap_lt GY.out hin
     have hp64:p<64:=by omega
     have HGT:=ι hgt;have HHK:=ι hk0;clear hVg hgc hgp hgl hs1 hs2 hrq hpq0 hgt hk0
     have hkT:(tr:Int)<(gn:Int):=by have:=HKT.out; omega
     go_upto_region 5 with (fail);have hV0:Below wr.heap.size wr wr.drew:=(Below.refl _ _).drew;replace HT:=ι (HT.out.up hV0);replace C0:=ι (C0.out.up hV0);replace C1:=ι (C1.out.up hV0);replace CT:=ι (CT.out.up hV0);replace CG:=ι (CG.out.up hV0);replace CS:=ι (CS.out.up hV0);replace SP:=ι (SP.out.up hV0);replace K:=ι (K.out.up hV0);generalize Fup F2 wr wr.drew=F1 at *;clear hV0;refine Rg.Any.begin (S:=Rg.Both 11 (fun _=>True) (fun W=>Below wr.drew.heap.size wr.drew W)) mix ?_;generalize wr.drew=w21 at *;have hS:∀ (l:Array Bool) W,Below w21.heap.size w21 W→Rg.Both 11 (fun _=>True) (fun W=>Below w21.heap.size w21 W) l W:=fun l W h=>⟨.inr trivial,h⟩;have hI:Below w21.heap.size w21 w21:=Below.refl _ _;refine Rg.tm 0 11 (.pointer (some ⟨L,i*194,none⟩)) 32 (hS _ _ hI) ?_;go_frame;refine Rg.tm 1 11 (.int .i64 ((q:Nat):Int)) 33 (hS _ _ hI) ?_;go_frame
     refine Rg.tg 2 11 (.pointer (some ⟨L,i*194,none⟩)) 34 rfl rfl (.inl ⟨rfl,fun w _=>exec_nil _ rfl rfl⟩) (hS _ _ hI) ?_;go_frame;refine Rg.tg 3 11 (.pointer (some ⟨L,i*194+130,none⟩)) 35 rfl rfl (.inl ⟨rfl,fun w _=>exec_field _ rfl rfl (lvF4 _ _ _)⟩) (hS _ _ hI) ?_;go_frame;refine Rg.tg 4 11 (.pointer (some ⟨L,i*194+130+q,none⟩)) 36 rfl rfl (.inl ⟨rfl,fun w _=>exec_indexArr _ _ rfl Tryz.underlying176 szI L (i*194+130) (q) rfl rfl hq64⟩) (hS _ _ hI) ?_;go_frame;refine Rg.tg 5 11 (.int .i64 ((tr:Nat):Int)) 37 rfl rfl (Rg.yields_cell _ _ rfl rfl ⟨L,i*194+130+q,none⟩ rfl (fun W hW=>run_loadInt ((Below.cell (p:=⟨L,i*194+130+q,none⟩) hW CT.out.lt).trans CT.out.cell))) (hS _ _ hI) ?_;go_frame;refine Rg.tm 6 11 (.pointer (some ⟨L,i*194,none⟩)) 38 (hS _ _ hI) ?_;go_frame;refine Rg.tg 7 11 (.pointer (some ⟨L,i*194,none⟩)) 39 rfl rfl (.inl ⟨rfl,fun w _=>exec_nil _ rfl rfl⟩) (hS _ _ hI) ?_;go_frame
     refine Rg.tg 8 11 (.pointer (some ⟨L,i*194,none⟩)) 40 rfl rfl (.inl ⟨rfl,fun w _=>exec_field _ rfl rfl (lvF0 _ _ _)⟩) (hS _ _ hI) ?_;go_frame;refine Rg.tg 9 11 (.slice (some ⟨gb,0,none⟩) gn gc) 41 rfl rfl (Rg.yields_cell _ _ rfl rfl ⟨L,i*194,none⟩ rfl (fun W hW=>Rg.run_loadSl _ _ Tryz.underlying22 ((Below.cell (p:=⟨L,i*194,none⟩) hW CG.out.lt).trans CG.out.cell))) (hS _ _ hI) ?_;go_frame;refine Rg.tg 10 11 (.int .i64 ((gn:Nat):Int)) 42 rfl rfl (.inl ⟨rfl,fun w _=>exec_len _ _ _ rfl Tryz.underlying22 _ _ _ rfl⟩) (hS _ _ hI) ?_;go_frame;refine Rg.Any.one (i:=11) (by kernel_rfl) (Rg.Any.run (some 43) rfl rfl rfl (exec_bin (R:=.bool true) .lss _ _ _ rfl rfl rfl (b_lss _ Rg.dT)) (hS _ _ hI) ?_);go_frame;refine Rg.Any.done (by kernel_rfl) ?_ _;clear hS hI;go_upto_region 6 with (fail);have hV0:Below w21.heap.size w21 w21.drew:=(Below.refl _ _).drew;replace HT:=ι (HT.out.up hV0)
     replace C0:=ι (C0.out.up hV0);replace C1:=ι (C1.out.up hV0);replace CT:=ι (CT.out.up hV0);replace CG:=ι (CG.out.up hV0);replace CS:=ι (CS.out.up hV0);replace SP:=ι (SP.out.up hV0);replace K:=ι (K.out.up hV0);generalize Fup F1 w21 w21.drew=F2 at *;clear hV0;refine Rg.Any.begin (S:=Rg.Both 12 (fun _=>True) (fun W=>Below w21.drew.heap.size w21.drew W)) mix ?_;generalize w21.drew=w22 at *;have hS:∀ (l:Array Bool) W,Below w22.heap.size w22 W→Rg.Both 12 (fun _=>True) (fun W=>Below w22.heap.size w22 W) l W:=fun l W h=>⟨.inr trivial,h⟩;have hI:Below w22.heap.size w22 w22:=Below.refl _ _;refine Rg.tm 0 12 (.pointer (some ⟨L,i*194,none⟩)) 44 (hS _ _ hI) ?_;go_frame;refine Rg.tg 1 12 (.pointer (some ⟨L,i*194,none⟩)) 45 rfl rfl (.inl ⟨rfl,fun w _=>exec_nil _ rfl rfl⟩) (hS _ _ hI) ?_;go_frame;refine Rg.tg 2 12 (.pointer (some ⟨L,i*194,none⟩)) 46 rfl rfl (.inl ⟨rfl,fun w _=>exec_field _ rfl rfl (lvF0 _ _ _)⟩) (hS _ _ hI) ?_;go_frame
     refine Rg.tg 3 12 (.slice (some ⟨gb,0,none⟩) gn gc) 47 rfl rfl (Rg.yields_cell _ _ rfl rfl ⟨L,i*194,none⟩ rfl (fun W hW=>Rg.run_loadSl _ _ Tryz.underlying22 ((Below.cell (p:=⟨L,i*194,none⟩) hW CG.out.lt).trans CG.out.cell))) (hS _ _ hI) ?_;go_frame;refine Rg.tm 4 12 (.pointer (some ⟨L,i*194,none⟩)) 48 (hS _ _ hI) ?_;go_frame;refine Rg.tm 5 12 (.int .i64 ((q:Nat):Int)) 49 (hS _ _ hI) ?_;go_frame;refine Rg.tg 6 12 (.pointer (some ⟨L,i*194,none⟩)) 50 rfl rfl (.inl ⟨rfl,fun w _=>exec_nil _ rfl rfl⟩) (hS _ _ hI) ?_;go_frame;refine Rg.tg 7 12 (.pointer (some ⟨L,i*194+130,none⟩)) 51 rfl rfl (.inl ⟨rfl,fun w _=>exec_field _ rfl rfl (lvF4 _ _ _)⟩) (hS _ _ hI) ?_;go_frame;refine Rg.tg 8 12 (.pointer (some ⟨L,i*194+130+q,none⟩)) 52 rfl rfl (.inl ⟨rfl,fun w _=>exec_indexArr _ _ rfl Tryz.underlying176 szI L (i*194+130) (q) rfl rfl hq64⟩) (hS _ _ hI) ?_;go_frame
     refine Rg.tg 9 12 (.int .i64 ((tr:Nat):Int)) 53 rfl rfl (Rg.yields_cell _ _ rfl rfl ⟨L,i*194+130+q,none⟩ rfl (fun W hW=>run_loadInt ((Below.cell (p:=⟨L,i*194+130+q,none⟩) hW CT.out.lt).trans CT.out.cell))) (hS _ _ hI) ?_;go_frame;refine Rg.tg 10 12 (.pointer (some ⟨gb,0+tr,none⟩)) 54 rfl rfl (Rg.yields_index slPerms _ _ rfl rfl gb (0) (gn) gc (tr) rfl rfl HKT.out) (hS _ _ hI) ?_;go_frame;refine Rg.tg 11 12 (.slice (some ⟨sb,so,none⟩) n sc) 55 rfl rfl (Rg.yields_cell _ _ rfl rfl ⟨gb,0+tr,none⟩ rfl (fun W hW=>Rg.run_loadSl _ _ Tryz.underlying30 ((Below.cell (p:=⟨gb,0+tr,none⟩) hW CS.out.lt).trans CS.out.cell))) (hS _ _ hI) ?_;go_frame;refine Rg.Any.one (i:=12) (by kernel_rfl) (Rg.Any.run (some 7) rfl rfl rfl (Rg.xa (.slice (some ⟨sb,so,none⟩) n sc) _ rfl rfl) (hS _ _ hI) ?_);go_frame;refine Rg.Any.done (by kernel_rfl) ?_ _;clear hS hI;go_upto_region 7 with (fail)
     have hV0:Below w22.heap.size w22 w22.drew:=(Below.refl _ _).drew;replace HT:=ι (HT.out.up hV0);replace C0:=ι (C0.out.up hV0);replace C1:=ι (C1.out.up hV0);replace CT:=ι (CT.out.up hV0);replace CG:=ι (CG.out.up hV0);replace CS:=ι (CS.out.up hV0);replace SP:=ι (SP.out.up hV0);replace K:=ι (K.out.up hV0);generalize Fup F2 w22 w22.drew=F3 at *;clear hV0;refine Rg.Any.begin (S:=Rg.Both 10 (fun W=>Below w22.drew.heap.size w22.drew W) (fun _=>True)) mix ?_;generalize w22.drew=w23 at *;have hS:∀ (l:Array Bool) W,Below w23.heap.size w23 W→Rg.Both 10 (fun W=>Below w23.heap.size w23 W) (fun _=>True) l W:=fun l W h=>⟨.inr h,trivial⟩;have hS2:∀ (l:Array Bool) W,l.getD 10 false=true→Rg.Both 10 (fun W=>Below w23.heap.size w23 W) (fun _=>True) l W:=fun l W h=>⟨.inl h,trivial⟩;have hI:Below w23.heap.size w23 w23:=Below.refl _ _;refine Rg.tm 0 10 (.pointer (some ⟨L,i*194,none⟩)) 56 (hS _ _ hI) ?_;go_frame
     refine Rg.tm 1 10 (.int .i64 ((q:Nat):Int)) 57 (hS _ _ hI) ?_;go_frame;refine Rg.tg 2 10 (.pointer (some ⟨L,i*194,none⟩)) 58 rfl rfl (.inl ⟨rfl,fun w _=>exec_nil _ rfl rfl⟩) (hS _ _ hI) ?_;go_frame;refine Rg.tg 3 10 (.pointer (some ⟨L,i*194+130,none⟩)) 59 rfl rfl (.inl ⟨rfl,fun w _=>exec_field _ rfl rfl (lvF4 _ _ _)⟩) (hS _ _ hI) ?_;go_frame;refine Rg.tg 4 10 (.pointer (some ⟨L,i*194+130+q,none⟩)) 60 rfl rfl (.inl ⟨rfl,fun w _=>exec_indexArr _ _ rfl Tryz.underlying176 szI L (i*194+130) (q) rfl rfl hq64⟩) (hS _ _ hI) ?_;go_frame;refine Rg.Any.takeT (i:=5) (t:=10) (v:=.int .i64 ((tr:Nat):Int)) (some 61) rfl rfl (by kernel_rfl) (by kernel_rfl) (by kernel_rfl) (fun _ _ _ h=>h) rfl (by kernel_rfl) rfl (Rg.yields_cell _ _ rfl rfl ⟨L,i*194+130+q,none⟩ rfl (fun W hW=>run_loadInt ((Below.cell (p:=⟨L,i*194+130+q,none⟩) hW CT.out.lt).trans CT.out.cell))) (hS _ _ hI) ?_;go_frame
     refine Rg.tg 6 10 (.int .i64 (((tr+1):Nat):Int)) 62 rfl rfl (.inl ⟨rfl,fun w _=>exec_bin (R:=.int .i64 (((tr+1):Nat):Int)) .add _ _ _ rfl rfl rfl (b_add _ (by omega) (by omega))⟩) (hS _ _ hI) ?_;go_frame;refine Rg.tg 7 10 (.pointer (some ⟨L,i*194,none⟩)) 63 rfl rfl (.inl ⟨rfl,fun w _=>exec_nil _ rfl rfl⟩) (hS _ _ hI) ?_;go_frame;refine Rg.tg 8 10 (.pointer (some ⟨L,i*194+130,none⟩)) 64 rfl rfl (.inl ⟨rfl,fun w _=>exec_field _ rfl rfl (lvF4 _ _ _)⟩) (hS _ _ hI) ?_;go_frame;refine Rg.tg 9 10 (.pointer (some ⟨L,i*194+130+q,none⟩)) 65 rfl rfl (.inl ⟨rfl,fun w _=>exec_indexArr _ _ rfl Tryz.underlying176 szI L (i*194+130) (q) rfl rfl hq64⟩) (hS _ _ hI) ?_;go_frame;refine Rg.Any.one (i:=10) (by kernel_rfl) (Rg.Any.runSkip none rfl rfl rfl (Rg.exec_store _ _ _ rfl _ rfl _ rfl (run_storeInt _ CT.out.cell (HT.out.frozen _))) (hS2 _ _ rfl) ?_);go_frame
     have htk:=HT.out.tick hin hq64 (o:=i*194+130+q) (by omega);rw [← htr.out] at htk;refine Rg.Any.done (by kernel_rfl) ?_ _;clear hS2;clear hS hI;obtain ⟨hT3,hk3⟩:=htk;have hkg:=KG.kf' (KG.refl HT.out.Flt) hk3;generalize w23.setCell ⟨L,i*194+130+q,none⟩ (.int .i64 ((tr+1:Nat):Int))=w40 at *;replace HT:=ι hT3;replace C0:=ι (C0.out.kg hkg);replace C1:=ι (C1.out.kg hkg);replace SP:=ι (SP.out.kg hkg);replace K:=ι (K.out.trans hkg);clear hkg hk3 hT3 CT CG CS
     have hrq3:Cm.trOf (Cm.tick T2 i q) i q=some uq:=by show (Cm.tick T2 i q i).rep q=some uq; rw [Cm.tick_at]; exact HRQ.out
     obtain ⟨ub,uo,uc,hVu,hUP⟩:=HT.out.toS hin hq64 hrq3 GU.out hn1;have UP:=ι hUP;have CU:=ι (CL.mk (show w40.cell? ⟨L,i*194+2+q,none⟩=some (.slice (some ⟨ub,uo,none⟩) n uc) by rw [getTo HT.out hin hq64 (by omega),hVu]) HT.out.lt);clear hrq3 hVu hUP;go_upto_region 8 with (fail);refine Rg.wl ?_;refine Rg.lm 66 (.pointer (some ⟨L,i*194,none⟩)) ?_;go_frame;refine Rg.lm 67 (.int .i64 ((q:Nat):Int)) ?_;go_frame;refine Rg.lr 68 (exec_nil _ rfl rfl) ?_;go_frame;refine Rg.lr 69 (exec_field _ rfl rfl (lvF2 _ _ _)) ?_;go_frame;refine Rg.lr 70 (exec_indexArr _ _ rfl Tryz.underlying175 szP L (i*194+2) (q) rfl rfl hq64) ?_;go_frame;refine Rg.lr 71 (Rg.exec_load (v:=.slice (some ⟨ub,uo,none⟩) n uc) _ _ rfl ⟨L,i*194+2+q,none⟩ rfl (Rg.run_loadSl _ _ Tryz.underlying30 CU.out.cell)) ?_;go_frame;refine Rg.lm 72 (.slice (some ⟨sb,so,none⟩) n sc) ?_;go_frame;refine Rg.lk 73 (exec_fn 146 _ _ _ rfl rfl rfl (Vmcl0 _ _)) ?_
     refine (chMul_f UP.out SP.out GU.out GS.out hn1 hn2).mono ?_;rintro e1 w41 ⟨yv,rfl,hyv,hb⟩;obtain ⟨yb,yo,yc,rfl⟩:=hyv.shape' GY.out hn1;refine ⟨_,rfl,?_⟩;go_frame;replace HT:=ι (HT.out.up hb);replace C0:=ι (C0.out.up hb);replace C1:=ι (C1.out.up hb);replace SP:=ι (SP.out.up hb);replace UP:=ι (UP.out.up hb);replace CU:=ι (CU.out.up hb);replace K:=ι (K.out.up hb);have YF:=ι hyv;have CY:=ι (show CF _ _ yb (yo+i) (.int .i64 ((p:Nat):Int)) by rw [← hpy.out]; exact hyv.ap GY.out hin);generalize Fup F3 w40 w41=F4 at *;clear hb;refine Rg.la 8 (.slice (some ⟨yb,yo,none⟩) n yc) ?_;go_frame;clear hyv;go_upto_region 9 with (fail);refine Rg.wl ?_;refine Rg.lm 74 (.slice (some ⟨yb,yo,none⟩) n yc) ?_;go_frame;refine Rg.lm 75 (.int .i64 ((i:Nat):Int)) ?_;go_frame;refine Rg.lr 76 (exec_indexS slPerm _ _ rfl yb (yo) (n) yc (i) rfl rfl hin) ?_;go_frame;refine Rg.lr 77 (Rg.exec_load (v:=.int .i64 ((p:Nat):Int)) _ _ rfl ⟨yb,yo+i,none⟩ rfl (run_loadInt CY.out.cell)) ?_;go_frame
     refine Rg.la 9 (.int .i64 ((p:Nat):Int)) ?_;go_frame
     cases hrp:(T2 i).rep p with
     | none =>
      have hp3:(Cm.tick T2 i q i).rep p=none:=by rw [Cm.tick_at]; exact hrp
      have hV3:=((HT.out.lv i hin).none_ p hp64 hp3).1;have CP:=ι (CL.mk (show w41.cell? ⟨L,i*194+2+p,none⟩=some (.slice none 0 0) by rw [getTo HT.out hin hp64 (by omega),hV3]) HT.out.lt);have HRP:=ι hrp;clear hp3 hV3 hrp CU SP UP;go_upto_region 10 with (fail);refine Rg.wl ?_;refine Rg.lm 78 (.pointer (some ⟨L,i*194,none⟩)) ?_;go_frame;refine Rg.lm 79 (.int .i64 ((p:Nat):Int)) ?_;go_frame;refine Rg.lr 80 (exec_nil _ rfl rfl) ?_;go_frame;refine Rg.lr 81 (exec_field _ rfl rfl (lvF2 _ _ _)) ?_;go_frame;refine Rg.lr 82 (exec_indexArr _ _ rfl Tryz.underlying175 szP L (i*194+2) (p) rfl rfl hp64) ?_;go_frame;refine Rg.lr 83 (Rg.exec_load (v:=.slice none 0 0) _ _ rfl ⟨L,i*194+2+p,none⟩ rfl (Rg.run_loadSl _ _ Tryz.underlying30 CP.out.cell)) ?_;go_frame;refine Rg.lr 84 (exec_nilT _ _ rfl rfl rfl) ?_;go_frame;clear CP;go_upto_region 11 with (fail);have hV0:Below w41.heap.size w41 w41.drew:=(Below.refl _ _).drew
      replace HT:=ι (HT.out.up hV0);replace C0:=ι (C0.out.up hV0);replace C1:=ι (C1.out.up hV0);replace YF:=ι (YF.out.up hV0);replace K:=ι (K.out.up hV0);generalize Fup F4 w41 w41.drew=F5 at *;clear hV0;refine Rg.Any.begin (S:=Rg.Both 10 (fun W=>Below w41.drew.heap.size w41.drew W) (fun _=>True)) mix ?_;generalize w41.drew=w42 at *;have hS:∀ (l:Array Bool) W,Below w42.heap.size w42 W→Rg.Both 10 (fun W=>Below w42.heap.size w42 W) (fun _=>True) l W:=fun l W h=>⟨.inr h,trivial⟩;have hS2:∀ (l:Array Bool) W,l.getD 10 false=true→Rg.Both 10 (fun W=>Below w42.heap.size w42 W) (fun _=>True) l W:=fun l W h=>⟨.inl h,trivial⟩;have hI:Below w42.heap.size w42 w42:=Below.refl _ _;refine Rg.tm 0 10 (.pointer (some ⟨L,i*194,none⟩)) 85 (hS _ _ hI) ?_;go_frame;refine Rg.tm 1 10 (.int .i64 ((p:Nat):Int)) 86 (hS _ _ hI) ?_;go_frame;refine Rg.tm 2 10 (.pointer (some ⟨L,i*194,none⟩)) 87 (hS _ _ hI) ?_;go_frame
      refine Rg.tm 3 10 (.int .i64 ((p:Nat):Int)) 88 (hS _ _ hI) ?_;go_frame;refine Rg.tm 4 10 (.slice (some ⟨yb,yo,none⟩) n yc) 89 (hS _ _ hI) ?_;go_frame;refine Rg.tm 5 10 (.slice (some ⟨yb,yo,none⟩) n yc) 90 (hS _ _ hI) ?_;go_frame;refine Rg.tg 7 10 (.pointer (some ⟨L,i*194,none⟩)) 92 rfl rfl (.inl ⟨rfl,fun w _=>exec_nil _ rfl rfl⟩) (hS _ _ hI) ?_;go_frame;refine Rg.tg 8 10 (.pointer (some ⟨L,i*194+2,none⟩)) 93 rfl rfl (.inl ⟨rfl,fun w _=>exec_field _ rfl rfl (lvF2 _ _ _)⟩) (hS _ _ hI) ?_;go_frame;refine Rg.tg 11 10 (.pointer (some ⟨L,i*194,none⟩)) 95 rfl rfl (.inl ⟨rfl,fun w _=>exec_nil _ rfl rfl⟩) (hS _ _ hI) ?_;go_frame;refine Rg.tg 12 10 (.pointer (some ⟨L,i*194+66,none⟩)) 96 rfl rfl (.inl ⟨rfl,fun w _=>exec_field _ rfl rfl (lvF3 _ _ _)⟩) (hS _ _ hI) ?_;go_frame;refine Rg.Any.one (i:=6) (by kernel_rfl) (Rg.Any.ask (some 91) rfl rfl rfl _ _ (exec_fn1 156 _ _ rfl rfl (Vncl1 _ _)) ?_)
      refine (chInv_f YF.out GY.out hn1 hn2).mono ?_;rintro e1 w43 ⟨iv,rfl,hiv,hb⟩;obtain ⟨jb,jo,jc,rfl⟩:=hiv.shape' (Cm.gd_inv GY.out) hn1;have hI2_u:=Rg.acc hI hb;clear hI;replace HT:=ι (HT.out.up hb);replace C0:=ι (C0.out.up hb);replace C1:=ι (C1.out.up hb);replace YF:=ι (YF.out.up hb);replace K:=ι (K.out.up hb);have IF:=ι hiv;generalize Fup F5 w42 w43=F6 at *;clear hb;refine ⟨_,rfl,(hS _ _ hI2_u),?_⟩;go_frame;refine Rg.tg 9 10 (.pointer (some ⟨L,i*194+2+p,none⟩)) 94 rfl rfl (.inl ⟨rfl,fun w _=>exec_indexArr _ _ rfl Tryz.underlying175 szP L (i*194+2) (p) rfl rfl hp64⟩) (hS _ _ hI2_u) ?_;go_frame;refine Rg.Any.one (i:=10) (by kernel_rfl) (Rg.Any.runSkip none rfl rfl rfl (Rg.exec_store _ _ _ rfl _ rfl _ rfl (Rg.run_storeSl _ infoPerm (getTo HT.out hin hp64 (by omega)) (HT.out.frozen _))) (hS2 _ _ rfl) ?_);go_frame;refine Rg.tg 13 10 (.pointer (some ⟨L,i*194+66+p,none⟩)) 97 rfl rfl (.inl ⟨rfl,fun w _=>exec_indexArr _ _ rfl Tryz.underlying175 szP L (i*194+66) (p) rfl rfl hp64⟩) (hS2 _ _ rfl) ?_;go_frame
      have hr1:=HT.out.row.set (i*194+2+p) (.slice (some ⟨yb,yo,none⟩) n yc);refine Rg.Any.one (i:=14) (by kernel_rfl) (Rg.Any.runSkip none rfl rfl rfl (Rg.exec_store _ _ _ rfl _ rfl _ rfl (Rg.run_storeSl _ infoPerm (hr1.cell (by omega)) (hr1.frozen _))) (hS2 _ _ rfl) ?_);go_frame;clear hr1;refine Rg.Any.done (by kernel_rfl) ?_ _;clear hS2;clear hS hI2_u;obtain ⟨V4,hT4,hk4⟩:=HT.out.setTo hin hp64 (o1:=i*194+2+p) (o2:=i*194+66+p) (by omega) (by omega) YF.out IF.out;have hkg:=KG.kf' (KG.refl HT.out.Flt) hk4;generalize (w43.setCell ⟨L,i*194+2+p,none⟩ (.slice (some ⟨yb,yo,none⟩) n yc)).setCell ⟨L,i*194+66+p,none⟩ (.slice (some ⟨jb,jo,none⟩) n jc)=w60 at *;replace C0:=ι (C0.out.kg hkg);replace C1:=ι (C1.out.kg hkg);replace K:=ι (K.out.trans hkg);clear hkg hk4;obtain ⟨T4,HT4⟩:∃ T4,Hid (T4=setTo (Cm.tick T2 i q) i p (Ma.mulN uq s)):=⟨_,ι rfl⟩
      rw [← HT4.out] at hT4;replace HT:=ι hT4
      have ho4:(T4 i).orb.length≤n:=by
       have e:(T4 i).orb=(T2 i).orb:=by rw [HT4.out]; simp [setTo,Cm.tick_at]
       rw [e]; exact hon
      obtain ⟨oa,oc,hVo⟩:=HT.out.orbL hin;have CO:=ι (CL.mk (show w60.cell? ⟨L,i*194+1,none⟩=some (.slice oa (T4 i).orb.length oc) by rw [getO HT.out hin rfl,hVo]) HT.out.lt);obtain ⟨a9,c9,X9,r1,r2,r3,V5,r4,r5⟩:=HT.out.addO hin (o:=i*194+1) rfl p (by omega) 25;rw [hVo] at r1 r2;clear hT4 hVo IF YF;go_upto_region 12 with (fail);refine Rg.wl ?_;refine Rg.lm 98 (.pointer (some ⟨L,i*194,none⟩)) ?_;go_frame;refine Rg.lm 99 (.pointer (some ⟨L,i*194,none⟩)) ?_;go_frame;refine Rg.lr 100 (exec_nil _ rfl rfl) ?_;go_frame;refine Rg.lr 101 (exec_field _ rfl rfl (lvF1 _ _ _)) ?_;go_frame;refine Rg.lr 102 (Rg.exec_load (v:=.slice oa (T4 i).orb.length oc) _ _ rfl ⟨L,i*194+1,none⟩ rfl (Rg.run_loadSl _ _ Tryz.underlying25 CO.out.cell)) ?_;go_frame;refine Rg.lm 103 (.int .i64 ((p:Nat):Int)) ?_;go_frame;refine Rg.lr 104 (Rg.exec_buildSlice _ _ _ rfl (.int .i64 ((p:Nat):Int)) rfl (run_build1i w60 _)) ?_;go_frame
      refine Rg.lr 105 (Rg.exec_append _ _ _ rfl rfl rfl r1) ?_;go_frame;refine Rg.lr 106 (exec_nil _ rfl rfl) ?_;go_frame;refine Rg.lr 107 (exec_field _ rfl rfl (lvF1 _ _ _)) ?_;go_frame;refine Rg.list_skip none rfl rfl (Rg.exec_store _ _ _ rfl _ rfl _ rfl (Rg.run_storeSl _ infoInts r2 r3)) ?_;go_frame;clear CO r1 r2 r3;have hkg:=KG.kf' (KG.refl HT.out.Flt) r5;generalize X9.setCell ⟨L,i*194+1,none⟩ (.slice a9 ((T4 i).orb.length+1) c9)=w70 at *;replace C0:=ι (C0.out.kg hkg);replace C1:=ι (C1.out.kg hkg);replace K:=ι (K.out.trans hkg);rw [HT4.out,← find_eq] at r4;have hf:=CInv.found HI.out HD.out hin (q:=q) (s:=s) (uq:=uq) (by rw [← htr.out,← hgn.out]; exact HKT.out) (by obtain ⟨a,b⟩:=hs.out; simp only [← htr.out]; exact b) HRQ.out (by rw [← hp.out]; exact HRP.out) HKQ.out;have hx:=HEX.out.trans ((Cm.tick_ext T2 i q).trans (Cm.find_ext (T:=Cm.tick T2 i q) (p:=p) (y:=Ma.mulN uq s) (by rw [Cm.tick_at]; exact HRP.out)))
      rw [← hp.out] at hf;obtain ⟨hf1,hf2,hf3,hf4,hf5⟩:=hf;replace HT:=ι r4;have HF1:=ι hf1;have HF2:=ι hf2;have HF5:=ι hf5;have HX:=ι hx;have HN5:=ι (show (gk - 1)+(Cm.find (Cm.tick T2 i q) i p (Ma.mulN uq s) i).tried q=(Cm.find (Cm.tick T2 i q) i p (Ma.mulN uq s) i).gens.length by have h1:=HN.out; have h2:=HHK.out; rw [hf3,hf4]; omega);clear hf1 hf2 hf3 hf4 hf5 hx hkg r4 r5;go_wp2
      go_roundg (gk - 1)
      case rel=>exact ⟨_,_,V5,HN5,HT,C0,C1,K,HF1,HF2,HF5,HX⟩
      case measure=>have:=HHK.out; omega
     | some v =>
      have hp3:trOf (Cm.tick T2 i q) i p=some v:=by show (Cm.tick T2 i q i).rep p=some v; rw [Cm.tick_at]; exact hrp
      obtain ⟨hsa,GV,_,GX,FX,RX⟩:=schr_ok HI.out.lvl hin hsm.out HRQ.out (show (T2 i).rep (Cm.ap s q)=some v by rw [← hp.out]; exact hrp);replace GV:=ι GV;replace GX:=ι GX;replace FX:=ι FX;replace RX:=ι RX;obtain ⟨vb,vo,vc,hVt,_⟩:=HT.out.toS hin hp64 hp3 GV.out hn1;obtain ⟨zb,zo,zc,hVb,hBP⟩:=HT.out.byS hin hp64 hp3 GV.out hn1;have CP:=ι (CL.mk (show w41.cell? ⟨L,i*194+2+p,none⟩=some (.slice (some ⟨vb,vo,none⟩) n vc) by rw [getTo HT.out hin hp64 (by omega),hVt]) HT.out.lt);have CB:=ι (CL.mk (show w41.cell? ⟨L,i*194+66+p,none⟩=some (.slice (some ⟨zb,zo,none⟩) n zc) by rw [getBy HT.out hin hp64 (by omega),hVb]) HT.out.lt);have BP:=ι hBP;have HRP:=ι hrp;clear hp3 hVt hVb hBP hsa hrp CU SP UP
      by_cases hi1:i+1<n
      ·have HFU:=ι (show ∀ j,i+1≤j→j<n→Full n (Cm.tick T2 i q) j from fun j h1 h2=>(HI.out.up j (by omega) h2).ext (Cm.tick_ext T2 i q) (Cm.tick_ne (by omega)) (fun _=>Cm.tick_ne (by omega)))
       have HIN:=ι hi1
       have hiN:((i+1:Nat):Int)<(n:Int):=by omega
       go_upto_region 10 with (fail);refine Rg.wl ?_;refine Rg.lm 78 (.pointer (some ⟨L,i*194,none⟩)) ?_;go_frame;refine Rg.lm 79 (.int .i64 ((p:Nat):Int)) ?_;go_frame;refine Rg.lr 80 (exec_nil _ rfl rfl) ?_;go_frame;refine Rg.lr 81 (exec_field _ rfl rfl (lvF2 _ _ _)) ?_;go_frame;refine Rg.lr 82 (exec_indexArr _ _ rfl Tryz.underlying175 szP L (i*194+2) (p) rfl rfl hp64) ?_;go_frame;refine Rg.lr 83 (Rg.exec_load (v:=.slice (some ⟨vb,vo,none⟩) n vc) _ _ rfl ⟨L,i*194+2+p,none⟩ rfl (Rg.run_loadSl _ _ Tryz.underlying30 CP.out.cell)) ?_;go_frame;refine Rg.lr 84 (exec_nilF _ _ rfl rfl rfl) ?_;go_frame;go_upto_region 13 with (fail);refine Rg.wl ?_;refine Rg.lm 108 (.int .i64 ((i:Nat):Int)) ?_;go_frame;refine Rg.lr 109 (exec_bin (R:=.int .i64 (((i+1):Nat):Int)) .add _ _ _ rfl rfl rfl (b_add _ (by omega) (by omega))) ?_;go_frame;refine Rg.lm 110 (.pointer (some ⟨tb,0,none⟩)) ?_;go_frame
       refine Rg.lr 111 (exec_nil _ rfl rfl) ?_;go_frame;refine Rg.lr 112 (exec_field _ rfl rfl (towF0 _ _)) ?_;go_frame;refine Rg.lr 113 (Rg.exec_load (v:=.int .i64 ((n:Nat):Int)) _ _ rfl ⟨tb,0,none⟩ rfl (run_loadInt C0.out.cell)) ?_;go_frame;refine Rg.lr 114 (exec_bin (R:=.bool true) .lss _ _ _ rfl rfl rfl (b_lss _ Rg.dT)) ?_;go_frame;go_upto_region 14 with (fail);refine Rg.wl ?_;refine Rg.lm 115 (.pointer (some ⟨tb,0,none⟩)) ?_;go_frame;refine Rg.lm 116 (.slice (some ⟨yb,yo,none⟩) n yc) ?_;go_frame;refine Rg.lm 117 (.pointer (some ⟨L,i*194,none⟩)) ?_;go_frame;refine Rg.lm 118 (.int .i64 ((p:Nat):Int)) ?_;go_frame;refine Rg.lr 119 (exec_nil _ rfl rfl) ?_;go_frame;refine Rg.lr 120 (exec_field _ rfl rfl (lvF3 _ _ _)) ?_;go_frame;refine Rg.lr 121 (exec_indexArr _ _ rfl Tryz.underlying175 szP L (i*194+66) (p) rfl rfl hp64) ?_;go_frame;refine Rg.lr 122 (Rg.exec_load (v:=.slice (some ⟨zb,zo,none⟩) n zc) _ _ rfl ⟨L,i*194+66+p,none⟩ rfl (Rg.run_loadSl _ _ Tryz.underlying30 CB.out.cell)) ?_;go_frame
       refine Rg.lk 123 (exec_fn 146 _ _ _ rfl rfl rfl (Vmcl0 _ _)) ?_;refine (chMul_f YF.out BP.out GY.out (Cm.gd_inv GV.out) hn1 hn2).mono ?_;rintro e1 w42 ⟨mv,rfl,hmv,hb⟩;refine ⟨_,rfl,?_⟩;go_frame;replace HT:=ι (HT.out.up hb);replace C0:=ι (C0.out.up hb);replace C1:=ι (C1.out.up hb);replace YF:=ι (YF.out.up hb);replace CY:=ι (CY.out.up hb);replace CP:=ι (CP.out.up hb);replace CB:=ι (CB.out.up hb);replace BP:=ι (BP.out.up hb);replace K:=ι (K.out.up hb);have MV:=ι hmv;generalize Fup F4 w41 w42=F5 at *;clear hb;refine Rg.lm 124 (.int .i64 ((i:Nat):Int)) ?_;go_frame;refine Rg.lr 125 (exec_bin (R:=.int .i64 (((i+1):Nat):Int)) .add _ _ _ rfl rfl rfl (b_add _ (by omega) (by omega))) ?_;go_frame;refine Rg.lk 126 (exec_fn3 121 _ _ _ _ rfl rfl rfl rfl (Vncl2 _ _)) ?_;refine (HADD.out HIN.out _ L tb _ _ _ _ _ HT.out C0.out C1.out MV.out GX.out FX.out HFU.out).mono ?_
       rintro e1 w43 ⟨F9,T9,V9,rfl,hk9,hT9,hA9⟩;have HA:=ι hA9;clear hA9;refine ⟨_,rfl,?_⟩;go_frame;clear CP;clear CB;clear CY;clear YF;clear BP;replace HT:=ι hT9;replace C0:=ι (C0.out.kg hk9);replace C1:=ι (C1.out.kg hk9);replace MV:=ι (MV.out.kg hk9);replace K:=ι (K.out.trans hk9);clear hk9 hT9;have hf:=CInv.ticked HI.out HD.out (q:=q) (s:=s) (uq:=uq) (v:=v) (by rw [← htr.out,← hgn.out]; exact HKT.out) (by obtain ⟨a,b⟩:=hs.out; simp only [← htr.out]; exact b) HRQ.out (by rw [← hp.out]; exact HRP.out) HKQ.out HA.out.ext HA.out.low (fun j h1 h2=>HA.out.full j h1 h2) (fun h0=>HA.out.gens _ (Gr.isG HI.out.lvl.ggd) (fun s hs=>HI.out.lvl.low h0 s (by rwa [Cm.tick_ne (by omega)] at hs)) RX.out) HA.out.sd;have hx:=HEX.out.trans ((Cm.tick_ext T2 i q).trans HA.out.ext);obtain ⟨hf1,hf2,hf3,hf4,hf5⟩:=hf;have HF1:=ι hf1;have HF2:=ι hf2;have HF5:=ι hf5
       have HX:=ι hx;have HN5:=ι (show (gk - 1)+(T9 i).tried q=(T9 i).gens.length by have h1:=HN.out; have h2:=HHK.out; rw [hf3,hf4]; omega);clear hf1 hf2 hf3 hf4 hf5 hx;go_wp2
       go_roundg (gk - 1)
       case rel=>exact ⟨_,_,_,HN5,HT,C0,C1,K,HF1,HF2,HF5,HX⟩
       case measure=>have:=HHK.out; omega
      ·have hiN:¬ ((i+1:Nat):Int)<(n:Int):=by omega
       go_upto_region 10 with (fail);refine Rg.wl ?_;refine Rg.lm 78 (.pointer (some ⟨L,i*194,none⟩)) ?_;go_frame;refine Rg.lm 79 (.int .i64 ((p:Nat):Int)) ?_;go_frame;refine Rg.lr 80 (exec_nil _ rfl rfl) ?_;go_frame;refine Rg.lr 81 (exec_field _ rfl rfl (lvF2 _ _ _)) ?_;go_frame;refine Rg.lr 82 (exec_indexArr _ _ rfl Tryz.underlying175 szP L (i*194+2) (p) rfl rfl hp64) ?_;go_frame;refine Rg.lr 83 (Rg.exec_load (v:=.slice (some ⟨vb,vo,none⟩) n vc) _ _ rfl ⟨L,i*194+2+p,none⟩ rfl (Rg.run_loadSl _ _ Tryz.underlying30 CP.out.cell)) ?_;go_frame;refine Rg.lr 84 (exec_nilF _ _ rfl rfl rfl) ?_;go_frame;go_upto_region 13 with (fail);refine Rg.wl ?_;refine Rg.lm 108 (.int .i64 ((i:Nat):Int)) ?_;go_frame;refine Rg.lr 109 (exec_bin (R:=.int .i64 (((i+1):Nat):Int)) .add _ _ _ rfl rfl rfl (b_add _ (by omega) (by omega))) ?_;go_frame;refine Rg.lm 110 (.pointer (some ⟨tb,0,none⟩)) ?_;go_frame
       refine Rg.lr 111 (exec_nil _ rfl rfl) ?_;go_frame;refine Rg.lr 112 (exec_field _ rfl rfl (towF0 _ _)) ?_;go_frame;refine Rg.lr 113 (Rg.exec_load (v:=.int .i64 ((n:Nat):Int)) _ _ rfl ⟨tb,0,none⟩ rfl (run_loadInt C0.out.cell)) ?_;go_frame;refine Rg.lr 114 (exec_bin (R:=.bool false) .lss _ _ _ rfl rfl rfl (b_lss _ Rg.dF)) ?_;go_frame;have hf:=CInv.ticked (T4:=Cm.tick T2 i q) HI.out HD.out (q:=q) (s:=s) (uq:=uq) (v:=v) (by rw [← htr.out,← hgn.out]; exact HKT.out) (by obtain ⟨a,b⟩:=hs.out; simp only [← htr.out]; exact b) HRQ.out (by rw [← hp.out]; exact HRP.out) HKQ.out (Ext.refl _) (fun _ _=>rfl) (fun j h1 h2=>absurd h2 (by omega)) (fun h0=>absurd h0 hi1) (by rw [show n - (i+1)=0 by omega]; exact Cm.Fx.all GX.out (by have:=FX.out; rwa [show i+1=n by omega] at this));have hx:=HEX.out.trans (Cm.tick_ext T2 i q);obtain ⟨hf1,hf2,hf3,hf4,hf5⟩:=hf
       have HF1:=ι hf1;have HF2:=ι hf2;have HF5:=ι hf5;have HX:=ι hx;have HN5:=ι (show (gk - 1)+((Cm.tick T2 i q) i).tried q=((Cm.tick T2 i q) i).gens.length by have h1:=HN.out; have h2:=HHK.out; rw [hf3,hf4]; omega);clear hf1 hf2 hf3 hf4 hf5 hx;go_wp2
       go_roundg (gk - 1)
       case rel=>exact ⟨_,_,_,HN5,HT,C0,C1,K,HF1,HF2,HF5,HX⟩
       case measure=>have:=HHK.out; omega
  ·have HE:k=(T1 i).orb.length:=by omega
   obtain ⟨oa,oc,hVo⟩:=HT.out.orbL hin
   have hL0:wr.cell? ⟨L,i*194+1,none⟩=some (.slice oa (T1 i).orb.length oc):=by rw [getO HT.out hin (by omega),hVo]
   have hkN:¬ (k:Int)<((T1 i).orb.length:Int):=by omega
   have HD2:=ι (Done.cmp (by rw [← HE]; exact HD.out) HI.out.lvl);clear hVo HE;go_wp2
   go_end0
   exact ⟨rfl,F1,K.out,T1,⟨V,HT.out⟩,HI.out,HD2.out⟩

theorem Vocl0 (args:Array Value) (w:World):(callFunc 141 args).run Tryz.prog w=.ok (.enter 141 args) w:=by kernel_rfl
theorem Vocl1 (args:Array Value) (w:World):(callFunc 142 args).run Tryz.prog w=.ok (.enter 142 args) w:=by kernel_rfl
theorem infoPermsV:(Tryz.prog.info? 22).map (fun i=>(i.zero,i.size,i.bytes))=some (some (.slice none 0 0),1,24):=by kernel_rfl
def putL (T:Twr) (i j:Nat) (r:List Nat):Twr:=fun k=>if i≤k∧k<j then { T k with gens:=(T k).gens++[r] } else T k
theorem putL_zero (T:Twr) (i:Nat) (r:List Nat):putL T i i r=T:=by
 funext k; unfold putL; rw [if_neg (by omega)]
theorem putL_at (T:Twr) (i j:Nat) (r:List Nat):putL T i j r j=T j:=by
 unfold putL; rw [if_neg (by omega)]
theorem putL_step (T:Twr) (i j:Nat) (r:List Nat) (h:i≤j):pushG (putL T i j r) j r=putL T i (j+1) r:=by
 funext k
 unfold pushG
 by_cases e:k=j
 ·subst e
  rw [if_pos rfl,putL_at]; unfold putL; rw [if_pos (by omega)]
 ·rw [if_neg e]; unfold putL
  by_cases h2:i≤k∧k<j
  ·rw [if_pos h2,if_pos (by omega)]
  ·rw [if_neg h2,if_neg (by omega)]
theorem putL_all (T:Twr) (i a:Nat) (r:List Nat):putL T i (a+1) r=Cm.putG T i a r:=by
 funext k
 unfold putL Cm.putG
 by_cases h:i≤k∧k≤a
 ·rw [if_pos (by omega),if_pos h]
 ·rw [if_neg (by omega),if_neg h]
open Go.Proofs.Cm in
theorem add_any {n i:Nat} (hn1:1≤n) (hn2:n≤64) (hin:i<n) (hcl:∀ k,i≤k→k<n→CloseC n k):AddC n i:=by
 intro F L tb w T V xv x hT hc0 hc1 hx gx fx hfull;have K:=ι (KG.refl hT.Flt);have HT:=ι hT;have C0:=ι hc0;have C1:=ι hc1;have X:=ι hx;have GX:=ι gx;have FX:=ι fx;have HFU:=ι hfull;have HCL:=ι hcl;have HR:=ι (Lvl.rp fun j a b=>(hfull j a b).1);obtain ⟨at0,r,hA⟩:∃ a r,Hid (sfP n (trOf T) (n - i) x=(a,r)):=⟨_,_,ι rfl⟩;obtain ⟨ha1,ha2,gr,fr,hno⟩:=sfP_all HR.out (d:=n - i) (x:=x) (by omega) (by omega) gx (by rw [show n - (n - i)=i by omega]; exact fx);rw [hA.out] at ha1 ha2 gr fr hno;have GR:=ι gr;have FR:=ι fr;have HNO:=ι hno;replace ha1:at0≤n:=ha1
 replace ha2:i≤at0:=by have:n - (n - i)≤at0:=ha2; omega
 clear hT hc0 hc1 hx gx fx hfull hcl gr fr hno
 go_enter Tryz.func121,Tryz.ntmps121
 go_upto_region 0 with (fail);refine Rg.wl ?_;refine Rg.lm 11 (.pointer (some ⟨tb,0,none⟩)) ?_;go_frame;refine Rg.lm 12 (xv) ?_;go_frame;refine Rg.lm 13 (.int .i64 ((i:Nat):Int)) ?_;go_frame;have hsc:=sift_any HT.out C0.out C1.out hn1 hn2 X.out GX.out (by omega) FX.out HR.out;rw [hA.out] at hsc
 dsimp only at hsc
 refine Rg.lk 14 (exec_fn3 141 _ _ _ _ rfl rfl rfl rfl (Vocl0 _ _)) ?_;refine (hsc).mono ?_;rintro e1 w1 ⟨F1,rv,rfl,hk1,hT1,hr1,hb1⟩;clear hsc hb1;refine ⟨_,rfl,?_⟩;go_frame;replace HT:=ι hT1;replace C0:=ι (C0.out.kg hk1);replace C1:=ι (C1.out.kg hk1);replace X:=ι (X.out.kg hk1);replace K:=ι (K.out.trans hk1);have R:=ι hr1;clear hk1 hT1;refine Rg.lm 10 (.tuple #[.int .i64 ((at0:Nat):Int),rv]) ?_;go_frame;refine Rg.lr 15 (exec_extract (v:=.int .i64 ((at0:Nat):Int)) _ _ rfl rfl rfl) ?_;go_frame;refine Rg.lr 16 (exec_extract (v:=rv) _ _ rfl rfl rfl) ?_;go_frame;refine Rg.la 6 (.int .i64 ((at0:Nat):Int)) ?_;go_frame;refine Rg.la 7 (rv) ?_;go_frame;clear hr1 X
 by_cases han:at0=n
 ·have hae:(at0:Int)=(n:Int):=by omega
  go_upto_region 1 with (fail);refine Rg.wl ?_;refine Rg.lm 17 (.int .i64 ((at0:Nat):Int)) ?_;go_frame;refine Rg.lm 18 (.pointer (some ⟨tb,0,none⟩)) ?_;go_frame;refine Rg.lr 19 (exec_nil _ rfl rfl) ?_;go_frame;refine Rg.lr 20 (exec_field _ rfl rfl (towF0 _ _)) ?_;go_frame;refine Rg.lr 21 (Rg.exec_load (v:=.int .i64 ((n:Nat):Int)) _ _ rfl ⟨tb,0,none⟩ rfl (run_loadInt C0.out.cell)) ?_;go_frame;refine Rg.lr 22 (exec_bin (R:=.bool true) .eql _ _ _ rfl rfl rfl (b_eql _ Rg.dT)) ?_;go_frame;have HA:=ι (Added.same HFU.out hin GX.out FX.out (by rw [hA.out]; exact han));go_wp2
  first
  | go_end0
  | refine bodyPost_ret (results_none rfl _ _ _) rfl ?_
  exact ⟨rfl,_,K.out,T,⟨V,HT.out⟩,HA.out⟩
 ·have hae:¬ (at0:Int)=(n:Int):=by omega
  have han':at0<n:=by omega
  go_upto_region 1 with (fail);refine Rg.wl ?_;refine Rg.lm 17 (.int .i64 ((at0:Nat):Int)) ?_;go_frame;refine Rg.lm 18 (.pointer (some ⟨tb,0,none⟩)) ?_;go_frame;refine Rg.lr 19 (exec_nil _ rfl rfl) ?_;go_frame;refine Rg.lr 20 (exec_field _ rfl rfl (towF0 _ _)) ?_;go_frame;refine Rg.lr 21 (Rg.exec_load (v:=.int .i64 ((n:Nat):Int)) _ _ rfl ⟨tb,0,none⟩ rfl (run_loadInt C0.out.cell)) ?_;go_frame;refine Rg.lr 22 (exec_bin (R:=.bool false) .eql _ _ _ rfl rfl rfl (b_eql _ Rg.dF)) ?_;go_frame;have hg0:=C0.out.cell;go_upto_region 2 with (fail);go_wp2
  go_loopw [8] (fun iv wr=>∃ (j:Nat) (F2:Nat→Prop) (V2:Nat→LV),iv=.int .i64 j∧i≤j∧j≤at0+1∧Hid (TowAt F2 L n wr (putL T i j r) V2)∧Hid (CF F2 wr tb 0 (.int .i64 ((n:Nat):Int)))∧Hid (CF F2 wr tb 1 (.slice (some ⟨L,0,none⟩) n n))∧Hid (KG F w F2 wr)∧Hid (FP F2 wr rv r)) (fun iv _=>at0+1 - (intOf iv).toNat)
  case atStart=>exact ⟨i,_,V,rfl,Nat.le_refl _,by omega,ι (by rw [putL_zero]; exact HT.out),C0,C1,K,R⟩
  case round =>
   clear HT C0 C1 K R hg0;obtain ⟨j,F2,V2,rfl,hj1,hj2,HT,C0,C1,K,R⟩:=hrel
   by_cases hja:j≤at0
   ·have hjN:(j:Int)≤(at0:Int):=by omega
    have hjn:j<n:=by omega
    obtain ⟨rb,ro,rc,rfl⟩:=R.out.shape' GR.out hn1;have hgl:=HT.out.genL hjn;rw [putL_at] at hgl;obtain ⟨ga,gc,hVg⟩:=hgl;have CG:=ι (CL.mk (show wr.cell? ⟨L,j*194,none⟩=some (.slice ga (T j).gens.length gc) by rw [getG HT.out hjn rfl,hVg]) HT.out.lt);have hgs:(T j).gens.length≤4096:=Nat.le_trans (HFU.out j hj1 hjn).2.2 (pot_le (fun j a b=>(HFU.out j a b).1) hj1 hn2);go_upto_region 5 with (fail);have hV0:Below wr.heap.size wr wr.drew:=(Below.refl _ _).drew;replace HT:=ι (HT.out.up hV0);replace C0:=ι (C0.out.up hV0);replace C1:=ι (C1.out.up hV0);replace R:=ι (R.out.up hV0);replace CG:=ι (CG.out.up hV0);replace K:=ι (K.out.up hV0);generalize Fup F2 wr wr.drew=F1 at *;clear hV0;refine Rg.Any.begin (S:=Rg.Both 16 (fun W:World=>W.cell? ⟨tb,1,none⟩=some (.slice (some ⟨L,0,none⟩) n n)∧W.cell? ⟨L,j*194,none⟩=some (.slice ga (T j).gens.length gc)) (fun _=>True)) mix ?_
    generalize wr.drew=w21 at *;have hS:∀ (l:Array Bool) W,(fun W:World=>W.cell? ⟨tb,1,none⟩=some (.slice (some ⟨L,0,none⟩) n n)∧W.cell? ⟨L,j*194,none⟩=some (.slice ga (T j).gens.length gc)) W→Rg.Both 16 (fun W:World=>W.cell? ⟨tb,1,none⟩=some (.slice (some ⟨L,0,none⟩) n n)∧W.cell? ⟨L,j*194,none⟩=some (.slice ga (T j).gens.length gc)) (fun _=>True) l W:=fun l W h=>⟨.inr h,trivial⟩;have hS2:∀ (l:Array Bool) W,l.getD 16 false=true→Rg.Both 16 (fun W:World=>W.cell? ⟨tb,1,none⟩=some (.slice (some ⟨L,0,none⟩) n n)∧W.cell? ⟨L,j*194,none⟩=some (.slice ga (T j).gens.length gc)) (fun _=>True) l W:=fun l W h=>⟨.inl h,trivial⟩;have hI:(fun W:World=>W.cell? ⟨tb,1,none⟩=some (.slice (some ⟨L,0,none⟩) n n)∧W.cell? ⟨L,j*194,none⟩=some (.slice ga (T j).gens.length gc)) w21:=⟨C1.out.cell,CG.out.cell⟩
    refine Rg.tm 0 16 (.pointer (some ⟨tb,0,none⟩)) 29 (hS _ _ hI) ?_;go_frame;refine Rg.tg 1 16 (.pointer (some ⟨tb,0,none⟩)) 30 rfl rfl (.inl ⟨rfl,fun w _=>exec_nil _ rfl rfl⟩) (hS _ _ hI) ?_;go_frame;refine Rg.tg 2 16 (.pointer (some ⟨tb,1,none⟩)) 31 rfl rfl (.inl ⟨rfl,fun w _=>exec_field _ rfl rfl (towF1 _ _)⟩) (hS _ _ hI) ?_;go_frame;refine Rg.Any.takeT (i:=3) (t:=16) (v:=.slice (some ⟨L,0,none⟩) n n) (some 32) rfl rfl (by kernel_rfl) (by kernel_rfl) (by kernel_rfl) (fun _ _ _ h=>h) rfl (by kernel_rfl) rfl (Rg.yields_cell _ _ rfl rfl ⟨tb,1,none⟩ rfl (fun W hW=>Rg.run_loadSl _ _ Tryz.underlying168 hW.1)) (hS _ _ hI) ?_;go_frame;refine Rg.tm 4 16 (.int .i64 ((j:Nat):Int)) 33 (hS _ _ hI) ?_;go_frame;refine Rg.tm 5 16 (.pointer (some ⟨tb,0,none⟩)) 34 (hS _ _ hI) ?_;go_frame;refine Rg.tg 6 16 (.pointer (some ⟨tb,0,none⟩)) 35 rfl rfl (.inl ⟨rfl,fun w _=>exec_nil _ rfl rfl⟩) (hS _ _ hI) ?_;go_frame
    refine Rg.tg 7 16 (.pointer (some ⟨tb,1,none⟩)) 36 rfl rfl (.inl ⟨rfl,fun w _=>exec_field _ rfl rfl (towF1 _ _)⟩) (hS _ _ hI) ?_;go_frame;refine Rg.Any.takeT (i:=8) (t:=16) (v:=.slice (some ⟨L,0,none⟩) n n) (some 37) rfl rfl (by kernel_rfl) (by kernel_rfl) (by kernel_rfl) (fun _ _ _ h=>h) rfl (by kernel_rfl) rfl (Rg.yields_cell _ _ rfl rfl ⟨tb,1,none⟩ rfl (fun W hW=>Rg.run_loadSl _ _ Tryz.underlying168 hW.1)) (hS _ _ hI) ?_;go_frame;refine Rg.tm 9 16 (.int .i64 ((j:Nat):Int)) 38 (hS _ _ hI) ?_;go_frame;refine Rg.tg 10 16 (.pointer (some ⟨L,j*194,none⟩)) 39 rfl rfl (.inl ⟨rfl,fun w _=>exec_indexZ0 _ _ rfl Tryz.underlying168 szLevel L (n) (n) (j) rfl rfl hjn⟩) (hS _ _ hI) ?_;go_frame;refine Rg.tg 11 16 (.pointer (some ⟨L,j*194,none⟩)) 40 rfl rfl (.inl ⟨rfl,fun w _=>exec_field _ rfl rfl (lvF0 _ _ _)⟩) (hS _ _ hI) ?_;go_frame;refine Rg.Any.takeT (i:=12) (t:=16) (v:=.slice ga (T j).gens.length gc) (some 41) rfl rfl (by kernel_rfl) (by kernel_rfl) (by kernel_rfl) (fun _ _ _ h=>h) rfl (by kernel_rfl) rfl (Rg.yields_cell _ _ rfl rfl ⟨L,j*194,none⟩ rfl (fun W hW=>Rg.run_loadSl _ _ Tryz.underlying22 hW.2)) (hS _ _ hI) ?_;go_frame
    refine Rg.tm 13 16 (.slice (some ⟨rb,ro,none⟩) n rc) 42 (hS _ _ hI) ?_;go_frame;have hbA:=(Below.refl w21.heap.size w21).alloc (Nat.le_refl _) (.cells #[.slice (some ⟨rb,ro,none⟩) n rc] 30);have hI2_m:=(show _∧_ from ⟨(Below.cell (p:=⟨tb,1,none⟩) hbA C1.out.lt).trans C1.out.cell,(Below.cell (p:=⟨L,j*194,none⟩) hbA CG.out.lt).trans CG.out.cell⟩);refine Rg.Any.one (i:=14) (by kernel_rfl) (Rg.Any.run (some 43) rfl rfl rfl (Rg.exec_buildSlice _ _ _ rfl (.slice (some ⟨rb,ro,none⟩) n rc) rfl (run_build1P w21 _ ⟨_,_,_,rfl⟩)) (hS _ _ hI2_m) ?_);go_frame;obtain ⟨a9,c9,X9,r1,r2,r3,V5,r4,r5⟩:=HT.out.addG hjn (o:=j*194) rfl R.out ⟨_,_,_,rfl⟩ (by rw [putL_at]; omega) 22;rw [putL_step _ _ _ _ hj1] at r4;rw [putL_at] at r1 r4 r5;rw [hVg] at r1 r2;have hc9:=r5.cell (b:=tb) (o:=1) C1.out.inF C1.out.lt
    rw [World.cell?_setCell_other (h:=by intro e; injection e with e1 _; exact HT.out.LF (e1▸C1.out.inF)),C1.out.cell] at hc9
    have hI3_m:=(show _∧_ from ⟨hc9,r2⟩);refine Rg.Any.one (i:=15) (by kernel_rfl) (Rg.Any.run (some 44) rfl rfl rfl (Rg.exec_append _ _ _ rfl rfl rfl r1) (hS _ _ hI3_m) ?_);go_frame;refine Rg.Any.one (i:=16) (by kernel_rfl) (Rg.Any.run (some 45) rfl rfl rfl (exec_indexZ0 _ _ rfl Tryz.underlying168 szLevel L (n) (n) (j) rfl rfl hjn) (hS2 _ _ rfl) ?_);go_frame;refine Rg.tg 17 16 (.pointer (some ⟨L,j*194,none⟩)) 46 rfl rfl (.inl ⟨rfl,fun w _=>exec_field _ rfl rfl (lvF0 _ _ _)⟩) (hS2 _ _ rfl) ?_;go_frame;refine Rg.Any.one (i:=18) (by kernel_rfl) (Rg.Any.runSkip none rfl rfl rfl (Rg.exec_store _ _ _ rfl _ rfl _ rfl (Rg.run_storeSl _ infoPermsV r2 r3)) (hS2 _ _ rfl) ?_);go_frame;refine Rg.Any.done (by kernel_rfl) ?_ _;clear hS2;clear hS hI3_m;have hkg:=KG.kf' (KG.refl HT.out.Flt) r5;generalize X9.setCell ⟨L,j*194,none⟩ (.slice a9 ((T j).gens.length+1) c9)=w40 at *;replace C0:=ι (C0.out.kg hkg)
    replace C1:=ι (C1.out.kg hkg);replace R:=ι (R.out.kg hkg);replace K:=ι (K.out.trans hkg);replace HT:=ι r4;clear hkg r1 r2 r3 r4 r5 CG hVg;go_wp2
    go_roundw
    case rel=>exact ⟨j+1,_,V5,by go_num,by omega,by omega,HT,C0,C1,K,R⟩
    case measure=>simp [intOf]; omega
   ·have hjN:¬ (j:Int)≤(at0:Int):=by omega
    obtain rfl:j=at0+1:=by omega
    replace HT:=ι (by have:=HT.out; rwa [putL_all] at this);have HI:=ι (AInv.start (r:=r) HFU.out ha2);go_wp2;simp only [show ((at0:Nat):Int)=(((at0+1:Nat):Int) - 1) by omega]
    go_loopw [9] (fun kv wr=>∃ (k:Nat) (F3:Nat→Prop) (T3:Twr) (V3:Nat→LV),kv=.int .i64 (((k:Nat):Int) - 1)∧i≤k∧k≤at0+1∧Hid (TowAt F3 L n wr T3 V3)∧Hid (CF F3 wr tb 0 (.int .i64 ((n:Nat):Int)))∧Hid (CF F3 wr tb 1 (.slice (some ⟨L,0,none⟩) n n))∧Hid (KG F w F3 wr)∧Hid (AInv n i at0 k T T3 r)) (fun kv _=>(intOf kv+1).toNat - i)
    case atStart=>exact ⟨at0+1,F2,_,V2,rfl,by omega,Nat.le_refl _,HT,C0,C1,K,HI⟩
    case round =>
     clear HT C0 C1 K R HI hjN hj1 hj2 hja;obtain ⟨k0,F3,T3,V3,rfl,hk1,hk2,HT,C0,C1,K,HI⟩:=hrel
     by_cases hki:i<k0
     ·obtain ⟨m,rfl⟩:∃ m,k0=m+1:=⟨k0 - 1,by omega⟩
      simp only [show (((m+1:Nat):Int) - 1)=(m:Int) by omega]
      have hmi:(i:Int)≤(m:Int):=by omega
      have hmn:m<n:=by omega
      have HLV:=ι (HI.out.lvl HFU.out (by omega) (by omega) han' GR.out FR.out);have HUP:=ι HI.out.up
      have HLE:=ι (show (T3 m).gens.length≤5000 by
       have h1:=(HFU.out m (by omega) hmn).2.2;have h2:pot n T m≤4096:=pot_le (fun j a b=>(HFU.out j a b).1) (by omega) hn2;rw [HI.out.put m (by omega) (by omega),putG_in ⟨by omega,by omega⟩]
       simp; omega)
      have HMI:=ι (show i≤m by omega);have HMN:=ι hmn;have HMA:=ι (show m≤at0 by omega);go_upto_region 9 with (fail);refine Rg.wl ?_;refine Rg.lm 53 (.pointer (some ⟨tb,0,none⟩)) ?_;go_frame;refine Rg.lm 54 (.int .i64 ((m:Nat):Int)) ?_;go_frame;refine Rg.lk 55 (exec_fn 142 _ _ _ rfl rfl rfl (Vocl1 _ _)) ?_;refine (HCL.out m HMI.out HMN.out _ L tb _ _ _ HT.out C0.out C1.out HUP.out HLV.out HLE.out).mono ?_;rintro e1 w61 ⟨F9,T9,V9,rfl,hk9,hT9,hc9,hd9⟩;have HI2:=ι (HI.out.step HFU.out HMI.out HMA.out han' (HNO.out han') hc9 hd9);clear hc9 hd9;refine ⟨_,rfl,?_⟩;go_frame;replace HT:=ι hT9;replace C0:=ι (C0.out.kg hk9);replace C1:=ι (C1.out.kg hk9);replace K:=ι (K.out.trans hk9);clear hk9 hT9;go_wp2
      go_roundw
      case rel=>exact ⟨m,_,T9,V9,by go_num,by omega,by omega,HT,C0,C1,K,HI2⟩
      case measure=>simp [intOf]; omega
     ·obtain rfl:k0=i:=by omega
      have hmi:¬ (k0:Int)≤((k0:Int) - 1):=by omega
      have HA2:=ι (AInv.added (i:=k0) HFU.out hin GX.out FX.out (by rw [hA.out]; exact HI.out) (by rw [hA.out]; exact han'));go_wp2
      go_end0
      exact ⟨rfl,F3,K.out,T3,⟨V3,HT.out⟩,HA2.out⟩
end Go.Proofs.YtdnmmibchbceeaaGreat

namespace Go.Proofs.Cm
open Go.Proofs
def lv0:Lv:={ gens:=[],orb:=[],rep:=fun _=>none,tried:=fun _=>0 }
def lv1 (n j:Nat):Lv:={ gens:=[],orb:=[j],rep:=fun z=>if z=j then some (Ma.oneN n) else none,tried:=fun _=>0 }
def newT (n k:Nat):Twr:=fun j=>if j<k then lv1 n j else lv0
theorem newT_full {n:Nat} {j:Nat} (hj:j<n):Full n (newT n n) j:=by
 have e:newT n n j=lv1 n j:=if_pos hj
 have hr:∀ p u,(lv1 n j).rep p=some u→p=j∧u=Ma.oneN n:=fun p u h=>by
  have h:(if p=j then some (Ma.oneN n) else none)=some u:=h
  by_cases e:p=j
  ·rw [if_pos e] at h; injection h with h; exact ⟨e,h.symm⟩
  ·rw [if_neg e] at h; cases h
 refine ⟨⟨?_,?_,?_,?_,?_,?_,?_,?_,?_,?_,?_,?_,?_,?_⟩,?_,?_⟩ <;> (try rw [e])
 ·intro s hs; cases hs
 ·intro s hs; cases hs
 ·intro h0 s hs
  have e2:newT n n (j+1)=lv1 n (j+1):=if_pos h0;rw [e2] at hs; cases hs
 ·exact if_pos rfl
 ·intro p u h; obtain ⟨_,rfl⟩:=hr p u h; exact gd_one n
 ·intro p u h; obtain ⟨_,rfl⟩:=hr p u h; exact Fx.one (by omega)
 ·intro p u h; obtain ⟨rfl,rfl⟩:=hr p u h; exact ap_one hj
 ·intro p u h; obtain ⟨rfl,_⟩:=hr p u h; exact hj
 ·intro p u h; obtain ⟨_,rfl⟩:=hr p u h; exact .one
 ·exact List.nodup_cons.2 ⟨by simp,List.nodup_nil⟩
 ·intro p
  constructor
  ·intro h
   have h:p∈[j]:=h;rw [List.mem_singleton] at h; subst h;exact ⟨_,if_pos rfl⟩
  ·rintro ⟨u,h⟩
   obtain ⟨rfl,_⟩:=hr p u h;exact List.mem_singleton.2 rfl
 ·intro q; exact Nat.le_refl _
 ·intro p _; rfl
 ·intro q u k hk; exact absurd hk (Nat.not_lt_zero _)
 ·intro q u h; rw [e]; rfl
 ·exact Nat.zero_le _
structure Built (n:Nat) (gs:List Nat→Prop) (T:Twr):Prop where
 full:∀ j,j<n→Full n T j
 sub:∀ s∈(T 0).gens,Gr n gs s
 all:∀ s,gs s→Sd n (trOf T) n s
theorem Built.new {n:Nat}:Built n (fun _=>False) (newT n n):=by
 refine ⟨fun j hj=>newT_full hj,fun s hs=>?_,fun s h=>absurd h id⟩;unfold newT at hs
 by_cases h:0<n
 ·rw [if_pos h] at hs; cases hs
 ·rw [if_neg h] at hs; cases hs
theorem Built.add {n:Nat} {gs gs':List Nat→Prop} {T T':Twr} {x:List Nat} (h:Built n gs T) (hg:∀ s,gs' s↔gs s∨s=x) (hgd:∀ s,gs' s→Gd n s) (ha:Added n 0 T T' x):Built n gs' T':=by
 have hG:IsG n (Gr n gs'):=Gr.isG hgd;refine ⟨fun j hj=>ha.full j (Nat.zero_le _) hj,ha.gens _ hG (fun s hs=>Gr.sub hG (fun z hz=>.gen _ ((hg z).2 (.inl hz))) (h.sub s hs)) (.gen _ ((hg x).2 (.inr rfl))),fun s hs=>?_⟩
 rcases (hg s).1 hs with hs | rfl
 ·exact Sd.mono (fun j p u _ e=>ha.ext.rep j p u e) (h.all s hs)
 ·exact by have:=ha.sd; rwa [Nat.sub_zero] at this
theorem Built.isTr {n:Nat} {gs:List Nat→Prop} {T:Twr} (h:Built n gs T) (hn:0<n) (hgd:∀ s,gs s→Gd n s):IsTr n (Gr n gs) (trOf T):=by
 have hT:Tow n 0 (fun i s=>s∈(T i).gens) (trOf T):=Lvl.tow fun j _ b=>⟨(h.full j b).1,(h.full j b).2.1⟩;have h1:=hT.isTr hn;have g0:∀ s,s∈(T 0).gens→Gd n s:=(h.full 0 hn).1.ggd
 have e:∀ x,Gr n gs x↔Gr n (fun s=>s∈(T 0).gens) x:=fun x=>by
  constructor
  ·intro hx
   refine Gr.sub (Gr.isG g0) (fun s hs=>?_) hx;exact hT.gr (i:=0) (Nat.le_refl _) hn (d:=n) (by omega) (hgd s hs) (h.all s hs) (by omega)
  ·intro hx
   exact Gr.sub (Gr.isG hgd) h.sub hx
 exact ⟨h1.rp,fun i p u hi hu=>(e u).2 (h1.mem i p u hi hu),fun i x hi hx=>h1.all i x hi ⟨(e x).1 hx.1,hx.2⟩⟩
end Go.Proofs.Cm

namespace Go.Proofs.YtdnmmibchbceeaaGreat
open Go.RowKit
open Go.Proofs
open Go.Proofs.Cm (Lv Twr trOf)
attribute [local irreducible] Go.Calls
theorem add_all {n:Nat} (hn1:1≤n) (hn2:n≤64):∀ d i,n - i≤d→i<n→AddC n i∧∀ k,i≤k→k<n→CloseC n k
 | 0,i,hd,hi=>by omega
 | d+1,i,hd,hi=>by
  have ih:=add_all hn1 hn2 d
  have hc:∀ k,i≤k→k<n→CloseC n k:=fun k h1 h2=>by
   by_cases e:k=i
   ·subst e
    exact close_any hn1 hn2 h2 fun h=>(ih (k+1) (by omega) h).1
   ·exact (ih (i+1) (by omega) (by omega)).2 k (by omega) h2
  exact ⟨add_any hn1 hn2 hi hc,hc⟩
def lvZ:Array Value:=(Array.range 194).map (fun m=>if m<130 then Value.slice none 0 0 else .int .i64 0)
theorem infoLevel:(Tryz.prog.info? 178).map (fun i=>(i.zero.map Value.cells,i.size,i.bytes))=some (some lvZ,194,3632):=by kernel_rfl
theorem lvZ_at {m:Nat} (hm:m<194):lvZ[m]! = if m<130 then Value.slice none 0 0 else .int .i64 0:=by
 unfold lvZ;simp [hm]
theorem mkLevels (n:Nat) (hn:n≤1000000) (w:World):(Instr.makeSlice 168 (.int .i64 (n:Int)) (.int .i64 (n:Int))).run Tryz.prog w=.ok (.slice (some ⟨w.heap.size,0,none⟩) n n) (w.alloc (.cells (madeCells lvZ (n*194)) 178)):=by
 obtain ⟨i,hi,hz⟩:=Option.map_eq_some_iff.1 infoLevel;simp only [Prod.mk.injEq] at hz;obtain ⟨h1,h2,h3⟩:=hz;obtain ⟨z,hz,h1⟩:=Option.map_eq_some_iff.1 h1;have hr:=run_make (P:=Tryz.prog) w 168 178 i z Tryz.underlying168 hi hz .i64 .i64 (n:Int) (n:Int) (by omega) (Int.le_refl _) (by rw [h3]; omega) (by omega);rw [hr,h2,h1];simp
def lvV0:LV:={ g:=.slice none 0 0,us:=[],o:=.slice none 0 0,t:=fun _=>.slice none 0 0,b:=fun _=>.slice none 0 0 }
theorem TowAt.start {F:Nat→Prop} (n:Nat) (w:World) (hF:∀ k,F k→k<w.heap.size):TowAt F w.heap.size n (w.alloc (.cells (madeCells lvZ (n*194)) 178)) (Cm.newT n 0) (fun _=>lvV0):=by
 have hN:∀ j,Cm.newT n 0 j=Cm.lv0:=fun j=>if_neg (Nat.not_lt_zero _);refine ⟨fun k hk=>by have:=hF k hk; simp; omega,fun h=>by have:=hF _ h; omega,?_,fun i hi=>?_,fun i j hi hj hne k h1 h2=>?_⟩
 ·have h:=World.rowIs_alloc w (madeCells lvZ (n*194)) 178 (fun j=>cont (Cm.newT n 0 (j / 194)) lvV0 (j % 194)) (fun j hj=>?_)
  ·rwa [size_madeCells] at h
  ·have hs:lvZ.size=194:=by unfold lvZ; simp
   rw [size_madeCells] at hj;have hm:j % 194<194:=Nat.mod_lt _ (by decide);rw [hN]
   have e:(madeCells lvZ (n*194))[j]?=some (lvZ[j % 194]!):=by
    unfold madeCells;simp [hj,hs]
   rw [e,lvZ_at hm];unfold cont
   congr 1
   by_cases h0:j % 194=0
   ·simp [h0,lvV0]
   by_cases h1:j % 194=1
   ·simp [h1,lvV0]
   by_cases h2:j % 194<66
   ·simp [h0,h1,h2,lvV0]; omega
   by_cases h3:j % 194<130
   ·simp [h0,h1,h2,h3,lvV0]
   ·simp [h0,h1,h2,h3,Cm.lv0]
 ·rw [hN]
  refine ⟨?_,⟨rfl,fun i h=>absurd h (Nat.not_lt_zero _)⟩,?_,fun k h=>by simp [lvV0,Value.ownBlock] at h,fun k h=>by simp [lvV0,Value.ownBlock] at h,fun k h=>by simp [lvV0,Value.ownBlock] at h,fun p x _ h=>by simp [Cm.lv0] at h,fun p _ _=>⟨rfl,rfl⟩⟩
  ·exact World.ownsRow_nil ..
  ·exact World.ownsRow_nil ..
 ·rcases h1 with h1 | h1 <;> simp [lvV0,Value.ownBlock] at h1
def setO (T:Twr) (i p:Nat):Twr:=fun j=>if j=i then { T j with orb:=[p] } else T j
theorem newT_step (n k:Nat):setTo (setO (Cm.newT n k) k k) k k (Ma.oneN n)=Cm.newT n (k+1):=by
 funext j
 unfold setTo setO Cm.newT
 by_cases e:j=k
 ·subst e
  simp [Cm.lv0,Cm.lv1]
 ·by_cases h:j<k
  ·rw [if_neg e,if_neg e,if_pos h,if_pos (by omega)]
  ·rw [if_neg e,if_neg e,if_neg h,if_neg (by omega)]
theorem TowAt.newO {F:Nat→Prop} {L n:Nat} {w:World} {T:Twr} {V:Nat→LV} (h:TowAt F L n w T V) {i o:Nat} (hi:i<n) (ho:o=i*194+1) (p:Nat) :
  (∃ u,(w.alloc (.cells #[.int .i64 ((p:Nat):Int)] 3)).cell? ⟨L,o,none⟩=some u)∧(w.alloc (.cells #[.int .i64 ((p:Nat):Int)] 3)).frozen? ⟨L,o,none⟩=false ∧
  ∃ V',TowAt F L n ((w.alloc (.cells #[.int .i64 ((p:Nat):Int)] 3)).setCell ⟨L,o,none⟩ (.slice (some ⟨w.heap.size,0,none⟩) 1 1)) (setO T i p) V'∧KF F w ((w.alloc (.cells #[.int .i64 ((p:Nat):Int)] 3)).setCell ⟨L,o,none⟩ (.slice (some ⟨w.heap.size,0,none⟩) 1 1)):=by
 subst ho;have hv:=h.lv i hi;have hb:Below w.heap.size w (w.alloc (.cells #[.int .i64 ((p:Nat):Int)] 3)):=(Below.refl _ _).alloc (Nat.le_refl _) _;have hk1:Rg.Kp (fun _=>False) w (w.alloc (.cells #[.int .i64 ((p:Nat):Int)] 3)):=Rg.Kp.of_below hb
 have hsz:(w.alloc (.cells #[.int .i64 ((p:Nat):Int)] 3)).heap.size=w.heap.size+1:=by simp
 have hrow:=rowIs_kp h.row hk1 id;have hnew:=World.ownsRow_lit (base:=0) (e:=3) (size:=1) w #[.int .i64 ((p:Nat):Int)] 1 (Nat.zero_le _) (by unfold maxLen; omega) rfl;generalize (w.alloc (.cells #[.int .i64 ((p:Nat):Int)] 3))=X at *
 refine ⟨⟨_,(hb.cell (p:=⟨L,i*194+1,none⟩) h.lt).trans (getO h hi rfl)⟩,hrow.frozen _,fun j=>if j=i then { V i with o:=.slice (some ⟨w.heap.size,0,none⟩) 1 1 } else V j,?_⟩
 have hres:=put2 (T:=T) (T':=setO T i p) (V:=V) (V':=fun j=>if j=i then { V i with o:=.slice (some ⟨w.heap.size,0,none⟩) 1 1 } else V j) (x:=.slice (some ⟨w.heap.size,0,none⟩) 1 1)
  (fun k hk=>by have:=h.Flt k hk; omega) h.LF hrow (fun j hj hne=>(h.lv j hj).kp hk1 (fun _ _=>id) (fun _ _=>id))
  (fun a b ha hb hab _ _=>h.dist a b ha hb hab) hi (m:=1) (by omega) rfl (fun j hj=>⟨if_neg hj,if_neg hj⟩) ?_ ?_ ?_
 ·exact ⟨hres.1,Rg.Kp.trans (Rg.Kp.of_below hb) hres.2 (fun _ _ e=>e)⟩
 ·intro m' hm'
  simp only [if_true,setO];unfold cont
  by_cases h0:m'=0
  ·simp [h0]
  by_cases h1:m'=1
  ·simp [h1]
  ·simp [h0,h1]
 ·simp only [if_true,setO]
  have hv1:=hv.kp hk1 (fun _ _=>id) (fun _ _=>id);have hlt:=hv.lt;refine ⟨hv1.gown,hv1.gel,hnew,hv1.gF,?_,?_,hv1.some_,hv1.none_⟩
  ·intro k e
   have e:w.heap.size=k:=by simpa [Value.ownBlock] using e
   subst e;exact ⟨fun hf=>by have:=h.Flt _ hf; omega,by have:=h.lt; omega⟩
  ·intro k e e2
   have e2:w.heap.size=k:=by simpa [Value.ownBlock] using e2
   have:=hlt k (.inl e); omega
 ·intro j k hj hne e
  simp only [if_true] at e
  rcases e with e | e
  ·exact h.dist i j hi hj (Ne.symm hne) k (.inl e)
  ·have e:w.heap.size=k:=by simpa [Value.ownBlock] using e
   intro e2; have:=(h.lv j hj).lt k e2; omega
end Go.Proofs.YtdnmmibchbceeaaGreat
