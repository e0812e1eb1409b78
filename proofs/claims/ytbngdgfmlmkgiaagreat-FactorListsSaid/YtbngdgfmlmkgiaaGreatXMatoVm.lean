/- Lemmas and contracts on the way to the statement; no condition of their own beyond those written. -/
import Derived.Lib.Hide
import Derived.Deep.OwnRows
import Derived.WalkKit
import Derived.WalkSpells
import Derived.WalkLawsBesides
import Derived.Maps.AppendAt
import Derived.OwnWalk
import Derived.OrdersHeld
import Derived.Stop.BytesEq
import Derived.MapKept
import Derived.ChangeMaps5
import Derived.StillTailTactics
import Derived.Deep.MidRow
import Derived.Laws.CopyOwn
import Derived.Laws.OwnMore
import Derived.Great.BuildSlice
import Derived.ArgAppend
import Derived.IntWalk
import Derived.Test.YtbngdgfmlmkgiaaGreatProg
import Derived.Outline
import Derived.Deep.DeepFit
import Derived.BigQuiet
import Derived.Deep.QuietTactic
import Derived.Deep.CutRange
import Derived.Deep.CutBlock
import Derived.WideMake
import Derived.Shelf.Sort.Plain
import Derived.Sort.OwnSortedInts
set_option linter.unusedVariables false
set_option linter.unusedSimpArgs false
set_option maxRecDepth 100000
set_option maxHeartbeats 8000000
variable {n B N k m L j D mb tc tb tf base bytes n₀ cap:Nat} {F M F' F0:Nat→Prop} {W w' W' X w0:Go.World} {ll OO Wd:List (List Int)} {gs O Ks Fd:List (List Nat)} {l xl l1 l2:List Int} {R:List (List (List Nat))} {d:Int} {rv ov v1 v2 z fv xv u1 u2 cv u3:Go.Value} {RR:List (List (List Int))} {H:List Nat→Prop} {y a q s:List Nat} {vs xs:List Go.Value}
namespace Go.Proofs.Cm
end Go.Proofs.Cm
namespace Go.Proofs.Ob
end Go.Proofs.Ob
namespace Go.Proofs.YtbngdgfmlmkgiaaGreat
end Go.Proofs.YtbngdgfmlmkgiaaGreat
namespace Go.Proofs.Ma
def rm (l:List Int):Prop:=(∀ x∈l,0≤x∧x<l.length)∧l.Nodup
instance (l:List Int):Decidable (rm l):=inferInstanceAs (Decidable (_∧_))
def uk (l:List Int) (k:Nat):Prop:=(∀ x∈l.take k,0≤x∧x<l.length)∧(l.take k).Nodup
theorem Qe (l:List Int):uk l 0:=⟨by simp,by simp⟩
theorem Bv (h:uk l l.length):rm l:=by
 unfold uk at h; rw [List.take_length] at h; exact h
theorem y8 (h:uk l k) (hk:k<l.length) (h0:0≤l[k]) (h1:l[k]<l.length) (h2:l[k]∉l.take k):uk l (k+1):=by
 unfold uk;rw [List.take_succ_eq_append_getElem hk];refine ⟨fun x hx=>?_,?_⟩
 ·rcases List.mem_append.1 hx with hx | hx
  ·exact h.1 x hx
  ·obtain rfl:x=l[k]:=by simpa using hx
   exact ⟨h0,h1⟩
 ·rw [List.nodup_append]
  refine ⟨h.2,by simp,fun a ha b hb=>?_⟩
  obtain rfl:b=l[k]:=by simpa using hb
  intro e; exact h2 (e▸ha)
theorem Hw (hk:k<l.length) (h0:l[k]<0):¬ rm l:=fun h=>by
 have:=(h.1 _ (List.getElem_mem hk)).1; omega
theorem HW (hk:k<l.length) (h0:(l.length:Int)≤l[k]):¬ rm l:=fun h=>by
 have:=(h.1 _ (List.getElem_mem hk)).2; omega
theorem Bw (hk:k<l.length) (h0:l[k]∈l.take k):¬ rm l:=fun h=>by
 have hn:=h.2;rw [← List.take_append_drop k l,List.nodup_append] at hn;refine hn.2.2 _ h0 l[k] ?_ rfl;rw [List.drop_eq_getElem_cons hk]; exact List.mem_cons_self
theorem om (hk:k<l.length) (j:Nat):decide ((j:Int)∈l.take (k+1))=if (j:Int)=l[k] then true else decide ((j:Int)∈l.take k):=by
 have h:((j:Int)∈l.take (k+1))↔((j:Int)∈l.take k∨(j:Int)=l[k]):=by
  rw [List.take_succ_eq_append_getElem hk,List.mem_append,List.mem_singleton]
 by_cases e:(j:Int)=l[k]
 ·rw [if_pos e,decide_eq_true_eq,h]; exact .inr e
 ·rw [if_neg e]; exact decide_eq_decide.2 (by rw [h]; exact ⟨fun x=>x.resolve_right e,.inl⟩)
def cj (l:List Int):Int:=if 1≤l.length∧l.length≤64 then (if rm l then 0 else 3) else 2
theorem pE (h:¬ (1≤l.length∧l.length≤64)):cj l=2:=by unfold cj; rw [if_neg h]
theorem pF (h1:1≤l.length) (h2:l.length≤64) (h:¬ rm l):cj l=3:=by unfold cj; rw [if_pos ⟨h1,h2⟩,if_neg h]
theorem oq (h1:1≤l.length) (h2:l.length≤64) (h:rm l):cj l=0:=by unfold cj; rw [if_pos ⟨h1,h2⟩,if_pos h]
theorem jC (h:cj l=0):1≤l.length∧l.length≤64∧rm l:=by
 unfold cj at h
 split at h
 ·rename_i h1
  split at h
  ·rename_i h2; exact ⟨h1.1,h1.2,h2⟩
  ·cases h
 ·cases h
def iR (d:Int):List (List Int)→Int
 | []=>0
 | l :: r=>if cj l=0 then (if (l.length:Int)=d then iR d r else 10) else cj l
def bJ (d:Int) (ll:List (List Int)):Int:=if 1≤d∧d≤64 then (if ll.length≤16 then iR d ll else 4) else 2
theorem vI (hk:k<ll.length) (h:cj ll[k]≠0):iR d (ll.drop k)=cj ll[k]:=by
 rw [List.drop_eq_getElem_cons hk,iR,if_neg h]
theorem vJ (hk:k<ll.length) (h:cj ll[k]=0) (h2:(ll[k].length:Int)≠d):iR d (ll.drop k)=10:=by
 rw [List.drop_eq_getElem_cons hk,iR,if_pos h,if_neg h2]
theorem sU (hk:k<ll.length) (h:cj ll[k]=0) (h2:(ll[k].length:Int)=d):iR d (ll.drop k)=iR d (ll.drop (k+1)):=by
 rw [List.drop_eq_getElem_cons hk,iR,if_pos h,if_pos h2]
theorem vK (hk:ll.length≤k):iR d (ll.drop k)=0:=by
 rw [List.drop_of_length_le hk]; rfl
theorem jT (h:¬ (1≤d∧d≤64)):bJ d ll=2:=by unfold bJ; rw [if_neg h]
theorem p9 (h1:1≤d) (h2:d≤64) (h:¬ ll.length≤16):bJ d ll=4:=by unfold bJ; rw [if_pos ⟨h1,h2⟩,if_neg h]
theorem vL (h1:1≤d) (h2:d≤64) (h:ll.length≤16):bJ d ll=iR d ll:=by unfold bJ; rw [if_pos ⟨h1,h2⟩,if_pos h]
theorem sV {d:Int}:∀ {ll:List (List Int)},iR d ll=0→∀ l∈ll,cj l=0∧(l.length:Int)=d
 | [],_=>by simp
 | l :: r,h=>by
  rw [iR] at h
  split at h
  ·rename_i h1
   split at h
   ·rename_i h2
    intro x hx
    rcases List.mem_cons.1 hx with rfl | hx
    ·exact ⟨h1,h2⟩
    ·exact sV h x hx
   ·cases h
  ·rename_i h1; exact absurd h h1
def ah (p:List Nat):List Int:=p.map fun (x:Nat)=>(x:Int)
def lB (p:List Nat):Prop:=(∀ x∈p,x<p.length)∧p.Nodup
instance (p:List Nat):Decidable (lB p):=inferInstanceAs (Decidable (_∧_))
theorem aG (p:List Nat):(ah p).length=p.length:=by simp [ah]
theorem rq (p:List Nat) (i:Nat) (h:i<(ah p).length):(ah p)[i]=((p[i]'(by rw [← aG]; exact h):Nat):Int):=by simp [ah]
theorem mn (h:rm l):∃ p,l=ah p∧lB p:=by
 refine ⟨l.map Int.toNat,?_,?_,?_⟩
 ·unfold ah; rw [List.map_map]
  conv=>lhs; rw [← List.map_id l]
  exact List.map_congr_left fun x hx=>by have:=(h.1 x hx).1; simp; omega
 ·intro x hx
  obtain ⟨y,hy,rfl⟩:=List.mem_map.1 hx;have:=h.1 y hy; simp; omega
 ·rw [List.nodup_iff_pairwise_ne,List.pairwise_map]
  refine (List.nodup_iff_pairwise_ne.1 h.2).imp_of_mem fun {a b} ha hb hne e=>hne ?_;have:=(h.1 a ha).1; have:=(h.1 b hb).1; omega
theorem vM {p:List Nat} (h:lB p):rm (ah p):=by
 refine ⟨fun x hx=>?_,?_⟩
 ·obtain ⟨y,hy,rfl⟩:=List.mem_map.1 hx
  have:=h.1 y hy; rw [aG]; omega
 ·unfold ah; rw [List.nodup_iff_pairwise_ne,List.pairwise_map]
  exact (List.nodup_iff_pairwise_ne.1 h.2).imp fun hne e=>hne (by omega)
theorem ou {p:List Nat} (h:ah p=ah q):p=q:=by
 unfold ah at h
 exact List.map_inj_right (f:=fun x:Nat=>(x:Int)) (by intro x y e; exact Int.ofNat.inj e) |>.1 h
theorem vz {p:List Nat} (h:lB p) {i:Nat} (hi:i<p.length):p[i]<p.length:=h.1 _ (List.getElem_mem hi)
def aR (n:Nat):List Nat:=List.range n
def aj (a b:List Nat):List Nat:=a.map fun x=>b.getD x 0
def aO (a:List Nat):List Nat:=(List.range a.length).map fun j=>a.idxOf j
theorem eh (n:Nat):(aR n).length=n:=by simp [aR]
theorem dt (a b:List Nat):(aj a b).length=a.length:=by simp [aj]
theorem fk (a:List Nat):(aO a).length=a.length:=by simp [aO]
theorem sW (n i:Nat) (h:i<(aR n).length):(aR n)[i]=i:=by simp [aR]
theorem sX (a b:List Nat) (i:Nat) (h:i<(aj a b).length):(aj a b)[i]=b.getD (a[i]'(by rw [← dt a b]; exact h)) 0:=by simp [aj]
theorem pG (a:List Nat) (i:Nat) (h:i<(aO a).length):(aO a)[i]=a.idxOf i:=by simp [aO]
theorem y9 (n:Nat):lB (aR n):=⟨by simp [aR],List.nodup_range⟩
theorem mq (h:lB a) (hk:k<a.length):a.idxOf a[k]=k:=by
 exact h.2.idxOf_getElem k hk
theorem rr (h:lB a) (hj:j<a.length):j∈a:=by
 refine Decidable.byContradiction fun hn=>?_
 have hs:(j :: a) ⊆ List.range a.length:=fun x hx=>by
  rcases List.mem_cons.1 hx with rfl | hx
  ·simpa using hj
  ·simpa using h.1 x hx
 have:=List.Nodup.length_le_of_subset (List.nodup_cons.2 ⟨hn,h.2⟩) hs;simp at this;omega
theorem zT (h:lB a) (hj:j<a.length):a.idxOf j<a.length:=List.idxOf_lt_length_of_mem (rr h hj)
theorem Bx (h:lB a) (hj:j<a.length):a[a.idxOf j]'(zT h hj)=j:=List.getElem_idxOf (zT h hj)
theorem y_ (h:lB a):lB (aO a):=by
 refine ⟨fun x hx=>?_,?_⟩
 ·obtain ⟨j,hj,rfl⟩:=List.mem_map.1 hx
  rw [fk]; exact zT h (by simpa using hj)
 ·unfold aO
  rw [List.nodup_iff_pairwise_ne,List.pairwise_map];refine (List.nodup_iff_pairwise_ne.1 List.nodup_range).imp_of_mem fun {x y} hx hy hne e=>hne ?_;have h1:=Bx h (j:=x) (by simpa using hx);have h2:=Bx h (j:=y) (by simpa using hy);simp only [e] at h1;exact h1.symm.trans h2
theorem getD_lt {b:List Nat} {x:Nat} (h:x<b.length):b.getD x 0=b[x]:=by
 rw [List.getD_eq_getElem?_getD,List.getElem?_eq_getElem h]; rfl
theorem za {b:List Nat} (ha:lB a) (hb:lB b) (hl:a.length=b.length):lB (aj a b):=by
 refine ⟨fun x hx=>?_,?_⟩
 ·obtain ⟨j,hj,rfl⟩:=List.mem_map.1 hx
  have:=ha.1 j hj;rw [dt,getD_lt (by omega),hl];exact vz hb (by omega)
 ·unfold aj
  rw [List.nodup_iff_pairwise_ne,List.pairwise_map];refine (List.nodup_iff_pairwise_ne.1 ha.2).imp_of_mem fun {x y} hx hy hne e=>hne ?_;have h1:=ha.1 x hx; have h2:=ha.1 y hy;rw [getD_lt (by omega),getD_lt (by omega)] at e;have i1:=mq hb (k:=x) (by omega);have i2:=mq hb (k:=y) (by omega);rw [e] at i1;exact i1.symm.trans i2
end Go.Proofs.Ma

namespace Go.Proofs.Rg
open Go Go.RowKit
def iT (B:Nat) (w:World) (v:Value) (us:List Value):Prop :=
 ∃ a cap,v=.slice a us.length cap∧us.length≤cap∧cap≤maxLen∧us.length≤B ∧
  (0<us.length→∃ b o,a=some ⟨b,o,none⟩∧b<w.heap.size∧∀ i (h:i<us.length),w.cell? ⟨b,o+i,none⟩=some us[i])
def na:Nat:=1000000000
def cu (w:World) (v:Value) (us:List Value):Prop:=iT na w v us
def fV (B:Nat) (w:World) (v:Value) (l:List Int):Prop:=iT B w v (l.map (Value.int .i64))
def Ints (w:World) (v:Value) (l:List Int):Prop:=cu w v (l.map (Value.int .i64))
def gD (B:Nat) (w:World) (v:Value) (ll:List (List Int)):Prop :=
 ∃ us,iT B w v us∧us.length=ll.length∧∀ i (h:i<us.length) (h2:i<ll.length),fV B w us[i] ll[i]
def Rows (w:World) (v:Value) (ll:List (List Int)):Prop:=gD na w v ll
theorem iT.shape {w:World} {v:Value} {us:List Value} (h:iT B w v us) :
  ∃ a cap,v=.slice a us.length cap∧us.length≤cap∧us.length≤B∧cap≤maxLen ∧
  (0<us.length→∃ b o,a=some ⟨b,o,none⟩∧b<w.heap.size∧∀ i (h:i<us.length),w.cell? ⟨b,o+i,none⟩=some us[i]):=by
 obtain ⟨a,cap,h1,h2,h3,h4,h5⟩:=h;exact ⟨a,cap,h1,h2,h4,h3,h5⟩
theorem cu.shape {w:World} {v:Value} {us:List Value} (h:cu w v us) :
  ∃ a cap,v=.slice a us.length cap∧us.length≤cap∧us.length≤1000000000∧cap≤maxLen ∧
  (0<us.length→∃ b o,a=some ⟨b,o,none⟩∧b<w.heap.size∧∀ i (h:i<us.length),w.cell? ⟨b,o+i,none⟩=some us[i]):=iT.shape h
theorem fV.shape {w:World} {v:Value} (h:fV B w v l) :
  ∃ a cap,v=.slice a l.length cap∧l.length≤cap∧l.length≤B∧cap≤maxLen ∧
  (0<l.length→∃ b o,a=some ⟨b,o,none⟩∧b<w.heap.size∧∀ i (h:i<l.length),w.cell? ⟨b,o+i,none⟩=some (.int .i64 l[i])):=by
 obtain ⟨a,cap,h1,h2,h3,h4,h5⟩:=h;simp only [List.length_map] at h1 h2 h4 h5;refine ⟨a,cap,h1,h2,h4,h3,fun h0=>?_⟩;obtain ⟨b,o,e1,e2,e3⟩:=h5 h0;exact ⟨b,o,e1,e2,fun i hi=>(e3 i hi).trans (by simp)⟩
theorem Ints.shape {w:World} {v:Value} {l:List Int} (h:Ints w v l) :
  ∃ a cap,v=.slice a l.length cap∧l.length≤cap∧l.length≤1000000000∧cap≤maxLen ∧
  (0<l.length→∃ b o,a=some ⟨b,o,none⟩∧b<w.heap.size∧∀ i (h:i<l.length),w.cell? ⟨b,o+i,none⟩=some (.int .i64 l[i])):=fV.shape h
theorem gD.shape {w:World} {v:Value} (h:gD B w v ll) :
  ∃ a cap,v=.slice a ll.length cap∧ll.length≤cap∧ll.length≤B∧cap≤maxLen ∧
  (0<ll.length→∃ b o,a=some ⟨b,o,none⟩∧b<w.heap.size∧∀ i (h:i<ll.length),∃ u,w.cell? ⟨b,o+i,none⟩=some u∧fV B w u ll[i]):=by
 obtain ⟨us,⟨a,cap,h1,h2,h3,h4,h5⟩,hl,h6⟩:=h;rw [hl] at h1 h2 h4;refine ⟨a,cap,h1,h2,h4,h3,fun h0=>?_⟩;obtain ⟨b,o,e1,e2,e3⟩:=h5 (by omega);exact ⟨b,o,e1,e2,fun i hi=>⟨us[i],e3 i (by omega),h6 i (by omega) hi⟩⟩
theorem Rows.shape {w:World} {v:Value} {ll:List (List Int)} (h:Rows w v ll) :
  ∃ a cap,v=.slice a ll.length cap∧ll.length≤cap∧ll.length≤1000000000∧cap≤maxLen ∧
  (0<ll.length→∃ b o,a=some ⟨b,o,none⟩∧b<w.heap.size∧∀ i (h:i<ll.length),∃ u,w.cell? ⟨b,o+i,none⟩=some u∧Ints w u ll[i]):=gD.shape h
theorem iT.below {w:World} {v:Value} {us:List Value} (h:iT B w v us) (hb:Below w.heap.size w w'):iT B w' v us:=by
 obtain ⟨a,cap,h1,h2,h3,h4,h5⟩:=h;refine ⟨a,cap,h1,h2,h3,h4,fun h0=>?_⟩;obtain ⟨b,o,e1,e2,e3⟩:=h5 h0;exact ⟨b,o,e1,Nat.lt_of_lt_of_le e2 hb.size,fun i hi=>(hb.cell (p:=⟨b,o+i,none⟩) e2).trans (e3 i hi)⟩
theorem cu.below {w w':World} {v:Value} {us:List Value} (h:cu w v us) (hb:Below w.heap.size w w'):cu w' v us:=iT.below h hb
theorem fV.below {B:Nat} {w w':World} {v:Value} {l:List Int} (h:fV B w v l) (hb:Below w.heap.size w w'):fV B w' v l:=iT.below h hb
theorem Ints.below {w w':World} {v:Value} {l:List Int} (h:Ints w v l) (hb:Below w.heap.size w w'):Ints w' v l:=iT.below h hb
theorem gD.below {B:Nat} {w w':World} {v:Value} {ll:List (List Int)} (h:gD B w v ll) (hb:Below w.heap.size w w'):gD B w' v ll:=by
 obtain ⟨us,h1,h2,h3⟩:=h;exact ⟨us,h1.below hb,h2,fun i a b=>(h3 i a b).below hb⟩
theorem Rows.below {w w':World} {v:Value} {ll:List (List Int)} (h:Rows w v ll) (hb:Below w.heap.size w w'):Rows w' v ll:=gD.below h hb
theorem fV.small {w:World} {v:Value} (h:fV B w v l) (hl:l.length≤1000000000):Ints w v l:=by
 obtain ⟨a,cap,h1,h2,h3,h4,h5⟩:=h;exact ⟨a,cap,h1,h2,h3,by rw [List.length_map]; exact hl,h5⟩
theorem gD.small {B:Nat} {w:World} {v:Value} {ll:List (List Int)} (h:gD B w v ll) (hl:ll.length≤1000000000) (hr:∀ l∈ll,l.length≤1000000000):Rows w v ll:=by
 obtain ⟨us,⟨a,cap,h1,h2,h3,h4,h5⟩,hu,h6⟩:=h;exact ⟨us,⟨a,cap,h1,h2,h3,by rw [hu]; exact hl,h5⟩,hu,fun i a b=>(h6 i a b).small (hr _ (List.getElem_mem b))⟩
theorem cu.mk {w:World} {b o:Nat} {us:List Value} (hb:b<w.heap.size) (hc:us.length≤cap) (hm:cap≤maxLen) (hl:us.length≤1000000000)
  (h:∀ i (h:i<us.length),w.cell? ⟨b,o+i,none⟩=some us[i]):cu w (.slice (some ⟨b,o,none⟩) us.length cap) us :=
 ⟨_,cap,rfl,hc,hm,hl,fun _=>⟨b,o,rfl,hb,h⟩⟩
theorem Ints.mk {w:World} {b o:Nat} (hn:n=l.length) (hb:b<w.heap.size) (hc:l.length≤cap) (hm:cap≤maxLen) (hl:l.length≤1000000000)
  (h:∀ i (h:i<l.length),w.cell? ⟨b,o+i,none⟩=some (.int .i64 l[i])):Ints w (.slice (some ⟨b,o,none⟩) n cap) l:=by
 subst hn;refine ⟨some ⟨b,o,none⟩,cap,by simp,by simpa using hc,hm,by rw [List.length_map]; exact hl,fun _=>⟨b,o,rfl,hb,fun i hi=>?_⟩⟩
 have nc:i<l.length:=by simpa using hi
 rw [h i nc]; simp
theorem Ints.nil (w:World) (a:Option Addr) (cap:Nat) (hc:cap≤maxLen):Ints w (.slice a 0 cap) [] :=
 ⟨a,cap,rfl,by simp,hc,by simp,fun h=>by simp at h⟩
theorem Rows.nil (w:World) (a:Option Addr) (cap:Nat) (hc:cap≤maxLen):Rows w (.slice a 0 cap) [] :=
 ⟨[],⟨a,cap,rfl,by simp,hc,by simp,fun h=>by simp at h⟩,rfl,fun i h=>by simp at h⟩
theorem cu.nil (w:World) (a:Option Addr) (cap:Nat) (hc:cap≤maxLen):cu w (.slice a 0 cap) [] :=
 ⟨a,cap,rfl,by simp,hc,by simp,fun h=>by simp at h⟩
theorem cu.cm {w:World} {e:TypeId} {v:Value} (h:w.ownsRow base e 1 v n xs) (hl:n≤1000000000):cu w v xs:=by
 obtain ⟨h1,h2⟩:=h
 rcases h2 with ⟨rfl,rfl⟩ | ⟨g,cap,cur,rfl,hg,hc,h3,h4,h5,h6⟩
 ·obtain rfl:xs=[]:=by cases xs; rfl; simp at h1
  exact cu.nil w none 0 (by simp)
 ·have hn:xs.length=n:=by omega
  subst hn;refine ⟨_,cap,rfl,h3,h4,hl,fun h0=>⟨g,0,rfl,(Array.getElem?_eq_some_iff.1 hc).1,fun i hi=>?_⟩⟩;unfold World.cell?;simp only [hc]
  have h7:cur.toList[i]?=xs[i]?:=by
   rw [← h6,List.getElem?_take_of_lt (by omega)]
  rw [Nat.zero_add,← Array.getElem?_toList,h7,List.getElem?_eq_getElem hi]; rfl
theorem Ints.cm {w:World} {base:Nat} {e:TypeId} {v:Value} {n:Nat} {l:List Int} (h:w.ownsRow base e 1 v n (l.map (Value.int .i64))) (hl:n≤1000000000):Ints w v l:=cu.cm h hl
theorem Rows.cm {w:World} {base:Nat} {e:TypeId} {v:Value} {n:Nat} {us:List Value} {ll:List (List Int)} (h:w.ownsRow base e 1 v n us) (hl:n≤1000000000) (hu:us.length=ll.length)
  (hr:∀ i (h:i<us.length) (h2:i<ll.length),Ints w us[i] ll[i]):Rows w v ll:=⟨us,cu.cm h hl,hu,hr⟩
theorem Ints.gU {w:World} {b:Nat} {t:TypeId} {f:Nat→Value} (h:w.rowIs b t n f) (hn:n=l.length) (hl:n≤1000000000)
  (hf:∀ i (h:i<l.length),f i=.int .i64 l[i]):Ints w (.slice (some ⟨b,0,none⟩) n n) l:=by
 refine Ints.mk hn h.lt (by omega) (by unfold maxLen; omega) (by omega) (fun i hi=>?_);rw [Nat.zero_add,h.cell (by omega),hf i hi]
theorem ng {w1:World} (hb:Below W.heap.size W w1):(∀ b o,b<W.heap.size→w1.cell? ⟨b,o,none⟩=W.cell? ⟨b,o,none⟩)∧(∀ b o,b<W.heap.size→w1.frozen? ⟨b,o,none⟩=W.frozen? ⟨b,o,none⟩) :=
 ⟨fun b o h=>hb.cell (p:=⟨b,o,none⟩) h,fun b o h=>hb.frozen (p:=⟨b,o,none⟩) h⟩
theorem acc {w:World} (hb:Below w0.heap.size w0 w) (h:Below w.heap.size w w'):Below w0.heap.size w0 w':=hb.trans (h.mono hb.size)
theorem mr {k:IntKind} {a b:Int} (h:a=b):Ending.returned (.int k a)=.returned (.int k b):=by rw [h]
theorem cG {a b:Bool} (h:a=b):Ending.returned (.bool a)=.returned (.bool b):=by rw [h]
theorem fV.len {w:World} {v:Value} (h:fV B w v l):∃ n a cap,l.length=n∧v=.slice a n cap∧n≤B:=by
 obtain ⟨a,cap,h1,h2,h3,h4,h5⟩:=fV.shape h;exact ⟨_,a,cap,rfl,h1,h3⟩
theorem Ints.len {w:World} {v:Value} {l:List Int} (h:Ints w v l):∃ n a cap,l.length=n∧v=.slice a n cap∧n≤1000000000:=fV.len h
def NP (w:World) (v:Value) (a:List Nat):Prop:=Ints w v (Ma.ah a)
theorem NP.shape {w:World} {v:Value} {l:List Nat} (h:NP w v l) :
  ∃ a cap,v=.slice a l.length cap∧l.length≤cap∧l.length≤1000000000∧cap≤maxLen ∧
  (0<l.length→∃ b o,a=some ⟨b,o,none⟩∧b<w.heap.size∧∀ i (h:i<l.length),w.cell? ⟨b,o+i,none⟩=some (.int .i64 ((l[i]:Nat):Int))):=by
 obtain ⟨a,cap,h1,h2,h3,h4,h5⟩:=Ints.shape h;rw [Ma.aG] at h1 h2 h3;refine ⟨a,cap,h1,h2,h3,h4,fun h0=>?_⟩;obtain ⟨b,o,e1,e2,e3⟩:=h5 (by rw [Ma.aG]; exact h0);exact ⟨b,o,e1,e2,fun i hi=>(e3 i (by rw [Ma.aG]; exact hi)).trans (by rw [Ma.rq])⟩
theorem NP.below {w w':World} {v:Value} {l:List Nat} (h:NP w v l) (hb:Below w.heap.size w w'):NP w' v l:=iT.below h hb
theorem NP.gU {w:World} {b:Nat} {t:TypeId} {n:Nat} {f:Nat→Value} {l:List Nat} (h:w.rowIs b t n f) (hn:n=l.length) (hl:n≤1000000000)
  (hf:∀ i (h:i<l.length),f i=.int .i64 ((l[i]:Nat):Int)):NP w (.slice (some ⟨b,0,none⟩) n n) l :=
 Ints.gU h (by rw [Ma.aG]; exact hn) hl (fun i hi=>by rw [hf i (by rw [← Ma.aG]; exact hi),Ma.rq])
theorem NP.cm {w:World} {base:Nat} {e:TypeId} {v:Value} {n:Nat} {l:List Nat} (h:w.ownsRow base e 1 v n (l.map fun (x:Nat)=>Value.int .i64 (x:Int))) (hl:n≤1000000000):NP w v l :=
 Ints.cm (base:=base) (e:=e) (n:=n) (by unfold Ma.ah; rw [List.map_map]; exact h) hl
theorem aM (w:World) (cs:Array Value) (t:TypeId) (j:Nat):(w.alloc (.cells cs t)).cell? ⟨w.heap.size,j,none⟩=cs[j]?:=by
 unfold World.cell? World.alloc;simp
theorem Rows.one {w:World} {v:Value} (t:TypeId) (h:Ints w v l):Rows (w.alloc (.cells #[v] t)) (.slice (some ⟨w.heap.size,0,none⟩) 1 1) [l]:=by
 refine ⟨[v],⟨_,1,rfl,by simp,by unfold maxLen; simp,by simp [na],fun _=>⟨w.heap.size,0,rfl,by simp,fun i hi=>?_⟩⟩,rfl,fun i h1 h2=>?_⟩
 ·have nc:i=0:=by simpa using hi
  subst nc;rw [aM]; rfl
 ·have nc:i=0:=by simpa using h1
  subst nc;exact Ints.below h ((Below.refl _ _).alloc (Nat.le_refl _) _)
theorem Rows.two {w:World} {v v':Value} {l':List Int} (t:TypeId) (h:Ints w v l) (h':Ints w v' l'):Rows (w.alloc (.cells #[v,v'] t)) (.slice (some ⟨w.heap.size,0,none⟩) 2 2) [l,l']:=by
 refine ⟨[v,v'],⟨_,2,rfl,by simp,by unfold maxLen; simp,by simp [na],fun _=>⟨w.heap.size,0,rfl,by simp,fun i hi=>?_⟩⟩,rfl,fun i h1 h2=>?_⟩
 ·have nc:i=0∨i=1:=by simp at hi; omega
  rcases nc with rfl | rfl
  all_goals
   rw [aM]; rfl
 ·have nc:i=0∨i=1:=by simp at h1; omega
  rcases nc with rfl | rfl
  ·exact Ints.below h ((Below.refl _ _).alloc (Nat.le_refl _) _)
  ·exact Ints.below h' ((Below.refl _ _).alloc (Nat.le_refl _) _)
def cL (B:Nat) (v:Value):Prop:=∀ a n c,v=.slice (some a) n c→B≤a.block
def p_ (w w':World) (v:Value) (a:List Nat):Prop:=NP w' v a∧cL w.heap.size v
theorem cL.mono {B':Nat} {v:Value} (h:cL B v) (hb:B'≤B):cL B' v:=fun a n c e=>Nat.le_trans hb (h a n c e)
theorem cL.mk (B o n c:Nat):cL B (.slice (some ⟨B,o,none⟩) n c):=fun a n c e=>by simp at e; obtain ⟨⟨rfl,_⟩,_⟩:=e; exact Nat.le_refl _
theorem cL.cm {w:World} {e:TypeId} {size:Nat} {v:Value} (h:w.ownsRow base e size v n xs):cL base v:=fun a m c ev=>by
 subst ev;exact (h.lt a.block rfl).1
def ry (u:Value) (k:Option Nat):Prop:=∀ a n c,u=.slice (some a) n c→0<n→some a.block≠k
theorem NP.lt {w:World} {v:Value} {l:List Nat} (h:NP w v l) {a:Addr} {c:Nat} (e:v=.slice (some a) n c) (hn:0<n):a.block<w.heap.size:=by
 obtain ⟨a',cap,h1,_,_,_,h5⟩:=h.shape;rw [e] at h1;simp at h1;obtain ⟨rfl,rfl,rfl⟩:=h1;obtain ⟨b,o,e1,e2,_⟩:=h5 hn;simp at e1; subst e1; exact e2
theorem NP.grown {w:World} {v:Value} {l:List Nat} {k:Option Nat} (h:NP w v l) (ho:ry v k) (hg:w.grownBy w' k):NP w' v l:=by
 have hh:=h;obtain ⟨a,cap,h1,h2,h3,h4,h5⟩:=h;refine ⟨a,cap,h1,h2,h3,h4,fun h0=>?_⟩;obtain ⟨b,o,e1,e2,e3⟩:=h5 h0;subst e1;have hne:=ho _ _ _ h1 (by simpa using h0);exact ⟨b,o,rfl,Nat.lt_of_lt_of_le e2 hg.size,fun i hi=>hg.cell (e3 i hi) hne⟩
theorem ry.next {w:World} {v:Value} {l:List Nat} {k k':Option Nat} {g:Nat} (h:ry v k) (hv:NP w v l) (hk:k'=k∨k'=some g) (hg:w.heap.size≤g):ry v k':=fun a n c e hn=>by
 rcases hk with rfl | rfl
 ·exact h a n c e hn
 ·have:=hv.lt e hn
  simp; omega
theorem ry.fresh {u:Value} {k:Option Nat} (h:cL B u) (hk:∀ b,k=some b→b<B):ry u k:=fun a n c e _ he=>by
 have h1:=h a n c e;have h2:=hk _ he.symm;omega
theorem ry.By {w:World} {v:Value} {l:List Nat} {k:Option Nat} (h:NP w v l) (hw:w.heap.size≤B) (hk:∀ b,k=some b→B≤b):ry v k:=fun a n c e hn he=>by
 have h1:=h.lt e hn;have h2:=hk _ he.symm;omega

structure lU (P:Program) (t e:TypeId) (z:Value) (bytes:Nat):Prop where
 ty:P.underlying t=some (.slice e)
 info:(P.info? e).map (fun i=>(i.zero,i.size,i.bytes))=some (some z,1,bytes)
 zc:z.cells.size=1
 small:bytes≤64
theorem H0 {P:Program} {W0 wr:World} {ops:Array Oper} {rest:List Oper} {o:Oper} {a:Act} {Q:Exit→Act→World→Prop} (cD:o.guard=none) (s x:Operand) (t:TypeId)
  (ho:o.op=.call { callee:=.builtin .append,args:=#[s,x],argTypes:=#[t,t] })
  {e e':TypeId} (T:lU P t e z bytes) {v:Value} (gG:wr.ownsRow W0.heap.size e 1 v n xs) (hb:Below W0.heap.size W0 wr)
  (u:Value) (hu:u.oneCell'=true) (hs:a.eval s=v) (hx:a.eval x=.slice (some ⟨wr.heap.size,0,none⟩) 1 1) (hn:n<1000000000)
  (h:∀ v' w',w'.ownsRow W0.heap.size e 1 v' (n+1) (xs++[u])→Below W0.heap.size W0 w'→(wr.alloc (.cells #[u] e')).grownBy w' v.ownBlock→(v'.ownBlock=v.ownBlock∨v'.ownBlock=some (wr.heap.size+1))→(∃ ad cap,v'=.slice ad (n+1) cap)→wpList P ops Q rest (a.put o.dst v') w') :
  wpList P ops Q (o :: rest) a (wr.alloc (.cells #[u] e')):=by
 obtain ⟨i0,hi,dc,bM,eY⟩:=info_parts T.info;have dn:=hb.size;refine wpList_append_own_at (wr.alloc (.cells #[u] e')) cD s x t ho W0.heap.size e i0 z 1 bytes T.ty hi dc bM eY T.zc (by decide) v n xs hs (gG.alloc _) ⟨wr.heap.size,0,none⟩ 1 1 [u] hx rfl (cell_one_new _ _ _) (by simpa using hu) (by unfold maxLen; omega) ?_ (by simp; omega) ?_
 ·have:(n+1)*bytes≤1000000000*64:=Nat.mul_le_mul (by omega) T.small
  omega
 ·intro v' w' h1 h2 h3 h4
  refine h v' w' h1 ((hb.alloc dn _).grown h2 (by simp; omega) (fun k hk=>(gG.lt k hk).1)) h2 (by simpa using h4) ?_;obtain ⟨_,hv⟩:=h1
  rcases hv with ⟨hv,Bz⟩ | ⟨g,cap,cur,hv,_⟩
  ·omega
  ·exact ⟨_,_,hv⟩
theorem drewN {B:Nat} {a w:World} (h:Below B a w) (k:Nat):Below B a (w.drewN k):=⟨h.os,h.tape,h.output,h.size,h.block⟩
theorem UZ (w:World) (x y:Value) (t:TypeId):∀ (j:Nat) (u:Value),[x,y][j]?=some u→(w.alloc (.cells #[x,y] t)).cell? ((⟨w.heap.size,0,none⟩:Addr).add j)=some u:=by
 intro j u h
 match j,h with
 | 0,h =>
  simp at h; subst h;rw [show (⟨w.heap.size,0,none⟩:Addr).add 0=⟨w.heap.size,0,none⟩ from rfl,aM]; rfl
 | 1,h =>
  simp at h; subst h;rw [show (⟨w.heap.size,0,none⟩:Addr).add 1=⟨w.heap.size,1,none⟩ from rfl,aM]; rfl
theorem Ku {P:Program} {W0 wr:World} {ops:Array Oper} {rest:List Oper} {o:Oper} {a:Act} {Q:Exit→Act→World→Prop} (cD:o.guard=none) (s x:Operand) (t:TypeId)
  (ho:o.op=.call { callee:=.builtin .append,args:=#[s,x],argTypes:=#[t,t] })
  {e e':TypeId} (T:lU P t e z bytes) {v:Value} (gG:wr.ownsRow W0.heap.size e 1 v n xs) (hb:Below W0.heap.size W0 wr)
  (u u2:Value) (hu:u.oneCell'=true) (ow:u2.oneCell'=true) (hs:a.eval s=v) (hx:a.eval x=.slice (some ⟨wr.heap.size,0,none⟩) 2 2) (hn:n+1<1000000000)
  (h:∀ v' w',w'.ownsRow W0.heap.size e 1 v' (n+2) (xs++[u,u2])→Below W0.heap.size W0 w'→(wr.alloc (.cells #[u,u2] e')).grownBy w' v.ownBlock→(v'.ownBlock=v.ownBlock∨v'.ownBlock=some (wr.heap.size+1))→(∃ ad cap,v'=.slice ad (n+2) cap)→wpList P ops Q rest (a.put o.dst v') w') :
  wpList P ops Q (o :: rest) a (wr.alloc (.cells #[u,u2] e')):=by
 obtain ⟨i0,hi,dc,bM,eY⟩:=info_parts T.info;have dn:=hb.size;refine wpList_append_own_at (wr.alloc (.cells #[u,u2] e')) cD s x t ho W0.heap.size e i0 z 1 bytes T.ty hi dc bM eY T.zc (by decide) v n xs hs (gG.alloc _) ⟨wr.heap.size,0,none⟩ 2 2 [u,u2] hx rfl (UZ _ _ _ _) (by simp; exact ⟨hu,ow⟩) (by unfold maxLen; omega) ?_ (by simp; omega) ?_
 ·have:(n+2)*bytes≤1000000000*64:=Nat.mul_le_mul (by omega) T.small
  omega
 ·intro v' w' h1 h2 h3 h4
  refine h v' w' h1 ((hb.alloc dn _).grown h2 (by simp; omega) (fun k hk=>(gG.lt k hk).1)) h2 (by simpa using h4) ?_;obtain ⟨_,hv⟩:=h1
  rcases hv with ⟨hv,Bz⟩ | ⟨g,cap,cur,hv,_⟩
  ·omega
  ·exact ⟨_,_,hv⟩
theorem aQ {w:World} {e:TypeId} {size:Nat} {v:Value} (h:w.ownsRow base e size v n xs) (hb:Below w.heap.size w w'):w'.ownsRow base e size v n xs :=
 h.kept (row:=none) ⟨hb.os,hb.tape,hb.output,hb.size,fun i hi _=>hb.block i hi⟩ (by cases v.ownBlock <;> simp)
def fG (v1 v2:Value):Prop:=∀ b,v1.ownBlock=some b→v2.ownBlock≠some b
theorem fG.nil (v:Value):fG (.slice none 0 0) v:=fun b h=>by simp [Value.ownBlock] at h
theorem fG.symm (h:fG v1 v2):fG v2 v1:=fun b h1 h2=>h b h2 h1
theorem fG.grow {rz:Value} {w:World} {e:TypeId} {size g:Nat} (h:fG v1 v2) (ho:w.ownsRow base e size v2 n xs) (hv:rz.ownBlock=v1.ownBlock∨rz.ownBlock=some g) (hg:w.heap.size≤g):fG rz v2:=fun b h1 h2=>by
 rcases hv with hv | hv
 ·exact h b (hv▸h1) h2
 ·have:=(ho.lt b h2).2
  rw [hv] at h1; simp at h1; omega
theorem fG.keep {w:World} {e:TypeId} {size:Nat} (h:fG v1 v2) (ho:w.ownsRow base e size v2 n xs) (hg:w.grownBy w' v1.ownBlock):w'.ownsRow base e size v2 n xs:=by
 refine ho.kept hg ?_
 cases hv:v2.ownBlock with
 | none=>exact .inl rfl
 | some b=>exact .inr (fun e=>h b e.symm hv)
def jU (w:World) (us:List Value) (gs:List (List Nat)):Prop:=us.length=gs.length∧∀ i (h:i<us.length) (h2:i<gs.length),NP w us[i] gs[i]
theorem jU.nil (w:World):jU w [] []:=⟨rfl,fun i h=>by simp at h⟩
theorem jU.below {w w':World} {us:List Value} {gs:List (List Nat)} (h:jU w us gs) (hb:Below w.heap.size w w'):jU w' us gs:=⟨h.1,fun i a b=>(h.2 i a b).below hb⟩
theorem jU.snoc {w:World} {us:List Value} {u:Value} {g:List Nat} (h:jU w us gs) (hu:NP w u g):jU w (us++[u]) (gs++[g]):=by
 refine ⟨by simp [h.1],fun i a b=>?_⟩;have hl:=h.1
 by_cases hi:i<us.length
 ·rw [List.getElem_append_left hi,List.getElem_append_left (by omega)]; exact h.2 i hi (by omega)
 ·have eE:i=us.length:=by simp at a; omega
  have e1:(us++[u])[i]=u:=by rw [List.getElem_append_right (by omega)]; simp
  have e2:(gs++[g])[i]=g:=by rw [List.getElem_append_right (by omega)]; simp
  rw [e1,e2]; exact hu
theorem jU.rows {w:World} {v:Value} {us:List Value} (h:jU w us gs) (hv:cu w v us):Rows w v (gs.map Ma.ah) :=
 ⟨us,hv,by simp [h.1],fun i a b=>by simp only [List.getElem_map]; exact h.2 i a (by simpa using b)⟩
def kL (us:List Value) (k:Option Nat):Prop:=∀ u∈us,ry u k
theorem kL.nil (k:Option Nat):kL [] k:=fun u h=>by simp at h
theorem kL.snoc {us:List Value} {k:Option Nat} {u:Value} (h:kL us k) (hu:ry u k):kL (us++[u]) k:=fun x hx=>by
 rcases List.mem_append.1 hx with hx | hx
 ·exact h x hx
 ·obtain rfl:x=u:=by simpa using hx
  exact hu
theorem jU.grown {w w':World} {us:List Value} {gs:List (List Nat)} {k:Option Nat} (h:jU w us gs) (ho:kL us k) (hg:w.grownBy w' k):jU w' us gs :=
 ⟨h.1,fun i a b=>(h.2 i a b).grown (ho _ (List.getElem_mem a)) hg⟩
theorem kL.next {w:World} {us:List Value} {gs:List (List Nat)} {k k':Option Nat} {g:Nat} (h:kL us k) (he:jU w us gs) (hk:k'=k∨k'=some g) (hg:w.heap.size≤g):kL us k':=fun u hu=>by
 obtain ⟨i,hi,rfl⟩:=List.getElem_of_mem hu;exact (h _ hu).next (he.2 i hi (by rw [← he.1]; exact hi)) hk hg
def iU (w:World) (v:Value) (gs:List (List Nat)):Prop:=Rows w v (gs.map Ma.ah)
theorem iU.below {w w':World} {v:Value} {gs:List (List Nat)} (h:iU w v gs) (hb:Below w.heap.size w w'):iU w' v gs:=Rows.below h hb
theorem iU.shape {w:World} {v:Value} {gs:List (List Nat)} (h:iU w v gs) :
  ∃ a cap,v=.slice a gs.length cap∧gs.length≤cap∧gs.length≤1000000000∧cap≤maxLen ∧
  (0<gs.length→∃ b o,a=some ⟨b,o,none⟩∧b<w.heap.size∧∀ i (h:i<gs.length),∃ u,w.cell? ⟨b,o+i,none⟩=some u∧NP w u gs[i]):=by
 obtain ⟨a,cap,h1,h2,h3,h4,h5⟩:=Rows.shape h;rw [List.length_map] at h1 h2 h3;refine ⟨a,cap,h1,h2,h3,h4,fun h0=>?_⟩;obtain ⟨b,o,e1,e2,e3⟩:=h5 (by simpa using h0);refine ⟨b,o,e1,e2,fun i hi=>?_⟩;obtain ⟨u,q1,q2⟩:=e3 i (by simpa using hi);exact ⟨u,q1,by rw [List.getElem_map] at q2; exact q2⟩
theorem NP.len {w:World} {v:Value} {l:List Nat} (h:NP w v l):∃ n a cap,l.length=n∧v=.slice a n cap∧n≤1000000000:=by
 obtain ⟨n,a,cap,h1,h2,h3⟩:=Ints.len h;exact ⟨n,a,cap,by rw [← h1,Ma.aG],h2,h3⟩
theorem ox {P:Program} {ops:Array Oper} {Q:Exit→Act→World→Prop} {i:Nat} {o:Oper} {K:Act→World→Prop} {a:Act} {w:World} {v:Value} (d:Option Tmp) (hi:ops[i]?=some o) (hd:o.dst=d) (hw:Region.wanted o (yielded ops a.tmps)=true)
  (hr:(execOp a.eval o).run P w=.ok (.value v) w') (h:K (a.put d v) w'):wpOp P ops Q i K a w:=by
 subst hd;unfold wpOp;simp only [hi,hw,if_true]
 left
 unfold Oper.wp;rw [hr];exact h
theorem vN {P:Program} {ops:Array Oper} {Q:Exit→Act→World→Prop} {i:Nat} {o:Oper} {K:Act→World→Prop} {a:Act} {w:World} (d:Option Tmp) (hi:ops[i]?=some o) (hd:o.dst=d) (hw:Region.wanted o (yielded ops a.tmps)=true)
  (hr:(execOp a.eval o).run P w=.ok .skip w') (h:K (a.put d undef) w'):wpOp P ops Q i K a w:=by
 subst hd;unfold wpOp;simp only [hi,hw,if_true]
 left
 unfold Oper.wp;rw [hr];exact h
theorem zU {P:Program} {o:Oper} {a:Act} {w:World} (t:TypeId) (m k x:Operand) (ho:o.op=.insert t m k x) (mv kv xv:Value) (hm:a.eval m=mv) (hk:a.eval k=kv) (hx:a.eval x=xv)
  (hr:(Instr.mapUpdate t mv kv xv).run P w=.ok () w'):(execOp a.eval o).run P w=.ok .skip w':=by
 unfold execOp;simp [ho,hm,hk,hx,hr,Result.andThen]
theorem aC {P:Program} {o:Oper} {a:Act} {w:World} {v:Value} (t:TypeId) (n:Nat) (x:Operand) (ho:o.op=.buildSlice t n #[(0,x)]) (xv:Value) (hx:a.eval x=xv)
  (hr:(Instr.buildSlice t n #[(0,xv)]).run P w=.ok v w'):(execOp a.eval o).run P w=.ok (.value v) w':=by
 unfold execOp;simp [ho,hx,hr,Result.andThen]
theorem fH {P:Program} {o:Oper} {a:Act} {w:World} {v:Value} (x:Operand) (ho:o.op=.assign x) (hx:a.eval x=v):(execOp a.eval o).run P w=.ok (.value v) w:=by
 unfold execOp;simp [ho,hx]
theorem cM {P:Program} {o:Oper} {a:Act} {w:World} {v:Value} (x:Operand) (ho:o.op=.move x) (hx:a.eval x=v):(execOp a.eval o).run P w=.ok (.value v) w:=by
 unfold execOp;simp [ho,hx]
theorem ba {P:Program} {o:Oper} {a:Act} {w:World} {cs:Array Value} (t:TypeId) (x:Operand) (ho:o.op=.box t x) (hx:a.eval x=.agg cs) :
  (execOp a.eval o).run P w=.ok (.value (.pointer (some ⟨w.heap.size,0,none⟩))) (w.alloc (.cells cs t)):=by
 unfold execOp;simp [ho,hx,Instr.box,newVar,newRow,Value.cells,Result.andThen]
theorem bY {w:World} {e:TypeId} {size:Nat} {v:Value} (h:w.ownsRow base e size v n xs):∃ a cap,v=.slice a n cap:=by
 obtain ⟨_,hv⟩:=h
 rcases hv with ⟨hv,Bz⟩ | ⟨g,cap,cur,hv,_⟩
 ·exact ⟨none,0,by rw [hv,Bz]⟩
 ·exact ⟨_,_,hv⟩
end Go.Proofs.Rg

namespace Go.Proofs.Rg
theorem _root_.a8 (v : Value) {P : Program} {o : Oper} {a : Act} {w : World} (x : Operand) (ho : o.op = .move x) (hx : a.eval x = v) : (execOp a.eval o).run P w = .ok (.value v) w := cM (v := v) x ho hx
theorem _root_.b5 (v : Value) {P : Program} {o : Oper} {a : Act} {w : World} (x : Operand) (ho : o.op = .assign x) (hx : a.eval x = v) : (execOp a.eval o).run P w = .ok (.value v) w := fH (v := v) x ho hx
theorem _root_.b6 {P : Program} {ops : Array Oper} {Q : Exit → Act → World → Prop} {a : Act} {w : World} {id : Nat} (h : wpList P ops Q ops.toList a w) : (Code.region id ops false).wp P Q a w := wp_region_list h
end Go.Proofs.Rg
theorem ι {p : Prop} (h : p) : Go.RowKit.Hid p := h

namespace Go.Proofs.Jm
open Go Go.RowKit
open Go.ChangeMaps
structure KT (P:Program) (t k e v:TypeId) (z:Value):Prop where
 ht:P.underlying t=some (.map k v)
 hk:P.underlying k=some (.array 2 e)
 he:P.underlying e=some (.int .i64)
 hs:∀ w,(sizeOf e).run P w=.ok 1 w
 hz:∀ w,(zeroValue v).run P w=.ok z w
def dU (l:Nat × Nat):Value:=.agg #[.int .i64 ((l.1:Nat):Int),.int .i64 ((l.2:Nat):Int)]
def d_ (w:World) (r:Nat) (m:List ((Nat × Nat) × Value)):Prop :=
 ∃ es clock,w.heap[r]?=some (.map es clock)∧es.toList.map (fun e=>(e.key,e.val))=m.map (fun x=>(dU x.1,x.2))
theorem d_.lt {w:World} {r:Nat} {m:List ((Nat × Nat) × Value)} (h:d_ w r m):r<w.heap.size:=by
 obtain ⟨es,c,h1,_⟩:=h; exact (Array.getElem?_eq_some_iff.1 h1).1
theorem d_.of_block {w:World} {r:Nat} {m:List ((Nat × Nat) × Value)} (h:d_ w r m) (e:w'.heap[r]?=w.heap[r]?):d_ w' r m:=by
 obtain ⟨es,c,h1,h2⟩:=h; exact ⟨es,c,e.trans h1,h2⟩
theorem d_.below {w:World} {r:Nat} {m:List ((Nat × Nat) × Value)} (h:d_ w r m) (hb:Below w.heap.size w w'):d_ w' r m:=h.of_block (hb.block r h.lt)
theorem d_.new (w:World):d_ (w.alloc (.map #[] 0)) w.heap.size []:=⟨#[],0,by unfold World.alloc; simp,rfl⟩
def look (m:List ((Nat × Nat) × Value)) (k:Nat × Nat):Option Value:=(m.find? (fun x=>k == x.1)).map (·.2)
section
variable {P:Program} {t k e v:TypeId} {z:Value}
theorem Kv (T:KT P t k e v z) (x y:Value) (w:World):(part e #[x,y] (0*1)).run P w=.ok x w:=by
 simp [part,isAgg,run_underlying T.he]
theorem Kw (T:KT P t k e v z) (x y:Value) (w:World):(part e #[x,y] ((0+1)*1)).run P w=.ok y w:=by
 simp [part,isAgg,run_underlying T.he]
theorem dp (T:KT P t k e v z) (em:Bool) (xs:Nat × Nat) (w:World):(Instr.checkKey em 10000 k (dU xs)).run P w=.ok () w:=by
 rw [show (10000:Nat)=9999+1 from rfl,dU,Instr.checkKey];simp only [Sem.run_bind,run_underlying T.hk,Result.andThen_ok,Std.Legacy.Range.forIn_eq_forIn_range',Std.Legacy.Range.size,List.range',List.forIn_cons,List.forIn_nil]
 have pc:∀ (x:Int) w,(Instr.checkKey em 9999 e (.int .i64 x)).run P w=.ok () w:=fun x w=>by
  rw [show (9999:Nat)=9998+1 from rfl,Instr.checkKey];simp [Sem.run_bind,run_underlying T.he]
 simp only [Sem.run_bind,T.hs,Kv T,Kw T,pc,Result.andThen_ok,Sem.run_pure]
theorem Ky (T:KT P t k e v z) (d:Nat) (a b:Nat × Nat) (W:World):(Op.equalIn (d+1+1) k (dU a) (dU b)).run P W=.ok (a == b) W:=by
 have h1:∀ (x y:Int) (w:World),(Op.equalIn (d+1) e (.int .i64 x) (.int .i64 y)).run P w=.ok (x == y) w:=fun x y w=>run_equalIn_int w d e .i64 .i64 x y T.he;rw [dU,dU,Op.equalIn,Sem.run_bind,run_underlying T.hk];simp only [Result.andThen_ok];rw [Sem.run_bind,T.hs];simp only [Result.andThen_ok,Std.Legacy.Range.forIn_eq_forIn_range',Std.Legacy.Range.size,List.range',List.forIn_cons,List.forIn_nil];simp only [Sem.run_bind,Kv T,h1,Result.andThen_ok]
 have e0:(a == b)=((((a.1:Nat):Int) == ((b.1:Nat):Int)) && (((a.2:Nat):Int) == ((b.2:Nat):Int))):=by
  rw [Bool.eq_iff_iff];simp only [beq_iff_eq,Bool.and_eq_true]
  constructor
  ·rintro rfl; exact ⟨rfl,rfl⟩
  ·rintro ⟨e1,e2⟩
   exact Prod.ext (by omega) (by omega)
 rw [e0];generalize ((a.1:Nat):Int)=a1;generalize ((a.2:Nat):Int)=a2;generalize ((b.1:Nat):Int)=b1;generalize ((b.2:Nat):Int)=b2
 cases (a1 == b1)
 ·simp [Sem.run_pure,Result.andThen]
 ·by_cases e:a2=b2 <;> simp [Sem.run_bind,Sem.run_pure,Result.andThen,Kw T,h1,e]
theorem kM (T:KT P t k e v z) (w:World) (kb:Nat × Nat):∀ (es:List MapEntry) (m:List ((Nat × Nat) × Value)) (i:Nat),
  es.map (fun e=>(e.key,e.val))=m.map (fun x=>(dU x.1,x.2)) →
  ∃ r,(Instr.findAsking k (dU kb) es i).run P w=.ok r w∧r.map (·.2)=look m kb
 | [],m,i,h=>by
  obtain rfl:m=[]:=by cases m; rfl; simp at h
  exact ⟨none,by simp [Instr.findAsking],rfl⟩
 | e0 :: es,m,i,h=>by
  cases m with
  | nil=>simp at h
  | cons x m =>
   simp only [List.map_cons,List.cons.injEq,Prod.mk.injEq] at h;obtain ⟨⟨h1,h2⟩,h3⟩:=h
   have pe:(Op.equal k (dU kb) e0.key).run P w=.ok (kb == x.1) w:=by
    rw [h1,Op.equal,Op.maxDepth];exact Ky T 9998 kb x.1 w
   obtain ⟨r,hr,iV⟩:=kM T w kb es m (i+1) h3;rw [Instr.findAsking];simp only [Sem.run_bind,pe,Result.andThen_ok]
   cases hq:(kb == x.1)
   ·refine ⟨r,by simpa using hr,?_⟩
    rw [iV]; simp [look,hq]
   ·refine ⟨some (i,e0.val),by simp,?_⟩
    simp [look,hq,h2]
theorem gH (T:KT P t k e v z) (w:World) (kb:Nat × Nat) (es:List MapEntry) (m:List ((Nat × Nat) × Value))
  (h:es.map (fun e=>(e.key,e.val))=m.map (fun x=>(dU x.1,x.2))) :
  ∃ r,(Instr.findKey k (dU kb) es).run P w=.ok r w∧r.map (·.2)=look m kb:=by
 unfold Instr.findKey;simp only [Sem.run_bind,run_underlying T.hk,Result.andThen_ok]
 cases es with
 | nil =>
  obtain rfl:m=[]:=by cases m; rfl; simp at h
  exact ⟨none,by simp [Instr.findNow],rfl⟩
 | cons e0 es =>
  have:Instr.findNow (.array 2 e) (dU kb) (e0 :: es) 0=none:=by simp [Instr.findNow,Instr.sameNow]
  rw [this];exact kM T w kb _ m 0 h
theorem jD (T:KT P t k e v z) {w:World} {r:Nat} {m:List ((Nat × Nat) × Value)} (h:d_ w r m) (kb:Nat × Nat) :
  (Instr.lookup t (.map (some r)) (dU kb) true).run P w=.ok (.tuple #[(look m kb).getD z,.bool (look m kb).isSome]) w:=by
 obtain ⟨es,c,h1,h2⟩:=h;obtain ⟨q,hq,gV⟩:=gH T w kb es.toList m h2
 cases q with
 | none =>
  have:look m kb=none:=by rw [← gV]; rfl
  simp [Instr.lookup,run_underlying T.ht,MapKept.run_getObj_map h1,dp T _ kb,hq,T.hz,Result.andThen,this]
 | some x =>
  have:look m kb=some x.2:=by rw [← gV]; rfl
  simp [Instr.lookup,run_underlying T.ht,MapKept.run_getObj_map h1,dp T _ kb,hq,Result.andThen,this]
theorem jE (T:KT P t k e v z) {w:World} {r:Nat} {m:List ((Nat × Nat) × Value)} (h:d_ w r m) (kb:Nat × Nat) :
  (Instr.lookup t (.map (some r)) (dU kb) false).run P w=.ok ((look m kb).getD z) w:=by
 obtain ⟨es,c,h1,h2⟩:=h;obtain ⟨q,hq,gV⟩:=gH T w kb es.toList m h2
 cases q with
 | none =>
  have:look m kb=none:=by rw [← gV]; rfl
  simp [Instr.lookup,run_underlying T.ht,MapKept.run_getObj_map h1,dp T _ kb,hq,T.hz,Result.andThen,this]
 | some x =>
  have:look m kb=some x.2:=by rw [← gV]; rfl
  simp [Instr.lookup,run_underlying T.ht,MapKept.run_getObj_map h1,dp T _ kb,hq,Result.andThen,this]
theorem oy (T:KT P t k e v z) {w:World} {r:Nat} {m:List ((Nat × Nat) × Value)} (h:d_ w r m) (kb:Nat × Nat) (lC:look m kb=none) (val:Value) :
  ∃ w',(Instr.mapUpdate t (.map (some r)) (dU kb) val).run P w=.ok () w'∧d_ w' r (m++[(kb,val)])∧w.grownBy w' (some r):=by
 obtain ⟨es,c,h1,h2⟩:=h;obtain ⟨q,hq,gV⟩:=gH T w kb es.toList m h2;rw [lC] at gV
 have:q=none:=by cases q; rfl; simp at gV
 subst this;refine ⟨setBlock w r (.map (es.push ⟨dU kb,val,c⟩) (c+1)),?_,⟨_,_,heap_setBlock_same h1 _,?_⟩,⟨rfl,rfl,rfl,by simp [setBlock],fun i _ hi=>heap_setBlock_other h1 _ (fun e=>hi (by rw [e]))⟩⟩
 ·simp [Instr.mapUpdate,run_underlying T.ht,MapKept.run_getObj_map h1,dp T _ kb,hq,MapKept.run_setObj_map _ h1,Result.andThen,setBlock]
 ·simp [h2]
end
end Go.Proofs.Jm

namespace Go.Proofs.Rg
open Go Go.RowKit
theorem nh {P:Program} {o:Oper} {a:Act} {w:World} {v:Value} (t:TypeId) (x:Operand) (ho:o.op=.load t x) (ad:Addr) (hx:a.eval x=.pointer (some ad)) (hr:(loadVar t ad).run P w=.ok v w) :
  (execOp a.eval o).run P w=.ok (.value v) w:=by
 unfold execOp;simp only [ho,hx,Instr.loadAt,Instr.sureAddr,Sem.run_bind,Sem.run_pure,Result.andThen_ok,hr]
theorem eP {P:Program} {o:Oper} {a:Act} {w:World} {v:Value} (t:TypeId) (m k:Operand) (ok:Bool) (ho:o.op=.lookup t m k ok) (mv kv:Value) (hm:a.eval m=mv) (hk:a.eval k=kv)
  (hr:(Instr.lookup t mv kv ok).run P w=.ok v w):(execOp a.eval o).run P w=.ok (.value v) w:=by
 unfold execOp;simp only [ho,hm,hk,Sem.run_bind,Sem.run_pure,Result.andThen_ok,hr]
theorem sY {P:Program} {ops:Array Oper} {rest:List Oper} {o:Oper} {a:Act} {w:World} {Q:Exit→Act→World→Prop} {v:Value} (d:Option Tmp) (hg:o.guard=none) (hd:o.dst=d)
  (hr:(execOp a.eval o).run P w=.ok (.value v) w') (h:wpList P ops Q rest (a.put d v) w'):wpList P ops Q (o :: rest) a w:=by
 subst hd;refine wpList_plain hg fun K hK=>?_;unfold Oper.wp;rw [hr];exact hK _ _ h
theorem aF {P:Program} {ops:Array Oper} {rest:List Oper} {o:Oper} {a:Act} {w:World} {Q:Exit→Act→World→Prop} (d:Option Tmp) (hg:o.guard=none) (hd:o.dst=d)
  (hr:(execOp a.eval o).run P w=.ok .skip w') (h:wpList P ops Q rest (a.put d undef) w'):wpList P ops Q (o :: rest) a w:=by
 subst hd;refine wpList_plain hg fun K hK=>?_;unfold Oper.wp;rw [hr];exact hK _ _ h
theorem uM {P:Program} {o:Oper} {a:Act} {w:World} (t:TypeId) (m k x:Operand) (ho:o.op=.mapUpdate t m k x) (mv kv xv:Value) (hm:a.eval m=mv) (hk:a.eval k=kv) (hx:a.eval x=xv)
  (hr:(Instr.mapUpdate t mv kv xv).run P w=.ok () w'):(execOp a.eval o).run P w=.ok .skip w':=by
 unfold execOp;simp [ho,hm,hk,hx,hr,Result.andThen]
end Go.Proofs.Rg

namespace Go.Proofs.Rg
open Go.RowKit
theorem _root_.b7 {P : Program} {ops : Array Oper} {rest : List Oper} {o : Oper} {a : Act} {w:World} {Q : Exit → Act → World → Prop} {v : Value} (d : Nat)
    (hr : (execOp a.eval o).run P w = .ok (.value v) w') (h : wpList P ops Q rest (a.put (some d) v) w') (hg : o.guard = none := by exact rfl) (hd : o.dst = some d := by exact rfl) : wpList P ops Q (o :: rest) a w := sY (some d) hg hd hr h
theorem _root_.b8 {P : Program} {ops : Array Oper} {rest : List Oper} {o : Oper} {a : Act} {w : World} {Q : Exit → Act → World → Prop} (d : Nat) (v : Value)
    (h : wpList P ops Q rest (a.put (some d) v) w) {x : Operand} (ho : o.op = .move x := by exact rfl) (hx : a.eval x = v := by exact rfl) (hg : o.guard = none := by exact rfl) (hd : o.dst = some d := by exact rfl) : wpList P ops Q (o :: rest) a w := sY (some d) hg hd (cM (v := v) x ho hx) h
theorem _root_.b9 {P : Program} {ops : Array Oper} {rest : List Oper} {o : Oper} {a : Act} {w : World} {Q : Exit → Act → World → Prop} (d : Nat) (v : Value)
    (h : wpList P ops Q rest (a.put (some d) v) w) {x : Operand} (ho : o.op = .assign x := by exact rfl) (hx : a.eval x = v := by exact rfl) (hg : o.guard = none := by exact rfl) (hd : o.dst = some d := by exact rfl) : wpList P ops Q (o :: rest) a w := sY (some d) hg hd (fH (v := v) x ho hx) h
end Go.Proofs.Rg

namespace Go.Proofs.Rg
open Go Go.RowKit
structure Kp (M:Nat→Prop) (w w':World):Prop where
 os:w'.os=w.os
 tape:w'.tape=w.tape
 output:w'.output=w.output
 size:w.heap.size≤w'.heap.size
 block:∀ k,k<w.heap.size→¬ M k→w'.heap[k]?=w.heap[k]?
theorem Kp.refl (M:Nat→Prop) (w:World):Kp M w w:=⟨rfl,rfl,rfl,Nat.le_refl _,fun _ _ _=>rfl⟩
theorem Kp.aK {w:World} (h:Below w.heap.size w w'):Kp M w w':=⟨h.os,h.tape,h.output,h.size,fun k hk _=>h.block k hk⟩
theorem Kp.cH {w:World} {row:Option Nat} (h:w.grownBy w' row) (hM:∀ k,row=some k→M k):Kp M w w' :=
 ⟨h.os,h.tape,h.output,h.size,fun k hk hn=>h.block k hk (fun e=>hn (hM k e.symm))⟩
theorem Kp.aS {w:World} {a:Addr} {v:Value} (hM:M a.block):Kp M w (w.setCell a v) :=
 ⟨rfl,rfl,rfl,by simp [World.setCell],fun k _ hn=>Below.heap_setCell _ _ _ _ (fun e=>hn (e▸hM))⟩
theorem Kp.trans {M M':Nat→Prop} {w w' w'':World} (h:Kp M w w') (h':Kp M' w' w'') (hM:∀ k,k<w.heap.size→M' k→M k):Kp M w w'' :=
 ⟨h'.os.trans h.os,h'.tape.trans h.tape,h'.output.trans h.output,Nat.le_trans h.size h'.size,
  fun k hk hn=>(h'.block k (Nat.lt_of_lt_of_le hk h.size) (fun e=>hn (hM k hk e))).trans (h.block k hk hn)⟩
theorem Kp.fN {M':Nat→Prop} {w:World} (h:Kp M w w') (hM:∀ k,M k→M' k):Kp M' w w':=⟨h.os,h.tape,h.output,h.size,fun k hk hn=>h.block k hk (fun e=>hn (hM k e))⟩
theorem Kp.below {w:World} (hb:Below w0.heap.size w0 w) (h:Kp M w w') (hM:∀ k,M k→w0.heap.size≤k):Below w0.heap.size w0 w' :=
 hb.trans ⟨h.os,h.tape,h.output,h.size,fun k hk=>h.block k (Nat.lt_of_lt_of_le hk hb.size) (fun e=>by have:=hM k e; omega)⟩
def dK (F:Nat→Prop) (w:World) (v:Value) (us:List Value):Prop :=
 ∃ a cap,v=.slice a us.length cap∧us.length≤cap∧cap≤maxLen∧us.length≤1000000000 ∧
  (0<us.length→∃ b o,a=some ⟨b,o,none⟩∧b<w.heap.size∧F b∧∀ i (h:i<us.length),w.cell? ⟨b,o+i,none⟩=some us[i])
def FI (F:Nat→Prop) (w:World) (v:Value) (l:List Int):Prop:=dK F w v (l.map (Value.int .i64))
def br (F:Nat→Prop) (w:World) (us:List Value) (ll:List (List Int)):Prop:=us.length=ll.length∧∀ i (h:i<us.length) (h2:i<ll.length),FI F w us[i] ll[i]
def bs (F:Nat→Prop) (w:World) (v:Value) (ll:List (List Int)):Prop:=∃ us,dK F w v us∧br F w us ll
def bN (F:Nat→Prop) (w:World) (us:List Value) (ll:List (List (List Int))):Prop:=us.length=ll.length∧∀ i (h:i<us.length) (h2:i<ll.length),bs F w us[i] ll[i]
theorem dK.kp {w:World} {v:Value} {us:List Value} (h:dK F w v us) (hk:Kp M w w') (hM:∀ k,F k→¬ M k):dK F w' v us:=by
 obtain ⟨a,cap,h1,h2,h3,h4,h5⟩:=h;refine ⟨a,cap,h1,h2,h3,h4,fun h0=>?_⟩;obtain ⟨b,o,e1,e2,e3,e4⟩:=h5 h0;exact ⟨b,o,e1,Nat.lt_of_lt_of_le e2 hk.size,e3,fun i hi=>(World.cell?_of_block (w:=w) (a:=⟨b,o+i,none⟩) (hk.block b e2 (hM b e3))).trans (e4 i hi)⟩
theorem dK.mono {w:World} {v:Value} {us:List Value} (h:dK F w v us) (hF:∀ k,F k→F' k):dK F' w v us:=by
 obtain ⟨a,cap,h1,h2,h3,h4,h5⟩:=h;refine ⟨a,cap,h1,h2,h3,h4,fun h0=>?_⟩;obtain ⟨b,o,e1,e2,e3,e4⟩:=h5 h0;exact ⟨b,o,e1,e2,hF b e3,e4⟩
theorem dK.zd {w:World} {v:Value} {us:List Value} (h:dK F w v us):cu w v us:=by
 obtain ⟨a,cap,h1,h2,h3,h4,h5⟩:=h;refine ⟨a,cap,h1,h2,h3,h4,fun h0=>?_⟩;obtain ⟨b,o,e1,e2,e3,e4⟩:=h5 h0;exact ⟨b,o,e1,e2,e4⟩
theorem dK.of {w:World} {v:Value} {us:List Value} (h:cu w v us) (hF:∀ b,v.ownBlock=some b→F b):dK F w v us:=by
 obtain ⟨a,cap,h1,h2,h3,h4,h5⟩:=h;refine ⟨a,cap,h1,h2,h3,h4,fun h0=>?_⟩;obtain ⟨b,o,e1,e2,e4⟩:=h5 h0;exact ⟨b,o,e1,e2,hF b (by rw [h1,e1]; rfl),e4⟩
theorem dK.shape {w:World} {v:Value} {us:List Value} (h:dK F w v us):∃ a cap,v=.slice a us.length cap:=by
 obtain ⟨a,cap,h1,_⟩:=h; exact ⟨a,cap,h1⟩
theorem FI.kp {F M:Nat→Prop} {w w':World} {v:Value} {l:List Int} (h:FI F w v l) (hk:Kp M w w') (hM:∀ k,F k→¬ M k):FI F w' v l:=dK.kp h hk hM
theorem FI.mono {F F':Nat→Prop} {w:World} {v:Value} {l:List Int} (h:FI F w v l) (hF:∀ k,F k→F' k):FI F' w v l:=dK.mono h hF
theorem FI.ints {w:World} {v:Value} (h:FI F w v l):Ints w v l:=dK.zd h
theorem FI.len {F:Nat→Prop} {w:World} {v:Value} {l:List Int} (h:FI F w v l):∃ n a cap,l.length=n∧v=.slice a n cap∧n≤1000000000:=Ints.len h.ints
theorem br.kp {F M:Nat→Prop} {w w':World} {us:List Value} {ll:List (List Int)} (h:br F w us ll) (hk:Kp M w w') (hM:∀ k,F k→¬ M k):br F w' us ll:=⟨h.1,fun i a b=>(h.2 i a b).kp hk hM⟩
theorem br.mono {F F':Nat→Prop} {w:World} {us:List Value} {ll:List (List Int)} (h:br F w us ll) (hF:∀ k,F k→F' k):br F' w us ll:=⟨h.1,fun i a b=>(h.2 i a b).mono hF⟩
theorem br.nil (F:Nat→Prop) (w:World):br F w [] []:=⟨rfl,fun i h=>by simp at h⟩
theorem br.app {w:World} {us:List Value} {mm:List (List Int)} (h:br F w us ll) (h':br F w vs mm):br F w (us++vs) (ll++mm):=by
 refine ⟨by simp [h.1,h'.1],fun i a b=>?_⟩;have hl:=h.1
 by_cases hi:i<us.length
 ·rw [List.getElem_append_left hi,List.getElem_append_left (by omega)]; exact h.2 i hi (by omega)
 ·have sZ:¬ i<ll.length:=by omega
  rw [List.getElem_append_right (by omega),List.getElem_append_right (by omega)];have:=h'.2 (i - us.length) (by simp at a; omega) (by simp at b; omega);simp only [hl] at this ⊢;exact this
theorem br.one {w:World} {u:Value} (h:FI F w u l):br F w [u] [l]:=by
 refine ⟨rfl,fun i a b=>?_⟩
 have:i=0:=by simpa using a
 subst this; exact h
theorem br.take {F:Nat→Prop} {w:World} {us:List Value} {ll:List (List Int)} (h:br F w us ll) (k:Nat):br F w (us.take k) (ll.take k):=by
 refine ⟨by simp [h.1],fun i a b=>?_⟩;rw [List.getElem_take,List.getElem_take];exact h.2 i (by simp at a; omega) (by simp at b; omega)
theorem br.drop {F:Nat→Prop} {w:World} {us:List Value} {ll:List (List Int)} (h:br F w us ll) (k:Nat):br F w (us.drop k) (ll.drop k):=by
 refine ⟨by simp [h.1],fun i a b=>?_⟩;rw [List.getElem_drop,List.getElem_drop];exact h.2 (k+i) (by simp at a; omega) (by simp at b; omega)
theorem bs.kp {F M:Nat→Prop} {w w':World} {v:Value} {ll:List (List Int)} (h:bs F w v ll) (hk:Kp M w w') (hM:∀ k,F k→¬ M k):bs F w' v ll:=by
 obtain ⟨us,h1,h2⟩:=h; exact ⟨us,h1.kp hk hM,h2.kp hk hM⟩
theorem bs.mono {F F':Nat→Prop} {w:World} {v:Value} {ll:List (List Int)} (h:bs F w v ll) (hF:∀ k,F k→F' k):bs F' w v ll:=by
 obtain ⟨us,h1,h2⟩:=h; exact ⟨us,h1.mono hF,h2.mono hF⟩
theorem bs.rows {w:World} {v:Value} (h:bs F w v ll):Rows w v ll:=by
 obtain ⟨us,h1,h2⟩:=h; exact ⟨us,h1.zd,h2.1,fun i a b=>(h2.2 i a b).ints⟩
theorem bs.shape {w:World} {v:Value} (h:bs F w v ll) :
  ∃ a cap,v=.slice a ll.length cap∧ll.length≤cap∧ll.length≤1000000000 ∧
  (0<ll.length→∃ b o,a=some ⟨b,o,none⟩∧b<w.heap.size∧F b∧∀ i (h:i<ll.length),∃ u,w.cell? ⟨b,o+i,none⟩=some u∧FI F w u ll[i]):=by
 obtain ⟨us,⟨a,cap,h1,h2,h3,h4,h5⟩,hl,h6⟩:=h;rw [hl] at h1 h2 h4;refine ⟨a,cap,h1,h2,h4,fun h0=>?_⟩;obtain ⟨b,o,e1,e2,e3,e4⟩:=h5 (by omega);exact ⟨b,o,e1,e2,e3,fun i hi=>⟨us[i],e4 i (by omega),h6 i (by omega) hi⟩⟩
theorem bN.kp {F M:Nat→Prop} {w w':World} {us:List Value} {ll:List (List (List Int))} (h:bN F w us ll) (hk:Kp M w w') (hM:∀ k,F k→¬ M k):bN F w' us ll:=⟨h.1,fun i a b=>(h.2 i a b).kp hk hM⟩
theorem bN.mono {F F':Nat→Prop} {w:World} {us:List Value} {ll:List (List (List Int))} (h:bN F w us ll) (hF:∀ k,F k→F' k):bN F' w us ll:=⟨h.1,fun i a b=>(h.2 i a b).mono hF⟩
theorem bN.snoc {w:World} {us:List Value} {ll:List (List (List Int))} {u:Value} {m:List (List Int)} (h:bN F w us ll) (hu:bs F w u m):bN F w (us++[u]) (ll++[m]):=by
 refine ⟨by simp [h.1],fun i a b=>?_⟩;have hl:=h.1
 by_cases hi:i<us.length
 ·rw [List.getElem_append_left hi,List.getElem_append_left (by omega)]; exact h.2 i hi (by omega)
 ·have eE:i=us.length:=by simp at a; omega
  subst eE
  have e1:(us++[u])[us.length]=u:=by rw [List.getElem_append_right (Nat.le_refl _)]; simp
  have e2:(ll++[m])[us.length]'b=m:=by
   have:us.length=ll.length:=hl;rw [List.getElem_append_right (by omega)]; simp
  rw [e1,e2]; exact hu
theorem FI.By {w:World} {v:Value} (h:Ints w v l):FI (fun k=>k<w.heap.size) w v l:=by
 obtain ⟨a,cap,h1,h2,h3,h4,h5⟩:=h;refine ⟨a,cap,h1,h2,h3,h4,fun h0=>?_⟩;obtain ⟨b,o,e1,e2,e4⟩:=h5 h0;exact ⟨b,o,e1,e2,e2,e4⟩
theorem bs.By {w:World} {v:Value} {ll:List (List Int)} (h:Rows w v ll):bs (fun k=>k<w.heap.size) w v ll:=by
 obtain ⟨us,⟨a,cap,h1,h2,h3,h4,h5⟩,h6,h7⟩:=h;refine ⟨us,⟨a,cap,h1,h2,h3,h4,fun h0=>?_⟩,h6,fun i p q=>FI.By (h7 i p q)⟩;obtain ⟨b,o,e1,e2,e4⟩:=h5 h0;exact ⟨b,o,e1,e2,e2,e4⟩
theorem IY {w:World} {e:TypeId} {v:Value} {us:List Value} {L:List (List Int)} (hr:w.ownsRow base e 1 v n us) (he:br F w us L) :
  n=L.length∧∃ a cap,v=.slice a L.length cap∧L.length≤cap∧cap≤maxLen∧(0<L.length→∃ g,a=some ⟨g,0,none⟩∧g<w.heap.size∧∀ i (h:i<L.length),∃ u,w.cell? ⟨g,i,none⟩=some u∧FI F w u L[i]):=by
 have hh:=hr;obtain ⟨h1,h2⟩:=hr
 have hn:n=L.length:=by have:=he.1; omega
 refine ⟨hn,?_⟩;subst hn
 rcases h2 with ⟨rfl,h0⟩ | ⟨g,cap,cur,rfl,hg,hc,h3,h4,h5,h6⟩
 ·exact ⟨none,0,by rw [h0],by omega,by omega,fun h=>by omega⟩
 ·refine ⟨_,cap,rfl,h3,h4,fun _=>⟨g,rfl,(Array.getElem?_eq_some_iff.1 hc).1,fun i hi=>?_⟩⟩
  have eE:i<us.length:=by have:=he.1; omega
  refine ⟨us[i],?_,he.2 i eE hi⟩;have:=hh.cells (g:=g) rfl i us[i] (List.getElem?_eq_getElem eE);unfold Addr.add at this
  split at this
  ·rename_i h0; subst h0; exact this
  ·simpa using this
theorem br.Kz {w:World} {us:List Value} (h:br F w us ll):∀ u∈us,u.oneCell'=true:=fun u hu=>by
 obtain ⟨i,hi,rfl⟩:=List.getElem_of_mem hu;obtain ⟨n,a,c,_,e,_⟩:=(h.2 i hi (by rw [← h.1]; exact hi)).len;rw [e]; rfl
end Go.Proofs.Rg

namespace Go.Proofs.Rg
open Go Go.RowKit
variable {P:Program} {md:Region.Mode} {ops:Array Oper} {Q:Exit→Act→World→Prop} {S:Array Bool→World→Prop}
def Any (P:Program) (md:Region.Mode) (ops:Array Oper) (Q:Exit→Act→World→Prop) (S:Array Bool→World→Prop):Nat→Array Bool→Act→World→Prop
 | 0,l,a,w=>Region.ready md ops l=[]∧Q .normal a w
 | n+1,l,a,w=>(Region.ready md ops l=[]→Q .normal a w) ∧
   ∀ i,i∈Region.ready md ops l→wpOp P ops Q i (fun a' w'=>S (l.setIfInBounds i true) w'∧Any P md ops Q S n (l.setIfInBounds i true) a' w') a w
theorem Any.plain:∀ (n:Nat) (l:Array Bool) (a:Act) (w:World),Any P md ops Q S n l a w→wpAny P md ops Q n l a w
 | 0,_,_,_,h=>h
 | n+1,_,_,_,h=>⟨h.1,fun i hi=>wpOp_mono (fun a' w' q=>Any.plain n _ a' w' q.2) (h.2 i hi)⟩
theorem Any.begin {id:Nat} {a:Act} {w:World} (hm:P.follows .mixedOrders=true) (h:Any P .any ops Q S ops.size (Array.replicate ops.size false) a w.drew):(Code.region id ops true).wp P Q a w :=
 wp_region_any hm (Any.plain _ _ _ _ h)
theorem Any.all {rs:List Nat} {l:Array Bool} {a:Act} {w:World} (hr:Region.ready md ops l=rs) (hne:rs≠[])
  (h:∀ i∈rs,wpOp P ops Q i (fun a' w'=>S (l.setIfInBounds i true) w'∧Any P md ops Q S n (l.setIfInBounds i true) a' w') a w):Any P md ops Q S (n+1) l a w :=
 ⟨fun h0=>absurd (hr▸h0) hne,fun i hi=>h i (hr▸hi)⟩
theorem Any.one {i:Nat} {l:Array Bool} {a:Act} {w:World} (hr:Region.ready md ops l=[i])
  (h:wpOp P ops Q i (fun a' w'=>S (l.setIfInBounds i true) w'∧Any P md ops Q S n (l.setIfInBounds i true) a' w') a w):Any P md ops Q S (n+1) l a w :=
 Any.all hr (by simp) (fun j hj=>by
  obtain rfl:j=i:=by simpa using hj
  exact h)
theorem Any.two {i:Nat} {l:Array Bool} {a:Act} {w:World} (hr:Region.ready md ops l=[i,j])
  (h:wpOp P ops Q i (fun a' w'=>S (l.setIfInBounds i true) w'∧Any P md ops Q S n (l.setIfInBounds i true) a' w') a w)
  (h':wpOp P ops Q j (fun a' w'=>S (l.setIfInBounds j true) w'∧Any P md ops Q S n (l.setIfInBounds j true) a' w') a w):Any P md ops Q S (n+1) l a w :=
 Any.all hr (by simp) (fun k hk=>by
  rw [List.mem_cons,List.mem_singleton] at hk
  rcases hk with rfl | rfl
  ·exact h
  ·exact h')
theorem Any.done {l:Array Bool} {a:Act} {w:World} (hr:Region.ready md ops l=[]) (h:Q .normal a w):∀ n,Any P md ops Q S n l a w
 | 0=>⟨hr,h⟩
 | n+1=>⟨fun _=>h,by rw [hr]; exact fun i hi=>by simp at hi⟩
def ik (t:Nat) (T:World→Prop) (l:Array Bool) (w:World):Prop:=l.getD t false=true∨T w
theorem Any.first {i t:Nat} {oi ot:Oper} {v:Value} {T:World→Prop} (hi:ops[i]?=some oi) (um:∀ (j:Nat) (o:Oper) cs b,ops[j]?=some o→o.op≠.select cs b)
  (hQ:∀ c a w,Q (.panic c) (a.put oi.dst v) w→Q (.panic c) a w) (nW:t≠i) (ht:ops[t]?=some ot) (hw:∃ e∈ot.after,Region.binds md e=true∧e.on=i) :
  ∀ (n:Nat) (l:Array Bool) (a:Act) (w:World),l.getD t false=false →
   (∀ j oj,ops[j]?=some oj→j≠i→l.getD j true=false→(∀ e∈oj.after,Region.binds md e=true→e.on≠i)→oi.apart ops oj=true) →
   i∈Region.ready md ops l→YieldsIf P ops T oi v a→T w →
   Any P md ops Q (ik t T) n (l.setIfInBounds i true) (a.put oi.dst v) w→Any P md ops Q (ik t T) (n+1) l a w:=by
 intro n
 induction n with
 | zero =>
  intro l a w _ _ hr hy hT H;refine ⟨fun h0=>absurd (h0▸hr) (by simp),fun j hj=>?_⟩
  by_cases iW:j=i
  ·subst iW; exact hy.wpOp hi hT ⟨.inr hT,H⟩
  ·have gI:=ready_mono hj iW
   rw [H.1] at gI;simp at gI
 | succ n ih =>
  intro l a w hl oz hr hy hT H;refine ⟨fun h0=>absurd (h0▸hr) (by simp),fun j hj=>?_⟩
  by_cases iW:j=i
  ·subst iW; exact hy.wpOp hi hT ⟨.inr hT,H⟩
  obtain ⟨BA,oj,qd,rA⟩:=mem_ready.1 hj;have ni:=(mem_ready.1 hr).1
  have lC:∀ e∈oj.after,Region.binds md e=true→e.on≠i:=by
   intro e he hb heq;have h1:=rA e he hb;rw [heq] at h1
   by_cases aJ:i<l.size
   ·simp [aJ] at h1 ni; rw [ni] at h1; cases h1
   ·simp [Array.getElem?_eq_none (Nat.le_of_not_lt aJ)] at h1
  have QU:j≠t:=by
   rintro rfl;obtain ⟨e,he,hb,heq⟩:=hw;rw [ht] at qd; cases qd;exact lC e he hb heq
  have nj:=wpOp_putIf qd (oz j oj qd iW BA lC) (fun cs b=>um i oi cs b hi) (fun cs b=>um j oj cs b qd) hQ hy (H.2 j (ready_mono hj iW));refine wpOp_mono (fun a' w' q=>?_) nj;obtain ⟨vO,BB,BC⟩:=q;rw [Array.setIfInBounds_comm _ _ (Ne.symm iW)] at BB BC
  have sZ:(l.setIfInBounds j true).getD i true=false:=by rw [getD_set_ne true iW]; exact ni
  have nX:(l.setIfInBounds j true).getD t false=false:=by rw [getD_set_ne false QU]; exact hl
  have U0:T w':=by
   rcases BB with h | h
   ·rw [getD_set_ne false (Ne.symm nW),nX] at h; cases h
   ·exact h
  refine ⟨.inr U0,ih _ _ _ nX ?_ (ready_mono hr (Ne.symm iW)) vO U0 BC⟩;intro k ok hk my BD BG;refine oz k ok hk my ?_ BG
  by_cases BH:j=k
  ·rw [← BH]; exact BA
  ·rwa [getD_set_ne true BH] at BD
theorem Any.take {i t:Nat} {oi:Oper} {v:Value} {T:World→Prop} {l:Array Bool} {a:Act} {w:World} (d:Option Tmp) (hi:ops[i]?=some oi) (hd:oi.dst=d)
  (hs:Region.noSelect ops=true) (hf:Region.free md ops l i=true) (hr:(Region.ready md ops l).contains i=true)
  (hQ:∀ c a w,Q (.panic c) (a.put d v) w→Q (.panic c) a w) (nW:(t == i)=false) (hw:Region.waitsFor md ops t i=true) (hl:l.getD t false=false)
  (hy:YieldsIf P ops T oi v a) (hT:T w)
  (h:Any P md ops Q (ik t T) n (l.setIfInBounds i true) (a.put d v) w):Any P md ops Q (ik t T) (n+1) l a w:=by
 subst hd;obtain ⟨ot,ht,hw⟩:=Region.waitsFor_spec hw;exact Any.first hi (Region.noSelect_spec hs) hQ (by simpa using nW) ht hw n l a w hl (Region.free_spec hi hf) (by simpa using hr) hy hT h
end Go.Proofs.Rg

namespace Go.Proofs.Rg
open Go Go.RowKit
variable {P:Program} {md:Region.Mode} {ops:Array Oper} {Q:Exit→Act→World→Prop}
theorem ik.set {t i:Nat} {T:World→Prop} {l:Array Bool} {w:World} (nW:t≠i):ik t T (l.setIfInBounds i true) w↔ik t T l w:=by
 unfold ik;rw [getD_set_ne false (Ne.symm nW)]
theorem Any.step {i t:Nat} {oi:Oper} {v:Value} {T:World→Prop} {l:Array Bool} {a:Act} {w:World} (d:Option Tmp) (hi:ops[i]?=some oi) (hd:oi.dst=d) (hw:Region.wanted oi (yielded ops a.tmps)=true)
  (hr:(execOp a.eval oi).run P w=.ok (.value v) w') (hT:ik t T (l.setIfInBounds i true) w') (h:Any P md ops Q (ik t T) n (l.setIfInBounds i true) (a.put d v) w') :
  wpOp P ops Q i (fun a' w'=>ik t T (l.setIfInBounds i true) w'∧Any P md ops Q (ik t T) n (l.setIfInBounds i true) a' w') a w:=ox d hi hd hw hr ⟨hT,h⟩
theorem Any.skip {i t:Nat} {oi:Oper} {T:World→Prop} {l:Array Bool} {a:Act} {w:World} (d:Option Tmp) (hi:ops[i]?=some oi) (hd:oi.dst=d) (hw:Region.wanted oi (yielded ops a.tmps)=true)
  (hr:(execOp a.eval oi).run P w=.ok .skip w') (hT:ik t T (l.setIfInBounds i true) w') (h:Any P md ops Q (ik t T) n (l.setIfInBounds i true) (a.put d undef) w') :
  wpOp P ops Q i (fun a' w'=>ik t T (l.setIfInBounds i true) w'∧Any P md ops Q (ik t T) n (l.setIfInBounds i true) a' w') a w:=vN d hi hd hw hr ⟨hT,h⟩
theorem zV {o:Oper} {a:Act} {v:Value} {T:World→Prop} (t:TypeId) (x:Operand) (hg:Region.wanted o (yielded ops a.tmps)=true) (ho:o.op=.load t x) (ad:Addr) (hx:a.eval x=.pointer (some ad)) (hr:∀ w,T w→(loadVar t ad).run P w=.ok v w):YieldsIf P ops T o v a :=
 .inl ⟨hg,fun w hw=>nh t x ho ad hx (hr w hw)⟩
theorem aP {o:Oper} {a:Act} {w:World} {v:Value} (s x:Operand) (t:TypeId) (ho:o.op=.call { callee:=.builtin .append,args:=#[s,x],argTypes:=#[t,t] }) {vs vx:Value} (hs:a.eval s=vs) (hx:a.eval x=vx)
  (hr:(Builtin.append_ #[t,t] o.type #[vs,vx]).run P w=.ok v w'):(execOp a.eval o).run P w=.ok (.value v) w':=by
 unfold execOp;simp only [ho,resolve,invoke,builtin,Sem.run_bind,Sem.run_pure,Result.andThen_ok,List.map_toArray,List.map_cons,List.map_nil,hs,hx,hr]
theorem az {o:Oper} {a:Act} {w:World} (t:TypeId) (x y:Operand) (ho:o.op=.store t x y) (ad:Addr) (hx:a.eval x=.pointer (some ad)) (v:Value) (hv:a.eval y=v) (hr:(storeVar t ad v).run P w=.ok () w') :
  (execOp a.eval o).run P w=.ok .skip w':=by
 unfold execOp;simp only [ho,hx,hv,Instr.storeAt,Instr.sureAddr,Sem.run_bind,Sem.run_pure,Result.andThen_ok,hr]
end Go.Proofs.Rg

namespace Go.Proofs.Rg
open Go Go.RowKit
theorem rB {P:Program} {w:World} (base:Nat) (t ty e:TypeId) (i:TypeInfo) (size c:Nat) (ht:P.underlying t=some (.slice e)) (hi:P.info? e=some i)
  (v:Value) (n:Nat) (xs:List Value) (gG:w.ownsRow base e size v n xs):(Builtin.append_ #[t,t] ty #[v,.slice none 0 c]).run P w=.ok v w:=by
 rcases gG.2 with ⟨rfl,rfl⟩ | ⟨g,cap,cur,rfl,_,_,U1,_⟩
 ·simp [Builtin.append_,run_underlying ht,sizeOf,typeInfo,hi,Builtin.lenOf,Builtin.firstCells]
 ·simp [Builtin.append_,run_underlying ht,sizeOf,typeInfo,hi,Builtin.lenOf,Builtin.firstCells,U1,storeCells]

theorem ae {P:Program} (t e:TypeId) (ht:P.underlying t=some (.slice e)) {w:World} {ad:Addr} {v:Value} (h:w.cell? ad=some v):(loadVar t ad).run P w=.ok v w:=by
 simp [loadVar,isAgg,run_underlying ht,load];simp [Sem.run,h]
theorem cn {P:Program} (t:TypeId) {y:Nat} (hs:(P.info? t).map (fun i=>(i.zero,i.size,i.bytes))=some (some z,1,y)) {w:World} {b o c:Nat} {a:Option Addr} {u:Value} (h:w.cell? ⟨b,o,none⟩=some u) (hf:w.frozen? ⟨b,o,none⟩=false) :
  (storeVar t ⟨b,o,none⟩ (.slice a n c)).run P w=.ok () (w.setCell ⟨b,o,none⟩ (.slice a n c)):=by
 obtain ⟨i0,hi,dc,bM,eY⟩:=info_parts hs
 have h0:(⟨b,o,none⟩:Addr).add 0=⟨b,o,none⟩:=by simp [Addr.add]
 simp [storeVar,sizeOf,typeInfo,hi,bM,Value.cells,storeCells,store,h0];simp [Sem.run,h,hf]
theorem rC {P:Program} {t e:TypeId} (T:lU P t e z bytes) (w:World) (b o len cap i:Nat) (hi:i<len):(Instr.indexAt t (.slice (some ⟨b,o,none⟩) len cap) (.int .i64 (i:Int))).run P w=.ok (.pointer (some ⟨b,o+i,none⟩)) w:=by
 obtain ⟨i0,ni,dc,bM,eY⟩:=info_parts T.info;have h1:(0:Int)≤(i:Int)∧(i:Int)<(len:Int):=⟨by omega,by omega⟩;simp [Instr.indexAt,asIntOf,run_underlying T.ty,sizeOf,typeInfo,ni,bM,h1,Addr.add];rw [if_pos hi]
 by_cases h0:i=0
 ·subst h0; simp
 ·rw [if_neg h0]
theorem ai {P:Program} {ops:Array Oper} {S:World→Prop} {o:Oper} {a:Act} {t e:TypeId} (T:lU P t e z bytes) (x y:Operand) (hg:Region.wanted o (yielded ops a.tmps)=true) (ho:o.op=.indexAddr t x y) (b of len cap i:Nat) (hx:a.eval x=.slice (some ⟨b,of,none⟩) len cap) (hy:a.eval y=.int .i64 (i:Int)) (hi:i<len) :
  YieldsIf P ops S o (.pointer (some ⟨b,of+i,none⟩)) a:=by
 refine .inl ⟨hg,fun w _=>?_⟩;have:=rC T w b of len cap i hi;unfold execOp;simp only [ho,hx,hy,Sem.run_bind,Sem.run_pure,Result.andThen_ok,this]
theorem fI {P:Program} {o:Oper} {a:Act} {t e:TypeId} (T:lU P t e z bytes) (ho:o.op=.buildSlice t 0 #[]) (X:World):(execOp a.eval o).run P X=.ok (.value (.slice (some ⟨X.heap.size,0,none⟩) 0 0)) (X.alloc (.cells #[] e)):=by
 obtain ⟨i0,hi,dc,bM,eY⟩:=info_parts T.info;have h0:Array.range (0*1)=#[]:=rfl;unfold execOp;simp [ho,Instr.buildSlice,run_underlying T.ty,sizeOf,typeInfo,hi,newRow,h0,Instr.fill,Result.andThen]
theorem mz {P:Program} {t e:TypeId} (T:lU P t e z bytes) (ty:TypeId) {v:Value} {us:List Value} (gG:X.ownsRow B e 1 v n xs) (hX:B≤X.heap.size)
  (jV:cu X xv us) (h1:∀ u∈us,u.oneCell'=true) (hn:n+us.length<1000000000) :
  ∃ v' X',(Builtin.append_ #[t,t] ty #[v,xv]).run P X=.ok v' X'∧X'.ownsRow B e 1 v' (n+us.length) (xs++us)∧X.grownBy X' v.ownBlock:=by
 obtain ⟨i0,hi,dc,bM,eY⟩:=info_parts T.info;obtain ⟨ad,cap,rfl,q2,q3,q4,q5⟩:=jV
 cases ad with
 | none =>
  have h0:us=[]:=by
   cases us with
   | nil=>rfl
   | cons u r=>obtain ⟨b,o,e1,_⟩:=q5 (by simp); cases e1
  subst h0;exact ⟨v,X,rB (P:=P) (w:=X) B t ty e i0 1 cap T.ty hi v n xs gG,by simpa using gG,⟨rfl,rfl,rfl,Nat.le_refl _,fun _ _ _=>rfl⟩⟩
 | some ad =>
  obtain ⟨v',w',hr,h2,h3,h4,h5⟩:=run_append_own_at (P:=P) X B t ty e i0 z 1 bytes T.ty hi dc bM eY T.zc (by decide) v n xs gG ad us.length cap us (by omega) (fun j u hu=>by
   have hj:=(List.getElem?_eq_some_iff.1 hu).1;obtain ⟨b,o,e1,e2,e3⟩:=q5 (by omega);simp at e1; subst e1
   rw [Addr.add_mid,e3 j hj,← hu,List.getElem?_eq_getElem hj]) h1 (by unfold maxLen; omega) (by have:(n+us.length)*bytes≤1000000000*64:=Nat.mul_le_mul (by omega) T.small; omega) hX
  exact ⟨v',w',hr,h2,h3⟩
theorem Any.call {P:Program} {md:Region.Mode} {ops:Array Oper} {Q:Exit→Act→World→Prop} {i t:Nat} {oi:Oper} {T:World→Prop} {l:Array Bool} {a:Act} {w:World} (d:Option Tmp) (hi:ops[i]?=some oi) (hd:oi.dst=d) (hw:Region.wanted oi (yielded ops a.tmps)=true) (f:FuncId) (args:Array Value)
  (hr:(execOp a.eval oi).run P w=.ok (.enter f args) w)
  (hc:Calls P f args w fun e w'=>∃ v,e=.returned v∧ik t T (l.setIfInBounds i true) w'∧Any P md ops Q (ik t T) n (l.setIfInBounds i true) (a.put d v) w') :
  wpOp P ops Q i (fun a' w'=>ik t T (l.setIfInBounds i true) w'∧Any P md ops Q (ik t T) n (l.setIfInBounds i true) a' w') a w:=by
 subst hd;unfold wpOp;simp only [hi,hw,if_true]
 left
 unfold Oper.wp;rw [hr,Oper.upon_enter];refine hc.mono fun e w' ⟨v,h1,h2,h3⟩=>?_;subst h1;exact ⟨h2,h3⟩
end Go.Proofs.Rg

namespace Go.Proofs.Rg
open Go Go.RowKit
variable {P:Program} {md:Region.Mode} {ops:Array Oper} {Q:Exit→Act→World→Prop} {S:Array Bool→World→Prop}
theorem Any.Oz {i t:Nat} {oi ot:Oper} {v:Value} {T:World→Prop} (hi:ops[i]?=some oi) (um:∀ (j:Nat) (o:Oper) cs b,ops[j]?=some o→o.op≠.select cs b)
  (hQ:∀ c a w,Q (.panic c) (a.put oi.dst v) w→Q (.panic c) a w) (nW:t≠i) (ht:ops[t]?=some ot) (hw:∃ e∈ot.after,Region.binds md e=true∧e.on=i)
  (hS:∀ l w,S (l.setIfInBounds i true) w↔S l w) (KA:∀ l w,l.getD t false=false→S l w→T w) :
  ∀ (n:Nat) (l:Array Bool) (a:Act) (w:World),l.getD t false=false →
   (∀ j oj,ops[j]?=some oj→j≠i→l.getD j true=false→(∀ e∈oj.after,Region.binds md e=true→e.on≠i)→oi.apart ops oj=true) →
   i∈Region.ready md ops l→YieldsIf P ops T oi v a→S l w →
   Any P md ops Q S n (l.setIfInBounds i true) (a.put oi.dst v) w→Any P md ops Q S (n+1) l a w:=by
 intro n
 induction n with
 | zero =>
  intro l a w hl _ hr hy hT H;refine ⟨fun h0=>absurd (h0▸hr) (by simp),fun j hj=>?_⟩
  by_cases iW:j=i
  ·subst iW; exact hy.wpOp hi (KA _ _ hl hT) ⟨(hS _ _).2 hT,H⟩
  ·have gI:=ready_mono hj iW
   rw [H.1] at gI;simp at gI
 | succ n ih =>
  intro l a w hl oz hr hy hT H;refine ⟨fun h0=>absurd (h0▸hr) (by simp),fun j hj=>?_⟩
  by_cases iW:j=i
  ·subst iW; exact hy.wpOp hi (KA _ _ hl hT) ⟨(hS _ _).2 hT,H⟩
  obtain ⟨BA,oj,qd,rA⟩:=mem_ready.1 hj;have ni:=(mem_ready.1 hr).1
  have lC:∀ e∈oj.after,Region.binds md e=true→e.on≠i:=by
   intro e he hb heq;have h1:=rA e he hb;rw [heq] at h1
   by_cases aJ:i<l.size
   ·simp [aJ] at h1 ni; rw [ni] at h1; cases h1
   ·simp [Array.getElem?_eq_none (Nat.le_of_not_lt aJ)] at h1
  have QU:j≠t:=by
   rintro rfl;obtain ⟨e,he,hb,heq⟩:=hw;rw [ht] at qd; cases qd;exact lC e he hb heq
  have nj:=wpOp_putIf qd (oz j oj qd iW BA lC) (fun cs b=>um i oi cs b hi) (fun cs b=>um j oj cs b qd) hQ hy (H.2 j (ready_mono hj iW));refine wpOp_mono (fun a' w' q=>?_) nj;obtain ⟨vO,BB,BC⟩:=q;rw [Array.setIfInBounds_comm _ _ (Ne.symm iW)] at BB BC
  have nX:(l.setIfInBounds j true).getD t false=false:=by rw [getD_set_ne false QU]; exact hl
  have dF:=(hS _ _).1 BB;refine ⟨dF,ih _ _ _ nX ?_ (ready_mono hr (Ne.symm iW)) vO dF BC⟩;intro k ok hk my BD BG;refine oz k ok hk my ?_ BG
  by_cases BH:j=k
  ·rw [← BH]; exact BA
  ·rwa [getD_set_ne true BH] at BD
theorem Any.OA {i:Nat} {oi:Oper} {v:Value} {T:World→Prop} (hi:ops[i]?=some oi) (um:∀ (j:Nat) (o:Oper) cs b,ops[j]?=some o→o.op≠.select cs b)
  (hQ:∀ c a w,Q (.panic c) (a.put oi.dst v) w→Q (.panic c) a w)
  (hS:∀ l w,S (l.setIfInBounds i true) w↔S l w) (KA:∀ l w,S l w→T w) :
  ∀ (n:Nat) (l:Array Bool) (a:Act) (w:World),
   (∀ j oj,ops[j]?=some oj→j≠i→l.getD j true=false→(∀ e∈oj.after,Region.binds md e=true→e.on≠i)→oi.apart ops oj=true) →
   i∈Region.ready md ops l→YieldsIf P ops T oi v a→S l w →
   Any P md ops Q S n (l.setIfInBounds i true) (a.put oi.dst v) w→Any P md ops Q S (n+1) l a w:=by
 intro n
 induction n with
 | zero =>
  intro l a w _ hr hy hT H;refine ⟨fun h0=>absurd (h0▸hr) (by simp),fun j hj=>?_⟩
  by_cases iW:j=i
  ·subst iW; exact hy.wpOp hi (KA _ _ hT) ⟨(hS _ _).2 hT,H⟩
  ·have gI:=ready_mono hj iW
   rw [H.1] at gI;simp at gI
 | succ n ih =>
  intro l a w oz hr hy hT H;refine ⟨fun h0=>absurd (h0▸hr) (by simp),fun j hj=>?_⟩
  by_cases iW:j=i
  ·subst iW; exact hy.wpOp hi (KA _ _ hT) ⟨(hS _ _).2 hT,H⟩
  obtain ⟨BA,oj,qd,rA⟩:=mem_ready.1 hj;have ni:=(mem_ready.1 hr).1
  have lC:∀ e∈oj.after,Region.binds md e=true→e.on≠i:=by
   intro e he hb heq;have h1:=rA e he hb;rw [heq] at h1
   by_cases aJ:i<l.size
   ·simp [aJ] at h1 ni; rw [ni] at h1; cases h1
   ·simp [Array.getElem?_eq_none (Nat.le_of_not_lt aJ)] at h1
  have nj:=wpOp_putIf qd (oz j oj qd iW BA lC) (fun cs b=>um i oi cs b hi) (fun cs b=>um j oj cs b qd) hQ hy (H.2 j (ready_mono hj iW));refine wpOp_mono (fun a' w' q=>?_) nj;obtain ⟨vO,BB,BC⟩:=q;rw [Array.setIfInBounds_comm _ _ (Ne.symm iW)] at BB BC;have dF:=(hS _ _).1 BB;refine ⟨dF,ih _ _ _ ?_ (ready_mono hr (Ne.symm iW)) vO dF BC⟩;intro k ok hk my BD BG;refine oz k ok hk my ?_ BG
  by_cases BH:j=k
  ·rw [← BH]; exact BA
  ·rwa [getD_set_ne true BH] at BD
def aH (t:Nat) (T T2:World→Prop) (l:Array Bool) (w:World):Prop:=ik t T l w∧T2 w
theorem aH.set {t i:Nat} {T T2:World→Prop} (nW:t≠i) (l:Array Bool) (w:World):aH t T T2 (l.setIfInBounds i true) w↔aH t T T2 l w:=by
 unfold aH; rw [ik.set nW]
theorem Any.QV {i t:Nat} {oi:Oper} {v:Value} {T T2:World→Prop} {l:Array Bool} {a:Act} {w:World} (d:Option Tmp) (hi:ops[i]?=some oi) (hd:oi.dst=d)
  (hs:Region.noSelect ops=true) (hf:Region.free md ops l i=true) (hr:(Region.ready md ops l).contains i=true)
  (hQ:∀ c a w,Q (.panic c) (a.put d v) w→Q (.panic c) a w) (nW:(t == i)=false) (hw:Region.waitsFor md ops t i=true) (hl:l.getD t false=false)
  (hy:YieldsIf P ops T oi v a) (hS:aH t T T2 l w)
  (h:Any P md ops Q (aH t T T2) n (l.setIfInBounds i true) (a.put d v) w):Any P md ops Q (aH t T T2) (n+1) l a w:=by
 subst hd;obtain ⟨ot,ht,hw⟩:=Region.waitsFor_spec hw
 have Qf:t≠i:=by simpa using nW
 refine Any.Oz hi (Region.noSelect_spec hs) hQ Qf ht hw (aH.set Qf) (fun l w hl hh=>?_) n l a w hl (Region.free_spec hi hf) (by simpa using hr) hy hS h
 rcases hh.1 with h1 | h1
 ·rw [hl] at h1; cases h1
 ·exact h1
theorem Any.s4 {i t:Nat} {oi:Oper} {v:Value} {T T2:World→Prop} {l:Array Bool} {a:Act} {w:World} (d:Option Tmp) (hi:ops[i]?=some oi) (hd:oi.dst=d)
  (hs:Region.noSelect ops=true) (hf:Region.free md ops l i=true) (hr:(Region.ready md ops l).contains i=true)
  (hQ:∀ c a w,Q (.panic c) (a.put d v) w→Q (.panic c) a w) (nW:(t == i)=false)
  (hy:YieldsIf P ops T2 oi v a) (hS:aH t T T2 l w)
  (h:Any P md ops Q (aH t T T2) n (l.setIfInBounds i true) (a.put d v) w):Any P md ops Q (aH t T T2) (n+1) l a w:=by
 subst hd;exact Any.OA hi (Region.noSelect_spec hs) hQ (aH.set (by simpa using nW)) (fun l w hh=>hh.2) n l a w (Region.free_spec hi hf) (by simpa using hr) hy hS h
theorem Any.run {i:Nat} {oi:Oper} {v:Value} {l:Array Bool} {a:Act} {w:World} (d:Option Tmp) (hi:ops[i]?=some oi) (hd:oi.dst=d) (hw:Region.wanted oi (yielded ops a.tmps)=true)
  (hr:(execOp a.eval oi).run P w=.ok (.value v) w') (hS:S (l.setIfInBounds i true) w') (h:Any P md ops Q S n (l.setIfInBounds i true) (a.put d v) w') :
  wpOp P ops Q i (fun a' w'=>S (l.setIfInBounds i true) w'∧Any P md ops Q S n (l.setIfInBounds i true) a' w') a w:=ox d hi hd hw hr ⟨hS,h⟩
theorem Any.fl {i:Nat} {oi:Oper} {l:Array Bool} {a:Act} {w:World} (d:Option Tmp) (hi:ops[i]?=some oi) (hd:oi.dst=d) (hw:Region.wanted oi (yielded ops a.tmps)=true)
  (hr:(execOp a.eval oi).run P w=.ok .skip w') (hS:S (l.setIfInBounds i true) w') (h:Any P md ops Q S n (l.setIfInBounds i true) (a.put d undef) w') :
  wpOp P ops Q i (fun a' w'=>S (l.setIfInBounds i true) w'∧Any P md ops Q S n (l.setIfInBounds i true) a' w') a w:=vN d hi hd hw hr ⟨hS,h⟩
theorem Any.ask {i:Nat} {oi:Oper} {l:Array Bool} {a:Act} {w:World} (d:Option Tmp) (hi:ops[i]?=some oi) (hd:oi.dst=d) (hw:Region.wanted oi (yielded ops a.tmps)=true) (f:FuncId) (args:Array Value)
  (hr:(execOp a.eval oi).run P w=.ok (.enter f args) w)
  (hc:Calls P f args w fun e w'=>∃ v,e=.returned v∧S (l.setIfInBounds i true) w'∧Any P md ops Q S n (l.setIfInBounds i true) (a.put d v) w') :
  wpOp P ops Q i (fun a' w'=>S (l.setIfInBounds i true) w'∧Any P md ops Q S n (l.setIfInBounds i true) a' w') a w:=by
 subst hd;unfold wpOp;simp only [hi,hw,if_true]
 left
 unfold Oper.wp;rw [hr,Oper.upon_enter];refine hc.mono fun e w' ⟨v,h1,h2,h3⟩=>?_;subst h1;exact ⟨h2,h3⟩
theorem IZ {P:Program} {t e:TypeId} (T:lU P t e z bytes) (ty:TypeId) (b o n:Nat) (us:List Value) (hl:us.length=n) (hc:∀ i (h:i<us.length),X.cell? ⟨b,o+i,none⟩=some us[i]) (p c:Nat) {u:Value}
  (hu:X.cell? ⟨p,0,none⟩=some u) (hn:n<1000000) :
  ∃ v' X',(Builtin.append_ #[t,t] ty #[.slice (some ⟨b,o,none⟩) n n,.slice (some ⟨p,0,none⟩) 1 c]).run P X=.ok v' X'∧X'.ownsRow X.heap.size e 1 v' (n+1) (us++[u])∧Below X.heap.size X X'∧∃ a c,v'=.slice a (n+1) c:=by
 obtain ⟨i0,hi,dc,bM,eY⟩:=info_parts T.info
 obtain ⟨v',w',hr,h2,h3⟩:=run_append_arg_grows (P:=P) X t ty e i0 z 1 bytes T.ty hi dc bM eY T.zc (by decide) ⟨b,o,none⟩ n n us (by omega) (fun j x hj=>by
  have mA:=(List.getElem?_eq_some_iff.1 hj).1
  rw [Addr.add_mid,hc j mA,← hj,List.getElem?_eq_getElem mA]) ⟨p,0,none⟩ 1 c [u] rfl (fun j x hj=>by
  obtain rfl:j=0:=by have:=(List.getElem?_eq_some_iff.1 hj).1; simpa using this
  simp at hj; subst hj
  rw [show (⟨p,0,none⟩:Addr).add 0=⟨p,0,none⟩ from rfl]; exact hu) (by omega) (by unfold maxLen; omega) (by have:(n+1)*bytes≤1000000*64:=Nat.mul_le_mul (by omega) T.small; omega)
 exact ⟨v',w',hr,h2,(Below.refl _ _).grown h3 (Nat.le_refl _) (fun k hk=>by cases hk),bY h2⟩
end Go.Proofs.Rg

namespace Go.Proofs.Rg
open Go.RowKit
theorem _root_.c7 {P : Program} {md : Region.Mode} {ops : Array Oper} {Q : Exit → Act → World → Prop} {T T2 : World → Prop} {oi : Oper} {l : Array Bool} {a : Act} {w : World} (i t : Nat) (v : Value) (d : Nat) (hi : ops[i]? = some oi) (hd : oi.dst = some d)
    (hy : YieldsIf P ops T2 oi v a) (hS : aH t T T2 l w) (h : Any P md ops Q (aH t T T2) n (l.setIfInBounds i true) (a.put (some d) v) w)
    (hs : Region.noSelect ops = true := by kernel_rfl) (hf : Region.free md ops l i = true := by kernel_rfl) (hr : (Region.ready md ops l).contains i = true := by kernel_rfl)
    (hQ : ∀ c a w, Q (.panic c) (a.put (some d) v) w → Q (.panic c) a w := by exact fun _ _ _ h => h) (nW : (t == i) = false := by exact rfl) : Any P md ops Q (aH t T T2) (n + 1) l a w :=
  Any.s4 (some d) hi hd hs hf hr hQ nW hy hS h
theorem _root_.c8 {P : Program} {md : Region.Mode} {ops : Array Oper} {Q : Exit → Act → World → Prop} {T T2 : World → Prop} {oi : Oper} {l : Array Bool} {a : Act} {w : World} (i t : Nat) (v : Value) (d : Nat) (hS : aH t T T2 l w) (h : Any P md ops Q (aH t T T2) n (l.setIfInBounds i true) (a.put (some d) v) w)
    (hi : ops[i]? = some oi := by exact rfl) (hd : oi.dst = some d := by exact rfl) (hy : YieldsIf P ops T2 oi v a := by exact .inl ⟨rfl, fun w _ => Go.Proofs.Rg.cM (v := _) _ rfl rfl⟩)
    (hs : Region.noSelect ops = true := by kernel_rfl) (hf : Region.free md ops l i = true := by kernel_rfl) (hr : (Region.ready md ops l).contains i = true := by kernel_rfl)
    (hQ : ∀ c a w, Q (.panic c) (a.put (some d) v) w → Q (.panic c) a w := by exact fun _ _ _ h => h) (nW : (t == i) = false := by exact rfl) : Any P md ops Q (aH t T T2) (n + 1) l a w :=
  Any.s4 (some d) hi hd hs hf hr hQ nW hy hS h
end Go.Proofs.Rg

namespace Go.Proofs.Rg
open Go Go.RowKit
variable {P:Program} {md:Region.Mode} {ops:Array Oper} {Q:Exit→Act→World→Prop} {S:Array Bool→World→Prop}
theorem put_comm (a:Act) {d d':Tmp} (u v:Value) (h:d≠d'):(a.put (some d) u).put (some d') v=(a.put (some d') v).put (some d) u:=by
 unfold Act.put;simp only [Array.setIfInBounds_comm u v h]
def Does (P:Program) (ops:Array Oper) (Q:Exit→Act→World→Prop) (i d:Nat) (I:World→Prop) (R:Value→World→Prop) (K:World→World→Prop) (b:Act) (W:World):Prop :=
 wpOp P ops Q i (fun c W'=>∃ v,c=b.put (some d) v∧I W'∧R v W'∧K W W') b W

theorem Any.inv {J:Nat→Array Bool→Act→World→Prop} {k:Nat} (h0:∀ l a w,J 0 l a w→Any P md ops Q S k l a w)
  (hs:∀ m l a w,J (m+1) l a w→Region.ready md ops l≠[]∧∀ i∈Region.ready md ops l,wpOp P ops Q i (fun a' w'=>S (l.setIfInBounds i true) w'∧J m (l.setIfInBounds i true) a' w') a w) :
  ∀ m l a w,J m l a w→Any P md ops Q S (k+m) l a w
 | 0,l,a,w,h=>h0 l a w h
 | m+1,l,a,w,h=>by
  obtain ⟨h1,h2⟩:=hs m l a w h;exact Any.all rfl h1 fun i hi=>wpOp_mono (fun a' w' q=>⟨q.1,Any.inv h0 hs m _ a' w' q.2⟩) (h2 i hi)
end Go.Proofs.Rg

namespace Go.Proofs.YtbngdgfmlmkgiaaGreat
open Go.RowKit
open Go.Proofs
attribute [local irreducible] Go.Calls
theorem yh (v:Value) (l:List Int) (w:World) (h:Rg.Ints w v l) (h1:1≤l.length) (h2:l.length≤64) :
  Calls Tryz.prog 53 #[v] w fun e w'=>e=.returned (.int .i64 (Ma.cj l))∧Below w.heap.size w w':=by
 obtain ⟨a,cap,rfl,hc,hm,_,aN⟩:=h.shape;obtain ⟨b,o,rfl,hb,hr⟩:=aN (by omega);have Hr:=ι hr;clear hr aN h
 have hz:∀ (cs:Array Value),cs=Array.replicate 64 (.bool false)→(w.alloc (.cells cs 114)).rowIs w.heap.size 114 64 (fun j=>.bool (decide ((j:Int)∈l.take 0))):=by
  rintro cs rfl;have:=World.rowIs_alloc w (Array.replicate 64 (.bool false)) 114 (fun j=>.bool (decide ((j:Int)∈l.take 0))) (fun i hi=>by simp at hi; simp [hi])
  simpa using this
 have HZ:=ι hz;clear hz
 go_enter Tryz.func53,Tryz.ntmps53
 go_wp2
 go_loopw [16] (fun i wr=>∃ k:Nat,k≤l.length∧i=.int .i64 k∧Hid (Ma.uk l k)∧Hid (wr.rowIs w.heap.size 114 64 (fun j=>.bool (decide ((j:Int)∈l.take k))))∧Below w.heap.size w wr) (fun i _=>l.length - (intOf i).toNat)
 case atStart=>exact ⟨0,by omega,rfl,Ma.Qe l,HZ.out _ rfl,(Below.refl _ _).alloc (Nat.le_refl _) _⟩
 case round =>
  obtain ⟨k,hk,rfl,hp,hs,bR⟩:=hrel;obtain ⟨hc,hf⟩:=Rg.ng bR
  by_cases aJ:k<l.length
  ·have e0:wr.cell? ⟨b,o+k,none⟩=some (.int .i64 l[k]):=(hc b (o+k) hb).trans (Hr.out k aJ)
   have hB:b<wr.heap.size:=Nat.lt_of_lt_of_le hb bR.size;generalize hx:l[k]=x at e0;have Hx:=ι hx;clear hx hc hf
   by_cases h0:x<0
   ·go_wp2
    go_ret;exact ⟨Rg.mr (Ma.pF h1 h2 (Ma.Hw aJ (by rw [Hx.out]; exact h0))).symm,by assumption⟩
   by_cases h3:x<l.length
   ·obtain ⟨n,rfl⟩:=Int.eq_ofNat_of_zero_le (by omega:0≤x)
    have hn:n<64:=by omega
    have c1:=hs.out.cell hn;have f1:=hs.out.frozen n
    cases hd:decide ((n:Int)∈l.take k)
    ·rw [hd] at c1
     go_wp2
     go_roundw
     case rel =>
      refine ⟨k+1,by omega,by go_num,Ma.y8 hp.out aJ (by rw [Hx.out]; omega) (by rw [Hx.out]; omega) (by rw [Hx.out]; exact of_decide_eq_false hd),?_,bR.setCell (Nat.le_refl _) _⟩;refine (hs.out.set n _).congr fun i hi=>?_;rw [Ma.om aJ,Hx.out]
      by_cases e:i=n
      ·simp [e]
      ·rw [if_neg e,if_neg (by omega)]
     case measure=>simp [intOf]; omega
    ·rw [hd] at c1
     go_wp2;go_ret;exact ⟨Rg.mr (Ma.pF h1 h2 (Ma.Bw aJ (by rw [Hx.out]; exact of_decide_eq_true hd))).symm,by assumption⟩
   ·go_wp2
    go_ret;exact ⟨Rg.mr (Ma.pF h1 h2 (Ma.HW aJ (by rw [Hx.out]; omega))).symm,by assumption⟩
  ·obtain rfl:k=l.length:=by omega
   go_wp2;go_ret;exact ⟨Rg.mr (Ma.oq h1 h2 (Ma.Bv hp.out)).symm,by assumption⟩
theorem fp (v:Value) (l:List Int) (w:World) (h:Rg.Ints w v l) :
  Calls Tryz.prog 53 #[v] w fun e w'=>e=.returned (.int .i64 (Ma.cj l))∧Below w.heap.size w w':=by
 by_cases h1:1≤l.length
 ·by_cases h2:l.length≤64
  ·exact yh v l w h h1 h2
  ·have hp:=ι (Ma.pE (l:=l) (by omega))
   obtain ⟨a,cap,rfl,hc,hm,_,aN⟩:=h.shape;clear aN h
   have s5:64<l.length:=by omega
   go_enter Tryz.func53,Tryz.ntmps53
   go_wp2;go_ret;exact ⟨Rg.mr hp.out.symm,Below.refl _ _⟩
 ·have hp:=ι (Ma.pE (l:=l) (by omega))
  obtain ⟨a,cap,rfl,hc,hm,_,aN⟩:=h.shape;clear aN h
  have s5:l.length<1:=by omega
  go_enter Tryz.func53,Tryz.ntmps53
  go_wp2;go_ret;exact ⟨Rg.mr hp.out.symm,Below.refl _ _⟩

theorem oA:(Tryz.prog.info? 3).map (fun i=>(i.zero,i.size,i.bytes))=some (some (.int .i64 0),1,8):=by kernel_rfl
theorem nk (n:Nat) (hn:n≤1000000) (w:World):(Instr.makeSlice 26 (.int .i64 (n:Int)) (.int .i64 (n:Int))).run Tryz.prog w=.ok (.slice (some ⟨w.heap.size,0,none⟩) n n) (w.alloc (.cells (madeCells #[.int .i64 0] n) 3)) :=
 run_make_row' 26 3 (.int .i64 0) 8 Tryz.underlying26 oA rfl .i64 .i64 n (by omega) (by omega) w

theorem iq {k:IntKind} {a b:Int} (h:b=a):Ending.returned (.int k a)=.returned (.int k b):=by rw [h]
theorem I0 {v:Value} {w:World} (h:Rg.Ints w v l) (hb:Below w0.heap.size w0 w) :
  Calls Tryz.prog 53 #[v] w fun e w'=>e=.returned (.int .i64 (Ma.cj l))∧Below w0.heap.size w0 w' :=
 (fp v l w h).mono fun _ _ ⟨a,b⟩=>⟨a,Rg.acc hb b⟩

theorem vP (gv:Value) (d:Int) (ll:List (List Int)) (w:World) (h:Rg.Rows w gv ll) (h1:1≤d) (h2:d≤64) (h3:ll.length≤16) :
  Calls Tryz.prog 34 #[.agg #[.int .i64 d,gv]] w fun e w'=>e=.returned (.int .i64 (Ma.iR d ll))∧Below w.heap.size w w':=by
 obtain ⟨ad,cap,rfl,hc,hm,_,aN⟩:=h.shape;have Hr:=ι aN;clear aN h
 go_enter Tryz.func34,Tryz.ntmps34
 go_wp2
 go_loopw [21] (fun i wr=>∃ k:Nat,k≤ll.length∧i=.int .i64 k∧Hid (Ma.iR d (ll.drop k)=Ma.iR d ll)∧Hid (Below (w.heap.size+1) (w.alloc (.cells #[.int .i64 d,.slice ad ll.length cap] 24)) wr)) (fun i _=>ll.length - (intOf i).toNat)
 case atStart=>exact ⟨0,by omega,rfl,rfl,Below.refl _ _⟩
 case round =>
  obtain ⟨k,hk,rfl,hp,bR⟩:=hrel;have dG:Below w.heap.size w wr:=((Below.refl _ w).alloc (Nat.le_refl _) _).trans (bR.out.mono (by omega))
  have cd:wr.cell? ⟨w.heap.size,0,none⟩=some (.int .i64 d):=by
   rw [bR.out.cell (by show w.heap.size<_; omega)]; rw [Rg.aM]; rfl
  have dn:w.heap.size<wr.heap.size:=by have:=bR.out.size; simp at this; omega
  by_cases aJ:k<ll.length
  ·obtain ⟨b,o,rfl,hb,hr⟩:=Hr.out (by omega)
   obtain ⟨u,eu,hu⟩:=hr k aJ;have e0:wr.cell? ⟨b,o+k,none⟩=some u:=(dG.cell (p:=⟨b,o+k,none⟩) hb).trans eu;have fB:=hu.below dG;obtain ⟨n,a1,c1,hn,rfl,hl⟩:=hu.len;have Hn:=ι hn;clear hr eu hu hn
   by_cases hz:Ma.cj ll[k]=0
   ·have Hz:=ι hz
    have s6:((Ma.cj ll[k]) != 0)=false:=by rw [hz]; rfl
    clear hz;have Ep:∀ {e:Ending} {w':World},Below wr.heap.size wr w'→w'.cell? ⟨w.heap.size,0,none⟩=some (.int .i64 d):=fun hw=>(hw.cell (p:=⟨w.heap.size,0,none⟩) dn).trans cd
    by_cases hd:(n:Int)=d
    ·have hdd:((n:Int) != d)=false:=by rw [hd]; simp
     have Hd:=ι hd;clear hd
     go_wp2_with (go_at_call 53; refine (fp _ _ _ fB).mono ?_; rintro e w1 ⟨rfl,fJ⟩; have QY:=(fJ.cell (p:=⟨w.heap.size,0,none⟩) dn).trans cd)
     go_roundw
     case rel=>exact ⟨k+1,by omega,by go_num,(Ma.sU aJ Hz.out (by rw [Hn.out]; exact Hd.out)).symm.trans hp.out,bR.out.trans (fJ.mono dn)⟩
     case measure=>simp [intOf]; omega
    ·have hdd:((n:Int) != d)=true:=by rw [bne_iff_ne]; exact hd
     have Hd:=ι hd;clear hd
     go_wp2_with (go_at_call 53; refine (fp _ _ _ fB).mono ?_; rintro e w1 ⟨rfl,fJ⟩; have QY:=(fJ.cell (p:=⟨w.heap.size,0,none⟩) dn).trans cd)
     go_ret;exact ⟨iq (by rw [← hp.out]; exact Ma.vJ aJ Hz.out (by rw [Hn.out]; exact Hd.out)),Rg.acc dG fJ⟩
   ·have Hz:=ι hz
    have s6:((Ma.cj ll[k]) != 0)=true:=by rw [bne_iff_ne]; exact hz
    clear hz
    go_wp2_with (go_at_call 53; refine (I0 fB dG).mono ?_; rintro e w1 ⟨rfl,fJ⟩)
    go_ret;exact ⟨iq (by rw [← hp.out]; exact Ma.vI aJ Hz.out),fJ⟩
  ·go_wp2
   go_ret;exact ⟨iq (by rw [← hp.out]; exact Ma.vK (by omega)),dG⟩
theorem iD (gv:Value) (d:Int) (ll:List (List Int)) (w:World) (h:Rg.Rows w gv ll) :
  Calls Tryz.prog 34 #[.agg #[.int .i64 d,gv]] w fun e w'=>e=.returned (.int .i64 (Ma.bJ d ll))∧Below w.heap.size w w':=by
 by_cases h1:1≤d
 ·by_cases h2:d≤64
  ·by_cases h3:ll.length≤16
   ·rw [Ma.vL h1 h2 h3]; exact vP gv d ll w h h1 h2 h3
   ·have hg:=ι (Ma.p9 h1 h2 h3)
    obtain ⟨ad,cap,rfl,hc,hm,_,aN⟩:=h.shape;clear aN h
    have QZ:16<ll.length:=by omega
    clear h3
    go_enter Tryz.func34,Tryz.ntmps34
    go_wp2;go_ret;exact ⟨iq hg.out,(Below.refl _ _).alloc (Nat.le_refl _) _⟩
  ·have hg:=ι (Ma.jT (d:=d) (ll:=ll) (by omega))
   have zW:64<d:=by omega
   clear h2 h
   go_enter Tryz.func34,Tryz.ntmps34
   go_wp2;go_ret;exact ⟨iq hg.out,(Below.refl _ _).alloc (Nat.le_refl _) _⟩
 ·have hg:=ι (Ma.jT (d:=d) (ll:=ll) (by omega))
  have U2:d<1:=by omega
  clear h1 h
  go_enter Tryz.func34,Tryz.ntmps34
  go_wp2;go_ret;exact ⟨iq hg.out,(Below.refl _ _).alloc (Nat.le_refl _) _⟩

theorem bK:Rg.lU Tryz.prog 26 3 (.int .i64 0) 8:=⟨Tryz.underlying26,oA,rfl,by decide⟩
def KC (l:List Nat):List Value:=l.map fun (x:Nat)=>Value.int .i64 (x:Int)
theorem ze (l:List Nat) (x:Nat):KC (l++[x])=KC l++[.int .i64 (x:Int)]:=by simp [KC]
theorem oB (n:Nat) (w:World) (hn:n≤1000) :
  Calls Tryz.prog 58 #[.int .i64 n] w fun e w'=>∃ v,e=.returned v∧Rg.p_ w w' v (Ma.aR n)∧Below w.heap.size w w':=by
 go_enter Tryz.func58,Tryz.ntmps58
 go_wp2
 go_loopw [3,4] (fun v i wr=>∃ k:Nat,k≤n∧i=.int .i64 k∧Hid (wr.ownsRow w.heap.size 3 1 v k (KC (Ma.aR k)))∧Hid (Below w.heap.size w wr)) (fun _ i _=>n - (intOf i).toNat)
 case atStart=>exact ⟨0,by omega,rfl,World.ownsRow_nil _ _ _ _,Below.refl _ _⟩
 case round =>
  obtain ⟨k,hk,rfl,hs,bR⟩:=hrel
  by_cases aJ:k<n
  ·go_wp2_with (at_builtin; refine Rg.H0 rfl _ _ 26 rfl bK hs.out bR.out _ (by simp [Value.oneCell']) rfl rfl (by omega) ?_; intro v' w1 s7 cV _ _ _)
   go_roundw
   case rel=>exact ⟨k+1,by omega,by go_num,by rw [show Ma.aR (k+1)=Ma.aR k++[k] from List.range_succ,ze]; exact s7,cV⟩
   case measure=>simp [intOf]; omega
  ·obtain rfl:k=n:=by omega
   go_wp2;go_ret;exact ⟨_,rfl,⟨Rg.NP.cm hs.out (by omega),Rg.cL.cm hs.out⟩,bR.out⟩
theorem uN {b:List Nat} (hk:k<a.length):Ma.aj (a.take (k+1)) b=Ma.aj (a.take k) b++[b.getD a[k] 0]:=by
 rw [List.take_succ_eq_append_getElem hk]; unfold Ma.aj; rw [List.map_append]; rfl
theorem iP (va vb:Value) (a b:List Nat) (w:World) (h:Rg.NP w va a) (h':Rg.NP w vb b) (gJ:∀ x∈a,x<b.length) (hn:a.length≤1000) :
  Calls Tryz.prog 26 #[va,vb] w fun e w'=>∃ v,e=.returned v∧Rg.p_ w w' v (Ma.aj a b)∧Below w.heap.size w w':=by
 obtain ⟨ad,cap,rfl,hc,_,_,aN⟩:=h.shape;obtain ⟨Er,mB,rfl,iX,rD,_,dr⟩:=h'.shape;have H1:=ι aN;have H2:=ι dr;clear aN dr h h'
 go_enter Tryz.func26,Tryz.ntmps26
 go_wp2
 go_loopw [5,6] (fun v i wr=>∃ k:Nat,k≤a.length∧i=.int .i64 k∧Hid (wr.ownsRow w.heap.size 3 1 v k (KC (Ma.aj (a.take k) b)))∧Hid (Below w.heap.size w wr)) (fun _ i _=>a.length - (intOf i).toNat)
 case atStart=>exact ⟨0,by omega,rfl,World.ownsRow_nil _ _ _ _,Below.refl _ _⟩
 case round =>
  obtain ⟨k,hk,rfl,hs,bR⟩:=hrel
  by_cases aJ:k<a.length
  ·obtain ⟨b1,o1,rfl,cV,dA⟩:=H1.out (by omega)
   have e1:=(bR.out.cell (p:=⟨b1,o1+k,none⟩) cV).trans (dA k aJ);have hx:=gJ _ (List.getElem_mem aJ);have nj:=uN (b:=b) aJ;have hg:=Ma.getD_lt hx;generalize a[k]=x at e1 hx nj hg;have Q0:=ι nj;obtain ⟨b2,o2,rfl,df,iV⟩:=H2.out (by omega);have e2:=(bR.out.cell (p:=⟨b2,o2+x,none⟩) df).trans (iV x hx);generalize b[x]=y at e2 hg;have Hg:=ι hg;clear hg nj dA iV
   go_wp2_with (at_builtin; refine Rg.H0 rfl _ _ 26 rfl bK hs.out bR.out _ (by simp [Value.oneCell']) rfl rfl (by omega) ?_; intro v' w1 s7 cV _ _ _)
   go_roundw
   case rel=>exact ⟨k+1,by omega,by go_num,by rw [Q0.out,Hg.out,ze]; exact s7,cV⟩
   case measure=>simp [intOf]; omega
  ·obtain rfl:k=a.length:=by omega
   go_wp2;go_ret;exact ⟨_,rfl,⟨Rg.NP.cm (n:=a.length) (by have:=hs.out; rwa [List.take_length] at this) (by omega),Rg.cL.cm hs.out⟩,bR.out⟩
theorem oC (v:Value) (a:List Nat) (w:World) (h:Rg.NP w v a) (ha:Ma.lB a) (hn:a.length≤1000) :
  Calls Tryz.prog 52 #[v] w fun e w'=>∃ v,e=.returned v∧Rg.p_ w w' v (Ma.aO a)∧Below w.heap.size w w':=by
 obtain ⟨ad,cap,rfl,hc,_,_,aN⟩:=h.shape;have Hr:=ι aN;clear aN h;have dH:=nk a.length (by omega) w;have bD:=ι (World.rowIs_made w (.int .i64 0) a.length 3)
 go_enter Tryz.func52,Tryz.ntmps52
 go_wp2;clear dH
 go_loopw [4] (fun i wr=>∃ k:Nat,k≤a.length∧i=.int .i64 k∧Hid (wr.rowIs w.heap.size 3 a.length (fun j=>.int .i64 (if j∈a.take k then ((a.idxOf j:Nat):Int) else 0)))∧Below w.heap.size w wr) (fun i _=>a.length - (intOf i).toNat)
 case atStart=>exact ⟨0,by omega,rfl,bD.out.congr (fun i hi=>by simp),(Below.refl _ _).alloc (Nat.le_refl _) _⟩
 case round =>
  obtain ⟨k,hk,rfl,hs,bR⟩:=hrel;obtain ⟨hc,hf⟩:=Rg.ng bR
  by_cases aJ:k<a.length
  ·obtain ⟨b,o,rfl,hb,hr⟩:=Hr.out (by omega)
   have e0:wr.cell? ⟨b,o+k,none⟩=some (.int .i64 ((a[k]:Nat):Int)):=(hc b (o+k) hb).trans (hr k aJ);have vQ:a[k]<a.length:=Ma.vz ha aJ;have s8:=Ma.mq ha aJ
   have gI:∀ i,i∈a.take (k+1)↔(i∈a.take k∨i=a[k]):=fun i=>by rw [List.take_succ_eq_append_getElem aJ,List.mem_append,List.mem_singleton]
   generalize hx:a[k]=x at *;have KH:=ι s8;have oD:=ι gI;clear hx hc hf s8 gI hr;have c1:=hs.out.cell vQ;have f1:=hs.out.frozen x;generalize (Value.int .i64 (if x∈a.take k then ((a.idxOf x:Nat):Int) else 0))=u0 at c1;go_wp2
   go_roundw
   case rel =>
    refine ⟨k+1,by omega,by go_num,?_,bR.setCell (Nat.le_refl _) _⟩;refine (hs.out.set x _).congr fun i hi=>?_
    by_cases e:i=x
    ·subst e; rw [if_pos rfl,if_pos ((oD.out i).2 (.inr rfl)),KH.out]
    ·rw [if_neg e]
     by_cases e2:i∈a.take k
     ·rw [if_pos e2,if_pos ((oD.out i).2 (.inl e2))]
     ·rw [if_neg e2,if_neg (fun e3=>((oD.out i).1 e3).elim e2 e)]
   case measure=>simp [intOf]; omega
  ·obtain rfl:k=a.length:=by omega
   go_wp2;go_ret;refine ⟨_,rfl,⟨Rg.NP.gU hs.out (by rw [Ma.fk]) (by omega) (fun i hi=>?_),Rg.cL.mk _ _ _ _⟩,by assumption⟩;rw [Ma.pG];rw [Ma.fk] at hi;rw [List.take_of_length_le (Nat.le_refl _),if_pos (Ma.rr ha hi)]

theorem s9:(Tryz.prog.info? 4).map (fun i=>(i.zero,i.size,i.bytes))=some (some (.bool false),1,1):=by kernel_rfl
theorem BJ (n:Nat) (hn:n≤1000000) (w:World):(Instr.makeSlice 59 (.int .i64 (n:Int)) (.int .i64 (n:Int))).run Tryz.prog w=.ok (.slice (some ⟨w.heap.size,0,none⟩) n n) (w.alloc (.cells (madeCells #[.bool false] n) 4)) :=
 run_make_row' 59 4 (.bool false) 1 Tryz.underlying59 s9 rfl .i64 .i64 n (by omega) (by omega) w
theorem zX (v:Value) (l:List Int) (w:World) (h:Rg.Ints w v l) (h1:1≤l.length) (h2:l.length≤1000) :
  Calls Tryz.prog 80 #[v,.int .i64 l.length] w fun e w'=>e=.returned (.bool (decide (Ma.rm l)))∧Below w.heap.size w w':=by
 obtain ⟨a,cap,rfl,hc,hm,_,aN⟩:=h.shape;obtain ⟨b,o,rfl,hb,hr⟩:=aN (by omega);have Hr:=ι hr;clear hr aN h;have dH:=BJ l.length (by omega) w;have bD:=ι (World.rowIs_made w (.bool false) l.length 4)
 have hne:((l.length:Int) != (l.length:Int))=false:=by simp
 generalize hD:decide (Ma.rm l)=D;have HD:=ι hD;clear hD
 go_enter Tryz.func80,Tryz.ntmps80
 go_wp2;clear dH
 go_loopw [6] (fun i wr=>∃ k:Nat,k≤l.length∧i=.int .i64 k∧Hid (Ma.uk l k)∧Hid (wr.rowIs w.heap.size 4 l.length (fun j=>.bool (decide ((j:Int)∈l.take k))))∧Below w.heap.size w wr) (fun i _=>l.length - (intOf i).toNat)
 case atStart=>exact ⟨0,by omega,rfl,Ma.Qe l,bD.out.congr (fun i hi=>by simp),(Below.refl _ _).alloc (Nat.le_refl _) _⟩
 case round =>
  obtain ⟨k,hk,rfl,hp,hs,bR⟩:=hrel;obtain ⟨hc,hf⟩:=Rg.ng bR
  by_cases aJ:k<l.length
  ·have e0:wr.cell? ⟨b,o+k,none⟩=some (.int .i64 l[k]):=(hc b (o+k) hb).trans (Hr.out k aJ)
   have hB:b<wr.heap.size:=Nat.lt_of_lt_of_le hb bR.size;generalize hx:l[k]=x at e0;have Hx:=ι hx;clear hx hc hf
   by_cases h0:x<0
   ·go_wp2
    go_ret;exact ⟨Rg.cG (by rw [← HD.out]; exact (decide_eq_false (Ma.Hw aJ (by rw [Hx.out]; exact h0))).symm),by assumption⟩
   by_cases h3:x<l.length
   ·obtain ⟨n,rfl⟩:=Int.eq_ofNat_of_zero_le (by omega:0≤x)
    have hn:n<l.length:=by omega
    have c1:=hs.out.cell hn;have f1:=hs.out.frozen n
    cases hd:decide ((n:Int)∈l.take k)
    ·rw [hd] at c1
     go_wp2
     go_roundw
     case rel =>
      refine ⟨k+1,by omega,by go_num,Ma.y8 hp.out aJ (by rw [Hx.out]; omega) (by rw [Hx.out]; omega) (by rw [Hx.out]; exact of_decide_eq_false hd),?_,bR.setCell (Nat.le_refl _) _⟩;refine (hs.out.set n _).congr fun i hi=>?_;rw [Ma.om aJ,Hx.out]
      by_cases e:i=n
      ·simp [e]
      ·rw [if_neg e,if_neg (by omega)]
     case measure=>simp [intOf]; omega
    ·rw [hd] at c1
     go_wp2;go_ret;exact ⟨Rg.cG (by rw [← HD.out]; exact (decide_eq_false (Ma.Bw aJ (by rw [Hx.out]; exact of_decide_eq_true hd))).symm),by assumption⟩
   ·go_wp2
    go_ret;exact ⟨Rg.cG (by rw [← HD.out]; exact (decide_eq_false (Ma.HW aJ (by rw [Hx.out]; omega))).symm),by assumption⟩
  ·obtain rfl:k=l.length:=by omega
   go_wp2;go_ret;exact ⟨Rg.cG (by rw [← HD.out]; exact (decide_eq_true (Ma.Bv hp.out)).symm),by assumption⟩
theorem cy (v:Value) (l:List Int) (w:World) (h:Rg.Ints w v l) :
  Calls Tryz.prog 55 #[v] w fun e w'=>e=.returned (.int .i64 (Ma.cj l))∧Below w.heap.size w w':=by
 have hv:=h
 by_cases h1:1≤l.length
 ·by_cases h2:l.length≤64
  ·obtain ⟨a,cap,rfl,hc,hm,_,aN⟩:=h.shape
   clear aN h
   cases hD:decide (Ma.rm l)
   all_goals
    have HD:=ι hD;have hk:=zX _ l w hv h1 (by omega);rw [hD] at hk;clear hD
    go_enter Tryz.func55,Tryz.ntmps55
    go_wp2_with (go_at_call 80; refine hk.mono ?_; rintro e w1 ⟨rfl,cV⟩)
    go_ret
   ·exact ⟨iq (Ma.pF h1 h2 (of_decide_eq_false HD.out)),by assumption⟩
   ·exact ⟨iq (Ma.oq h1 h2 (of_decide_eq_true HD.out)),by assumption⟩
  ·have hp:=ι (Ma.pE (l:=l) (by omega))
   obtain ⟨a,cap,rfl,hc,hm,_,aN⟩:=h.shape;clear aN h hv
   have s5:64<l.length:=by omega
   go_enter Tryz.func55,Tryz.ntmps55
   go_wp2;go_ret;exact ⟨iq hp.out,Below.refl _ _⟩
 ·have hp:=ι (Ma.pE (l:=l) (by omega))
  obtain ⟨a,cap,rfl,hc,hm,_,aN⟩:=h.shape;clear aN h hv
  have s5:l.length<1:=by omega
  go_enter Tryz.func55,Tryz.ntmps55
  go_wp2;go_ret;exact ⟨iq hp.out,Below.refl _ _⟩

theorem vR (gv:Value) (d:Int) (ll:List (List Int)) (w:World) (h:Rg.Rows w gv ll) (h1:1≤d) (h2:d≤64) (h3:ll.length≤16) :
  Calls Tryz.prog 54 #[.agg #[.int .i64 d,gv]] w fun e w'=>e=.returned (.int .i64 (Ma.iR d ll))∧Below w.heap.size w w':=by
 obtain ⟨ad,cap,rfl,hc,hm,_,aN⟩:=h.shape;have Hr:=ι aN;clear aN h
 go_enter Tryz.func54,Tryz.ntmps54
 go_wp2
 go_loopw [3] (fun i wr=>∃ k:Nat,k≤ll.length∧i=.int .i64 k∧Hid (Ma.iR d (ll.drop k)=Ma.iR d ll)∧Hid (Below (w.heap.size+1) (w.alloc (.cells #[.int .i64 d,.slice ad ll.length cap] 24)) wr)) (fun i _=>ll.length - (intOf i).toNat)
 case atStart=>exact ⟨0,by omega,rfl,rfl,Below.refl _ _⟩
 case round =>
  obtain ⟨k,hk,rfl,hp,bR⟩:=hrel;have dG:Below w.heap.size w wr:=((Below.refl _ w).alloc (Nat.le_refl _) _).trans (bR.out.mono (by omega))
  have cd:wr.cell? ⟨w.heap.size,0,none⟩=some (.int .i64 d):=by
   rw [bR.out.cell (by show w.heap.size<_; omega),Rg.aM]; rfl
  have cg:wr.cell? ⟨w.heap.size,1,none⟩=some (.slice ad ll.length cap):=by
   rw [bR.out.cell (by show w.heap.size<_; omega),Rg.aM]; rfl
  have dn:w.heap.size<wr.heap.size:=by have:=bR.out.size; simp at this; omega
  by_cases aJ:k<ll.length
  ·obtain ⟨b,o,rfl,hb,hr⟩:=Hr.out (by omega)
   obtain ⟨u,eu,hu⟩:=hr k aJ;have e0:wr.cell? ⟨b,o+k,none⟩=some u:=(dG.cell (p:=⟨b,o+k,none⟩) hb).trans eu;have fB:=hu.below dG;have U3:b<wr.heap.size:=Nat.lt_of_lt_of_le hb dG.size;obtain ⟨n,a1,c1,hn,rfl,hl⟩:=hu.len;have Hn:=ι hn;clear hr eu hu hn
   by_cases hz:Ma.cj ll[k]=0
   ·have Hz:=ι hz
    have s6:((Ma.cj ll[k]) != 0)=false:=by rw [hz]; rfl
    clear hz
    by_cases hd:(n:Int)=d
    ·have hdd:((n:Int) != d)=false:=by rw [hd]; simp
     have Hd:=ι hd;clear hd
     go_wp2_with (go_at_call 55; refine (cy _ _ _ fB).mono ?_; rintro e w1 ⟨rfl,fJ⟩; have QY:=(fJ.cell (p:=⟨w.heap.size,0,none⟩) dn).trans cd; have Yx:=(fJ.cell (p:=⟨w.heap.size,1,none⟩) dn).trans cg; have e1:=(fJ.cell (p:=⟨b,o+k,none⟩) U3).trans e0)
     go_quiet (fail)
     go_wp2
     go_roundw
     case rel=>exact ⟨k+1,by omega,by go_num,(Ma.sU aJ Hz.out (by rw [Hn.out]; exact Hd.out)).symm.trans hp.out,bR.out.trans (Rg.drewN (fJ.mono dn) _)⟩
     case measure=>simp [intOf]; omega
    ·have hdd:((n:Int) != d)=true:=by rw [bne_iff_ne]; exact hd
     have Hd:=ι hd;clear hd
     go_wp2_with (go_at_call 55; refine (cy _ _ _ fB).mono ?_; rintro e w1 ⟨rfl,fJ⟩; have QY:=(fJ.cell (p:=⟨w.heap.size,0,none⟩) dn).trans cd; have Yx:=(fJ.cell (p:=⟨w.heap.size,1,none⟩) dn).trans cg; have e1:=(fJ.cell (p:=⟨b,o+k,none⟩) U3).trans e0)
     go_quiet (fail)
     go_wp2;go_ret;exact ⟨iq (by rw [← hp.out]; exact Ma.vJ aJ Hz.out (by rw [Hn.out]; exact Hd.out)),Rg.drewN (Rg.acc dG fJ) _⟩
   ·have Hz:=ι hz
    have s6:((Ma.cj ll[k]) != 0)=true:=by rw [bne_iff_ne]; exact hz
    clear hz
    go_wp2_with (go_at_call 55; refine (cy _ _ _ fB).mono ?_; rintro e w1 ⟨rfl,fJ⟩)
    go_ret;exact ⟨iq (by rw [← hp.out]; exact Ma.vI aJ Hz.out),Rg.acc dG fJ⟩
  ·go_wp2
   go_ret;exact ⟨iq (by rw [← hp.out]; exact Ma.vK (by omega)),dG⟩
theorem nS (gv:Value) (d:Int) (ll:List (List Int)) (w:World) (h:Rg.Rows w gv ll) :
  Calls Tryz.prog 54 #[.agg #[.int .i64 d,gv]] w fun e w'=>e=.returned (.int .i64 (Ma.bJ d ll))∧Below w.heap.size w w':=by
 by_cases h1:1≤d
 ·by_cases h2:d≤64
  ·by_cases h3:ll.length≤16
   ·rw [Ma.vL h1 h2 h3]; exact vR gv d ll w h h1 h2 h3
   ·have hg:=ι (Ma.p9 h1 h2 h3)
    obtain ⟨ad,cap,rfl,hc,hm,_,aN⟩:=h.shape;clear aN h
    have QZ:16<ll.length:=by omega
    clear h3
    go_enter Tryz.func54,Tryz.ntmps54
    go_wp2;go_ret;exact ⟨iq hg.out,(Below.refl _ _).alloc (Nat.le_refl _) _⟩
  ·have hg:=ι (Ma.jT (d:=d) (ll:=ll) (by omega))
   have zW:64<d:=by omega
   clear h2 h
   go_enter Tryz.func54,Tryz.ntmps54
   go_wp2;go_ret;exact ⟨iq hg.out,(Below.refl _ _).alloc (Nat.le_refl _) _⟩
 ·have hg:=ι (Ma.jT (d:=d) (ll:=ll) (by omega))
  have U2:d<1:=by omega
  clear h1 h
  go_enter Tryz.func54,Tryz.ntmps54
  go_wp2;go_ret;exact ⟨iq hg.out,(Below.refl _ _).alloc (Nat.le_refl _) _⟩
theorem vA (v1 v2:Value) (l1 l2:List Int) (w:World) (h1:Rg.Ints w v1 l1) (h2:Rg.Ints w v2 l2) :
  Calls Tryz.prog 13 #[v1,v2] w fun e w'=>e=.returned (.bool (decide (l1=l2)))∧∃ k,w'=w.drewN k:=by
 obtain ⟨a1,c1,rfl,n1,m1,_,k1⟩:=h1.shape;obtain ⟨a2,c2,rfl,n2,m2,_,k2⟩:=h2.shape;clear h1 h2;have K1:=ι k1;have K2:=ι k2;clear k1 k2;generalize hD:decide (l1=l2)=D;have HD:=ι hD;clear hD
 by_cases hl:l1.length=l2.length
 ·have hb:((l1.length:Int) != (l2.length:Int))=false:=by rw [hl]; simp
  have Hl:=ι hl;clear hl
  go_enter Tryz.func13,Tryz.ntmps13
  go_wp2;clear hb
  go_loopw [5] (fun v wr=>∃ i:Nat,v=.int .i64 i∧i≤l1.length∧(∃ k,wr=w.drewN k)∧Hid (l1.take i=l2.take i)) (fun v _=>l1.length - (intOf v).toNat)
  case atStart=>exact ⟨0,rfl,by omega,⟨0,rfl⟩,by show _=_; simp⟩
  case round =>
   obtain ⟨i,rfl,hi,⟨k,rfl⟩,hs⟩:=hrel
   by_cases aJ:i<l1.length
   ·have eE:i<l2.length:=by have:=Hl.out; omega
    obtain ⟨b1,o1,rfl,cV,d1⟩:=K1.out (by omega);obtain ⟨b2,o2,rfl,df,d2⟩:=K2.out (by omega);have x1:w.cell? ⟨b1,o1+i,none⟩=_:=d1 i aJ;have x2:w.cell? ⟨b2,o2+i,none⟩=_:=d2 i eE
    have kN:(i:Int)<(l2.length:Int):=by omega
    generalize hx:l1[i]=x at x1;generalize hy:l2[i]=y at x2;have Hx:=ι hx;have Hy:=ι hy;clear d1 d2 hx hy
    by_cases he:x=y
    ·have hb:(x != y)=false:=by rw [he]; simp
     have He:=ι he;clear he;go_wp2
     go_quiet (fail)
     go_wp2
     go_roundw
     case rel=>exact ⟨i+1,by go_num,by omega,⟨_,rfl⟩,by show _=_; rw [List.take_succ_eq_append_getElem aJ,List.take_succ_eq_append_getElem eE,hs.out,Hx.out,Hy.out,He.out]⟩
     case measure=>simp [intOf]; omega
    ·have hb:(x != y)=true:=by rw [bne_iff_ne]; exact he
     have He:=ι he;clear he;go_wp2
     go_quiet (fail)
     go_wp2;go_ret;exact ⟨Rg.cG (by rw [← HD.out]; symm; rw [decide_eq_false_iff_not]; intro hc; subst hc; exact He.out (Hx.out.symm.trans Hy.out)),_,World.drewN_drewN _ _ _⟩
   ·go_wp2
    go_ret;refine ⟨Rg.cG ?_,_,rfl⟩;rw [← HD.out]; symm;rw [decide_eq_true_eq];have h1:=hs.out
    rwa [List.take_of_length_le (by omega),List.take_of_length_le (by have:=Hl.out; omega)] at h1
 ·have hb:((l1.length:Int) != (l2.length:Int))=true:=by rw [bne_iff_ne]; omega
  have Hl:=ι hl;clear hl
  go_enter Tryz.func13,Tryz.ntmps13
  go_wp2;go_ret;exact ⟨Rg.cG (by rw [← HD.out]; symm; rw [decide_eq_false_iff_not]; intro hc; subst hc; exact Hl.out rfl),0,rfl⟩

theorem NP.ints {w:World} {v:Value} {l:List Nat} (h:Rg.NP w v l):Rg.Ints w v (Ma.ah l):=h
theorem mC {w:World} {b:Bool} (h1:Rg.Ints w v1 l1) (h2:Rg.Ints w v2 l2) (hd:Hid (decide (l1=l2)=b)) (hb:Below w0.heap.size w0 w) :
  Calls Tryz.prog 13 #[v1,v2] w fun e w'=>e=.returned (.bool b)∧Below w0.heap.size w0 w' :=
 (vA v1 v2 l1 l2 w h1 h2).mono fun _ _ ⟨a,_,c⟩=>⟨by rw [a,hd.out],by rw [c]; exact Rg.drewN hb _⟩
theorem zY (v1 v2:Value) (l1 l2:List (List Int)) (w:World) (h1:Rg.Rows w v1 l1) (h2:Rg.Rows w v2 l2) :
  Calls Tryz.prog 102 #[v1,v2] w fun e w'=>e=.returned (.bool (decide (l1=l2)))∧∃ k,w'=w.drewN k:=by
 obtain ⟨a1,c1,rfl,n1,m1,_,k1⟩:=h1.shape;obtain ⟨a2,c2,rfl,n2,m2,_,k2⟩:=h2.shape;clear h1 h2;have K1:=ι k1;have K2:=ι k2;clear k1 k2;generalize hD:decide (l1=l2)=D;have HD:=ι hD;clear hD
 by_cases hl:l1.length=l2.length
 ·have hb:((l1.length:Int) != (l2.length:Int))=false:=by rw [hl]; simp
  have Hl:=ι hl;clear hl
  go_enter Tryz.func102,Tryz.ntmps102
  go_wp2;clear hb
  go_loopw [5] (fun v wr=>∃ i:Nat,v=.int .i64 i∧i≤l1.length∧Hid (∃ k,wr=w.drewN k)∧Hid (l1.take i=l2.take i)) (fun v _=>l1.length - (intOf v).toNat)
  case atStart=>exact ⟨0,rfl,by omega,⟨0,rfl⟩,by show _=_; simp⟩
  case round =>
   obtain ⟨i,rfl,hi,hw,hs⟩:=hrel
   by_cases aJ:i<l1.length
   ·have eE:i<l2.length:=by have:=Hl.out; omega
    obtain ⟨b1,o1,rfl,cV,d1⟩:=K1.out (by omega);obtain ⟨b2,o2,rfl,df,d2⟩:=K2.out (by omega);obtain ⟨u1,y1,nn⟩:=d1 i aJ;obtain ⟨u2,y2,ow⟩:=d2 i eE
    have x1:wr.cell? ⟨b1,o1+i,none⟩=some u1:=by obtain ⟨k,e⟩:=hw.out; rw [e]; exact y1
    have x2:wr.cell? ⟨b2,o2+i,none⟩=some u2:=by obtain ⟨k,e⟩:=hw.out; rw [e]; exact y2
    have kN:(i:Int)<(l2.length:Int):=by omega
    generalize hx:l1[i]=x at nn;generalize hy:l2[i]=y at ow;have Hx:=ι hx;have Hy:=ι hy;clear d1 d2 hx hy y1 y2;have hq:∀ n,_:=fun n=>vA u1 u2 x y (wr.drewN n) (by obtain ⟨k,e⟩:=hw.out; rw [e]; exact nn) (by obtain ⟨k,e⟩:=hw.out; rw [e]; exact ow)
    by_cases he:x=y
    ·have hdd:decide (x=y)=true:=decide_eq_true he
     have He:=ι he;rw [hdd] at hq;have Hq:=ι hq;clear he hdd hq;go_wp2
     go_quiet ((go_at_call 13; exact Calls.quiet_of (Hq.out _)))
     go_wp2
     go_roundw
     case rel=>exact ⟨i+1,by go_num,by omega,by obtain ⟨k,e⟩:=hw.out; rw [e]; exact ⟨_,World.drewN_drewN _ _ _⟩,by show _=_; rw [List.take_succ_eq_append_getElem aJ,List.take_succ_eq_append_getElem eE,hs.out,Hx.out,Hy.out,He.out]⟩
     case measure=>simp [intOf]; omega
    ·have hdd:decide (x=y)=false:=decide_eq_false he
     have He:=ι he;rw [hdd] at hq;have Hq:=ι hq;clear he hdd hq;go_wp2
     go_quiet ((go_at_call 13; exact Calls.quiet_of (Hq.out _)))
     go_wp2;go_ret;exact ⟨Rg.cG (by rw [← HD.out]; symm; rw [decide_eq_false_iff_not]; intro hc; subst hc; exact He.out (Hx.out.symm.trans Hy.out)),by obtain ⟨k,e⟩:=hw.out; rw [e]; exact ⟨_,World.drewN_drewN _ _ _⟩⟩
   ·go_wp2
    go_ret;refine ⟨Rg.cG ?_,hw.out⟩;rw [← HD.out]; symm;rw [decide_eq_true_eq];have h1:=hs.out
    rwa [List.take_of_length_le (by omega),List.take_of_length_le (by have:=Hl.out; omega)] at h1
 ·have hb:((l1.length:Int) != (l2.length:Int))=true:=by rw [bne_iff_ne]; omega
  have Hl:=ι hl;clear hl
  go_enter Tryz.func102,Tryz.ntmps102
  go_wp2;go_ret;exact ⟨Rg.cG (by rw [← HD.out]; symm; rw [decide_eq_false_iff_not]; intro hc; subst hc; exact Hl.out rfl),0,rfl⟩

theorem aX:Rg.lU Tryz.prog 25 3 (.int .i64 0) 8:=⟨Tryz.underlying25,oA,rfl,by decide⟩
theorem gW:(Tryz.prog.info? 26).map (fun i=>(i.zero,i.size,i.bytes))=some (some (.slice none 0 0),1,24):=by kernel_rfl
theorem aE:Rg.lU Tryz.prog 22 26 (.slice none 0 0) 24:=⟨Tryz.underlying22,gW,rfl,by decide⟩
theorem af {w:World} {ad:Addr} {v:Value} (h:w.cell? ad=some v):(loadVar 3 ad).run Tryz.prog w=.ok v w:=by
 simp [loadVar,isAgg,run_underlying Tryz.underlying3,load];simp [Sem.run,h]
theorem zZ (X:World) (u v:Value) (hu:∃ a n c,u=.slice a n c) (hv:∃ a n c,v=.slice a n c):(Instr.buildSlice 22 2 #[(0,u),(1,v)]).run Tryz.prog X=.ok (.slice (some ⟨X.heap.size,0,none⟩) 2 2) (X.alloc (.cells #[u,v] 26)):=by
 obtain ⟨i0,hi,dc,bM,eY⟩:=info_parts gW;obtain ⟨a,n,c,rfl⟩:=hu;obtain ⟨a',n',c',rfl⟩:=hv;refine run_buildSlice X 22 26 2 _ _ i0 _ Tryz.underlying22 hi dc (by rw [bM]; decide) (by rw [bM]; decide) ?_;generalize (fun x=>((Value.slice none 0 0).cells)[x % (Value.slice none 0 0).cells.size]!)=f;rw [bM];have h1:Array.range (2*1)=#[0,1]:=rfl;simp [Instr.fill,Value.cells,h1]
def eG (B:Nat) (w:World) (v:Value) (ll:List (List Int)):Prop :=
 ∃ us,Rg.cu w v us∧Rg.cL B v∧us.length=ll.length∧∀ i (h:i<us.length) (h2:i<ll.length),Rg.Ints w us[i] ll[i]∧Rg.cL B us[i]
theorem eG.rows {w:World} {v:Value} (h:eG B w v ll):Rg.Rows w v ll:=by
 obtain ⟨us,h1,_,h3,h4⟩:=h;exact ⟨us,h1,h3,fun i a b=>(h4 i a b).1⟩
theorem eG.mono {B B':Nat} {w:World} {v:Value} {ll:List (List Int)} (h:eG B w v ll) (hb:B'≤B):eG B' w v ll:=by
 obtain ⟨us,h1,h2,h3,h4⟩:=h;exact ⟨us,h1,h2.mono hb,h3,fun i a b=>⟨(h4 i a b).1,(h4 i a b).2.mono hb⟩⟩
theorem qe {w:World} {v:Value} {us:List Value} (h:Rg.cu w v us) (hf:Rg.cL B v) (hs:w.heap.size≤w'.heap.size) (hk:∀ b o,B≤b→b<w.heap.size→w'.cell? ⟨b,o,none⟩=w.cell? ⟨b,o,none⟩):Rg.cu w' v us:=by
 obtain ⟨a,cap,h1,h2,h3,h4,h5⟩:=h;refine ⟨a,cap,h1,h2,h3,h4,fun h0=>?_⟩;obtain ⟨b,o,e1,e2,e3⟩:=h5 h0
 have hB:B≤b:=by
  subst e1;exact hf _ _ _ h1
 exact ⟨b,o,e1,Nat.lt_of_lt_of_le e2 hs,fun i hi=>(hk b _ hB e2).trans (e3 i hi)⟩
theorem eG.keep {w:World} {v:Value} (h:eG B w v ll) (hs:w.heap.size≤w'.heap.size) (hk:∀ b o,B≤b→b<w.heap.size→w'.cell? ⟨b,o,none⟩=w.cell? ⟨b,o,none⟩):eG B w' v ll:=by
 obtain ⟨us,h1,h2,h3,h4⟩:=h;exact ⟨us,qe h1 h2 hs hk,h2,h3,fun i a b=>⟨qe (h4 i a b).1 (h4 i a b).2 hs hk,(h4 i a b).2⟩⟩
theorem eG.below {w:World} {v:Value} (h:eG B w v ll) (hb:Below w.heap.size w w'):eG B w' v ll :=
 h.keep hb.size fun b o _ h2=>hb.cell (p:=⟨b,o,none⟩) h2
theorem eG.set {w:World} {v:Value} (h:eG B w v ll) (b o:Nat) (u:Value) (hb:b<B):eG B (w.setCell ⟨b,o,none⟩ u) v ll:=by
 refine h.keep (by simp) fun b2 o2 h1 h2=>?_
 exact World.cell?_setCell_other (h:=by intro e; injection e with e1; omega) ..
theorem eG.two {B:Nat} {w:World} {v v':Value} {l l':List Int} (t:TypeId) (h:Rg.Ints w v l) (h':Rg.Ints w v' l') (f:Rg.cL B v) (f':Rg.cL B v') (hB:B≤w.heap.size):eG B (w.alloc (.cells #[v,v'] t)) (.slice (some ⟨w.heap.size,0,none⟩) 2 2) [l,l']:=by
 obtain ⟨us,h1,h2,h3⟩:=Rg.Rows.two t h h';refine ⟨[v,v'],⟨_,2,rfl,by simp,by unfold maxLen; simp,by simp [Rg.na],fun _=>⟨w.heap.size,0,rfl,by simp,fun i hi=>?_⟩⟩,(Rg.cL.mk _ _ _ _).mono hB,rfl,fun i h1 h2=>?_⟩
 ·have nc:i=0∨i=1:=by simp at hi; omega
  rcases nc with rfl | rfl
  all_goals
   rw [Rg.aM]; rfl
 ·have nc:i=0∨i=1:=by simp at h1; omega
  rcases nc with rfl | rfl
  ·exact ⟨Rg.Ints.below h ((Below.refl _ _).alloc (Nat.le_refl _) _),f⟩
  ·exact ⟨Rg.Ints.below h' ((Below.refl _ _).alloc (Nat.le_refl _) _),f'⟩
theorem vS:(Tryz.prog.info? 24).map (fun i=>(i.zero,i.size,i.bytes))=some (some (.agg #[.int .i64 0,.slice none 0 0]),2,32):=by kernel_rfl
theorem oG {w:World} {b:Nat} (d:Int) (a:Option Addr) (n c:Nat) (h1:w.cell? ⟨b,0,none⟩=some u1) (h2:w.cell? ⟨b,1,none⟩=some u2) (f1:w.frozen? ⟨b,0,none⟩=false) (f2:w.frozen? ⟨b,1,none⟩=false) :
  (storeVar 24 ⟨b,0,none⟩ (.agg #[.int .i64 d,.slice a n c])).run Tryz.prog w=.ok () ((w.setCell ⟨b,0,none⟩ (.int .i64 d)).setCell ⟨b,1,none⟩ (.slice a n c)):=by
 obtain ⟨i0,hi,dc,bM,eY⟩:=info_parts vS
 have g2:(w.setCell ⟨b,0,none⟩ (.int .i64 d)).cell? ⟨b,1,none⟩=some u2:=by
  rw [World.cell?_setCell_other (h:=by intro e; injection e with e1 e2; omega) ..]
  exact h2
 have gf:(w.setCell ⟨b,0,none⟩ (.int .i64 d)).frozen? ⟨b,1,none⟩=false:=by rw [World.frozen?_setCell]; exact f2
 have z6:(⟨b,0,none⟩:Addr).add 0=⟨b,0,none⟩:=by simp [Addr.add]
 have s_:(⟨b,0,none⟩:Addr).add 1=⟨b,1,none⟩:=by simp [Addr.add]
 simp [storeVar,sizeOf,typeInfo,hi,bM,Value.cells,storeCells,store,z6,s_];simp [Sem.run,h1,f1,g2,gf]
theorem aT {w:World} {b:Nat} {x y:Value} (h1:w.cell? ⟨b,0,none⟩=some x) (h2:w.cell? ⟨b,1,none⟩=some y):(loadVar 24 ⟨b,0,none⟩).run Tryz.prog w=.ok (.agg #[x,y]) w:=by
 obtain ⟨i0,hi,dc,bM,eY⟩:=info_parts vS
 have z6:(⟨b,0,none⟩:Addr).add 0=⟨b,0,none⟩:=by simp [Addr.add]
 have s_:(⟨b,0,none⟩:Addr).add 1=⟨b,1,none⟩:=by simp [Addr.add]
 have hg:(isAgg 24).run Tryz.prog w=.ok true w:=by kernel_rfl
 simp [loadVar,hg,sizeOf,typeInfo,hi,bM,loadCells,loadCellsFrom,load,z6,s_];simp [Sem.run,h1,h2]
theorem vT {fn:Func} {p:Tmp} (h:fn.results=#[.cell p 24]) (tmps:Array Value) {w:World} {b:Nat} {x y:Value} (hp:tmps.getD p undef=.pointer (some ⟨b,0,none⟩)) (h1:w.cell? ⟨b,0,none⟩=some x) (h2:w.cell? ⟨b,1,none⟩=some y) :
  (results fn tmps).run Tryz.prog w=.ok (.agg #[x,y]) w:=by
 have rE:tmps[p]?.getD undef=.pointer (some ⟨b,0,none⟩):=by simpa using hp
 simp [results,h,rE,asAddr,aT h1 h2]
theorem z7 {o:Oper} {a:Act} {w:World} {v:Value} (x y:Operand) (ho:o.op=.buildSlice 22 2 #[(0,x),(1,y)]) (hx:a.eval x=u1) (hy:a.eval y=u2)
  (hr:(Instr.buildSlice 22 2 #[(0,u1),(1,u2)]).run Tryz.prog w=.ok v w'):(execOp a.eval o).run Tryz.prog w=.ok (.value v) w':=by
 subst hx hy;unfold execOp;simp only [ho,Sem.run_bind,Sem.run_pure];simp only [List.map_toArray,List.map_cons,List.map_nil];rw [hr];rfl
theorem z8 {o:Oper} {a:Act} {w:World} {ad:Option Addr} {c:Nat} (x y:Operand) (ho:o.op=.build 24 #[(0,x),(1,y)]) (hx:a.eval x=.int .i64 d) (hy:a.eval y=.slice ad n c) :
  (execOp a.eval o).run Tryz.prog w=.ok (.value (.agg #[.int .i64 d,.slice ad n c])) w:=by
 unfold execOp;simp only [ho,Sem.run_bind,Sem.run_pure];simp only [List.map_toArray,List.map_cons,List.map_nil,hx,hy]
 have h:(Instr.build 24 #[(0,.int .i64 d),(1,.slice ad n c)]).run Tryz.prog w=.ok (.agg #[.int .i64 d,.slice ad n c]) w:=by kernel_rfl
 rw [h];rfl
theorem qf {w:World} {b:Nat} (x y:Value) (h1:W.cell? ⟨b,0,none⟩=some u1) (h2:W.cell? ⟨b,1,none⟩=some u2) (hb:Below B w W) (hB:B≤b:=by omega) :
  ((W.setCell ⟨b,0,none⟩ x).setCell ⟨b,1,none⟩ y).cell? ⟨b,0,none⟩=some x∧((W.setCell ⟨b,0,none⟩ x).setCell ⟨b,1,none⟩ y).cell? ⟨b,1,none⟩=some y∧Below B w ((W.setCell ⟨b,0,none⟩ x).setCell ⟨b,1,none⟩ y):=by
 have g2:(W.setCell ⟨b,0,none⟩ x).cell? ⟨b,1,none⟩=some u2:=by
  rw [World.cell?_setCell_other (h:=by intro e; injection e with e1 e2; omega) ..]
  exact h2
 refine ⟨?_,World.cell?_setCell_same (h:=g2) ..,(hb.setCell hB _).setCell hB _⟩
 rw [World.cell?_setCell_other (h:=by intro e; injection e with e1 e2; omega) ..]
 exact World.cell?_setCell_same (h:=h1) ..
theorem dv (w:World) (cs:Array Value) (t:TypeId) (n j:Nat):((w.alloc (.cells cs t)).drewN n).frozen? ⟨w.heap.size,j,none⟩=false:=by
 have h:(w.alloc (.cells cs t)).frozen? ⟨w.heap.size,j,none⟩=false:=by simp
 exact h
theorem I1 {P:Program} {ops:Array Oper} {rest:List Oper} {o:Oper} {a:Act} {w:World} {Q:Exit→Act→World→Prop} (d:Option Tmp) (hg:o.guard=none) (hd:o.dst=d) (f:FuncId) (args:Array Value)
  (hr:(execOp a.eval o).run P w=.ok (.enter f args) w) (hc:Calls P f args w fun e w'=>∃ v,e=.returned v∧wpList P ops Q rest (a.put d v) w'):wpList P ops Q (o :: rest) a w:=by
 subst hd;refine wpList_plain hg fun K hK=>?_;unfold Oper.wp;rw [hr,Oper.upon_enter];refine hc.mono fun e w' ⟨v,h1,h2⟩=>?_;subst h1;exact hK _ _ h2
theorem pH:(Tryz.prog.info? 3).map (fun i=>(i.zero,i.size,i.bytes))=some (some (.int .i64 0),1,8):=by kernel_rfl
theorem aD {o:Oper} {a:Act} {w:World} (F:FuncId) (x y:Operand) (th:Array TypeId) (ho:o.op=.call { callee:=.value (.func F),args:=#[x,y],argTypes:=th }) (hx:a.eval x=u1) (hy:a.eval y=u2)
  (hF:(callFunc F #[u1,u2]).run Tryz.prog w=.ok (.enter F #[u1,u2]) w):(execOp a.eval o).run Tryz.prog w=.ok (.enter F #[u1,u2]) w:=by
 unfold execOp;have hf:a.eval (.func F)=.func (.func F) #[] #[]:=rfl;simp [ho,hx,hy,hf,resolve,invoke,Deferred.ofValue,hF]
theorem yi {o:Oper} {a:Act} {w:World} (x:Operand) (i:Nat) (ho:o.op=.extract x i) {vs:Array Value} {v:Value} (hx:a.eval x=.tuple vs) (hv:vs[i]?=some v):(execOp a.eval o).run Tryz.prog w=.ok (.value v) w:=by
 unfold execOp;simp [ho,hx,hv,Instr.extract]
theorem er {o:Oper} {a:Act} {w:World} (t e:TypeId) (len:Nat) (parts:Array (Nat × Operand)) (ho:o.op=.buildSlice t len parts) (zs:List Int)
  (hu:Tryz.prog.underlying t=some (.slice e)) (dn:(Tryz.prog.info? e).map (·.size)=some 1) (hz:((Tryz.prog.info? e).bind (·.zero)).isSome=true)
  (hlen:len=zs.length) (aac:0<len) (Yw:len≤2 ^ 24)
  (OB:parts.toList=(zs.zipIdx 0).map fun x=>(x.2,Operand.const (Value.int .i64 x.1))) :
  (execOp a.eval o).run Tryz.prog w=.ok (.value (.slice (some ⟨w.heap.size,0,none⟩) len len)) (w.alloc (.cells (zs.map (Value.int .i64)).toArray e)):=by
 cases Es:Tryz.prog.info? e with
 | none=>simp [Es] at dn
 | some ie =>
  simp only [Es,Option.map_some,Option.some.injEq,Option.bind_some] at dn hz;obtain ⟨z,Yy⟩:=Option.isSome_iff_exists.1 hz
  have h1:=run_buildSlice w t e len (parts.map fun (i,x)=>(i,a.eval x)) ((zs.map (Value.int .i64)).toArray) ie z hu Es Yy (by rw [dn]; omega) (by rw [dn]; omega) (by
   rw [parts_eval a parts .i64 zs OB,dn]
   exact Great.fill_flat _ _ (fun v hv=>by obtain ⟨n,_,rfl⟩:=List.mem_map.1 hv; rfl) (by simp [hlen]))
  unfold execOp;simp only [ho,Sem.run_bind,h1,Result.andThen_ok,Sem.run_pure]
theorem fq (w:World) (t:TypeId) (zs:List Int) (hl:zs.length≤1000):Rg.Ints (w.alloc (.cells (zs.map (Value.int .i64)).toArray t)) (.slice (some ⟨w.heap.size,0,none⟩) zs.length zs.length) zs:=by
 refine ⟨_,zs.length,by simp,by simp,by unfold maxLen; omega,by simp [Rg.na]; omega,fun _=>⟨w.heap.size,0,rfl,by simp,fun i hi=>?_⟩⟩;rw [Nat.zero_add,Rg.aM];simp only [List.getElem?_toArray];exact List.getElem?_eq_getElem hi
theorem Et {w:World} (t:TypeId) (us:List Value) (ll:List (List Int)) (hl:us.length=ll.length) (h1:us.length≤1000) (h:∀ i (h:i<us.length) (h2:i<ll.length),Rg.Ints w us[i] ll[i]∧Rg.cL B us[i]) (hB:B≤w.heap.size) :
  eG B (w.alloc (.cells us.toArray t)) (.slice (some ⟨w.heap.size,0,none⟩) us.length us.length) ll:=by
 refine ⟨us,⟨_,us.length,rfl,Nat.le_refl _,by unfold maxLen; omega,by simp [Rg.na]; omega,fun _=>⟨w.heap.size,0,rfl,by simp,fun i hi=>?_⟩⟩,(Rg.cL.mk _ _ _ _).mono hB,hl,fun i a b=>⟨(h i a b).1.below ((Below.refl _ _).alloc (Nat.le_refl _) _),(h i a b).2⟩⟩;rw [Nat.zero_add,Rg.aM];simp only [List.getElem?_toArray];exact List.getElem?_eq_getElem hi
theorem kO:(Tryz.prog.info? 3).map (·.size)=some 1:=by kernel_rfl
theorem oH:((Tryz.prog.info? 3).bind (·.zero)).isSome=true:=by kernel_rfl
theorem kI {o:Oper} {a:Act} {w:World} (F:FuncId) (th:Array TypeId) (ho:o.op=.call { callee:=.value (.func F),args:=#[],argTypes:=th })
  (hF:(callFunc F #[]).run Tryz.prog w=.ok (.enter F #[]) w):(execOp a.eval o).run Tryz.prog w=.ok (.enter F #[]) w:=by
 unfold execOp;have hf:a.eval (.func F)=.func (.func F) #[] #[]:=rfl;simp [ho,hf,resolve,invoke,Deferred.ofValue,hF]
theorem dN {o:Oper} {a:Act} {w:World} (F:FuncId) (x y z:Operand) (th:Array TypeId) (ho:o.op=.call { callee:=.value (.func F),args:=#[x,y,z],argTypes:=th }) (hx:a.eval x=u1) (hy:a.eval y=u2) (hz:a.eval z=u3)
  (hF:(callFunc F #[u1,u2,u3]).run Tryz.prog w=.ok (.enter F #[u1,u2,u3]) w):(execOp a.eval o).run Tryz.prog w=.ok (.enter F #[u1,u2,u3]) w:=by
 unfold execOp;have hf:a.eval (.func F)=.func (.func F) #[] #[]:=rfl;simp [ho,hx,hy,hz,hf,resolve,invoke,Deferred.ofValue,hF]
theorem lK {o:Oper} {a:Act} {w:World} {v:Value} (x y z:Operand) (ho:o.op=.pick x y z) (hx:a.eval x=.bool true) (hy:a.eval y=v):(execOp a.eval o).run Tryz.prog w=.ok (.value v) w:=by
 unfold execOp;simp [ho,hx,hy,asBool]
theorem aq {o:Oper} {a:Act} {w:World} (F:FuncId) (x:Operand) (th:Array TypeId) (ho:o.op=.call { callee:=.value (.func F),args:=#[x],argTypes:=th }) (hx:a.eval x=u1)
  (hF:(callFunc F #[u1]).run Tryz.prog w=.ok (.enter F #[u1]) w):(execOp a.eval o).run Tryz.prog w=.ok (.enter F #[u1]) w:=by
 unfold execOp;have hf:a.eval (.func F)=.func (.func F) #[] #[]:=rfl;simp [ho,hx,hf,resolve,invoke,Deferred.ofValue,hF]
theorem ints_set {w:World} {v:Value} {l:List Nat} {b o:Nat} (h:Rg.NP w v l) (hf:Rg.cL B v) (hb:b<B) (x:Value):Rg.NP (w.setCell ⟨b,o,none⟩ x) v l :=
 qe h hf (by simp) fun b2 o2 h1 h2=>World.cell?_setCell_other (h:=by intro e; injection e with e1; omega) ..
theorem cI {o:Oper} {a:Act} {w:World} {b:Nat} (x:Operand) (ho:o.op=.fieldAddr 24 x 1) (hx:a.eval x=.pointer (some ⟨b,0,none⟩)) :
  (execOp a.eval o).run Tryz.prog w=.ok (.value (.pointer (some ⟨b,1,none⟩))) w:=by
 have h:(Instr.fieldAt 24 (.pointer (some ⟨b,0,none⟩)) 1).run Tryz.prog w=.ok (.pointer (some ⟨b,1,none⟩)) w:=by kernel_rfl
 unfold execOp;simp only [ho,hx,Sem.run_bind,Sem.run_pure,h,Result.andThen_ok]
theorem qg {P:Program} {ops:Array Oper} {rest:List Oper} {o:Oper} {a:Act} {w:World} {Q:Exit→Act→World→Prop} {v:Value} (d:Option Tmp) (hw:Region.wanted o (yielded ops a.tmps)=true) (hd:o.dst=d)
  (hr:(execOp a.eval o).run P w=.ok (.value v) w') (h:wpList P ops Q rest (a.put d v) w'):wpList P ops Q (o :: rest) a w:=by
 subst hd;unfold wpList;rw [if_pos hw]
 left
 unfold Oper.wp;rw [hr];exact h
theorem dB {P:Program} {ops:Array Oper} {rest:List Oper} {o:Oper} {a:Act} {w:World} {Q:Exit→Act→World→Prop} (d:Option Tmp) (hw:Region.wanted o (yielded ops a.tmps)=true) (hd:o.dst=d) (f:FuncId) (args:Array Value)
  (hr:(execOp a.eval o).run P w=.ok (.enter f args) w) (hc:Calls P f args w fun e w'=>∃ v,e=.returned v∧wpList P ops Q rest (a.put d v) w'):wpList P ops Q (o :: rest) a w:=by
 subst hd;unfold wpList;rw [if_pos hw]
 left
 unfold Oper.wp;rw [hr,Oper.upon_enter];refine hc.mono fun e w' ⟨v,h1,h2⟩=>?_;subst h1;exact h2
theorem zf {o:Oper} {a:Act} {w:World} {u v:Int} (x y:Operand) (ho:o.op=.binOp .eql 30 x y 30) (hx:a.eval x=.int .i64 u) (hy:a.eval y=.int .i64 v) (h:u=v):(execOp a.eval o).run Tryz.prog w=.ok (.value (.bool true)) w:=by
 subst h
 have h:(binOp .eql 30 (.int .i64 u) (.int .i64 u)).run Tryz.prog w=.ok (.bool true) w:=by
  simp [binOp,Op.intCmp]
 have hg:(eqGuard .eql 30 x y (.int .i64 u) (.int .i64 u)).run Tryz.prog w=.ok () w:=by
  simp [eqGuard]
 unfold execOp;simp only [ho,hx,hy,Sem.run_bind,Sem.run_pure,hg,h,Result.andThen_ok]
theorem mD {o:Oper} {a:Act} {w:World} {u r:Int} (x:Operand) (ho:o.op=.unOp .neg 3 x) (hx:a.eval x=.int .i64 u) (h:-u=r) (hb:-9223372036854775808≤r∧r≤9223372036854775807):(execOp a.eval o).run Tryz.prog w=.ok (.value (.int .i64 r)) w:=by
 have h1:(Op.unary .neg (.int .i64 u)).run Tryz.prog w=.ok (.int .i64 r) w:=by
  simp [Op.unary,Op.intArith,h,IntWalk.i64_in r hb]
 unfold execOp;simp only [ho,hx,Sem.run_bind,Sem.run_pure,h1,Result.andThen_ok]
theorem cC {o:Oper} {a:Act} {w:World} {u v:Int} {R:Value} (op:BinOp) (t:TypeId) (x y:Operand) (ho:o.op=.binOp op t x y t) (hx:a.eval x=.int .i64 u) (hy:a.eval y=.int .i64 v) (h1:(binOp op t (.int .i64 u) (.int .i64 v)).run Tryz.prog w=.ok R w):(execOp a.eval o).run Tryz.prog w=.ok (.value R) w:=by
 have hg:(eqGuard op t x y (.int .i64 u) (.int .i64 v)).run Tryz.prog w=.ok () w:=by
  simp [eqGuard]
 unfold execOp;simp only [ho,hx,hy,Sem.run_bind,Sem.run_pure,hg,h1,Result.andThen_ok]
theorem z_ {w:World} {u v r:Int} (t:TypeId) (h:u*v=r) (hb:-9223372036854775808≤r∧r≤9223372036854775807):(binOp .mul t (.int .i64 u) (.int .i64 v)).run Tryz.prog w=.ok (.int .i64 r) w:=by
 simp [binOp,Op.intArith,h,IntWalk.i64_in r hb]
theorem bI {w:World} {u v r:Int} (t:TypeId) (h:u+v=r) (hb:-9223372036854775808≤r∧r≤9223372036854775807):(binOp .add t (.int .i64 u) (.int .i64 v)).run Tryz.prog w=.ok (.int .i64 r) w:=by
 simp [binOp,Op.intArith,h,IntWalk.i64_in r hb]
theorem kP {w:World} {u v r:Int} (t:TypeId) (h:u - v=r) (hb:-9223372036854775808≤r∧r≤9223372036854775807):(binOp .sub t (.int .i64 u) (.int .i64 v)).run Tryz.prog w=.ok (.int .i64 r) w:=by
 simp [binOp,Op.intArith,h,IntWalk.i64_in r hb]
theorem Aa {w:World} {u v r:Int} (t:TypeId) (hv:v≠0) (h:u.tdiv v=r) (hb:-9223372036854775808≤r∧r≤9223372036854775807):(binOp .quo t (.int .i64 u) (.int .i64 v)).run Tryz.prog w=.ok (.int .i64 r) w:=by
 simp [binOp,Op.intDiv,hv,h,IntWalk.i64_in r hb]
theorem cJ {w:World} {u v:Int} {b:Bool} (t:TypeId) (h:decide (u=v)=b):(binOp .eql t (.int .i64 u) (.int .i64 v)).run Tryz.prog w=.ok (.bool b) w:=by
 subst h;simp [binOp,Op.intCmp];rfl
theorem cw {w:World} {u v:Int} {b:Bool} (t:TypeId) (h:decide (v<u)=b):(binOp .gtr t (.int .i64 u) (.int .i64 v)).run Tryz.prog w=.ok (.bool b) w:=by
 subst h;simp [binOp,Op.intCmp]
theorem bE {o:Oper} {a:Act} {w:World} (x:Operand) (t:TypeId) (b:Bool) (ho:o.op=.unOp .not t x) (hx:a.eval x=.bool b):(execOp a.eval o).run Tryz.prog w=.ok (.value (.bool !b)) w:=by
 have h1:(Op.unary .not (.bool b)).run Tryz.prog w=.ok (.bool !b) w:=by
  simp [Op.unary]
 unfold execOp;simp only [ho,hx,Sem.run_bind,Sem.run_pure,h1,Result.andThen_ok]
theorem ec {o:Oper} {a:Act} {w:World} {v:Value} (x y z:Operand) (ho:o.op=.pick x y z) (hx:a.eval x=.bool false) (hz:a.eval z=v):(execOp a.eval o).run Tryz.prog w=.ok (.value v) w:=by
 unfold execOp;simp [ho,hx,hz,asBool]
theorem cZ {o:Oper} {a:Act} {w:World} (e:TypeId) (x:Operand) (t:TypeId) (ho:o.op=.call { callee:=.builtin .len,args:=#[x],argTypes:=#[t] }) (ht:Tryz.prog.underlying t=some (.slice e)) (ad:Option Addr) (n c:Nat) (hx:a.eval x=.slice ad n c):(execOp a.eval o).run Tryz.prog w=.ok (.value (.int .i64 (n:Int))) w:=by
 have hw:goInt (n:Int)=.int .i64 (n:Int):=rfl;unfold execOp;simp [ho,hx,resolve,invoke,builtin,Builtin.len_,run_underlying ht,Result.andThen,hw]
theorem jW {P:Program} {ops:Array Oper} {rest:List Oper} {o:Oper} {a:Act} {w:World} {Q:Exit→Act→World→Prop} (d:Option Tmp) (hw:Region.wanted o (yielded ops a.tmps)=false) (hd:o.dst=d)
  (h:wpList P ops Q rest (a.put d undef) w):wpList P ops Q (o :: rest) a w:=by
 subst hd;unfold wpList;rw [if_neg (by rw [hw]; decide)];exact h
theorem qh {w:World} {a:Addr} {v:Value} (h:w.cell? a=some v):a.spot=none:=by
 unfold World.cell? at h
 split at h
 ·split at h
  ·cases h
  ·rename_i hs; simpa using hs
 ·cases h
theorem tj {a:Addr} {b o:Nat} (h:a=⟨b,o,none⟩) (i:Nat):a.add i=⟨b,o+i,none⟩:=by
 subst h;unfold Addr.add
 split
 ·rename_i h0; subst h0; rfl
 ·rfl
theorem KJ:Tryz.prog.cellsOf 26=1:=by kernel_rfl
theorem H4:Tryz.prog.cellsOf 3=1:=by kernel_rfl
theorem KL:Tryz.prog.cellsOf 24=2:=by kernel_rfl
theorem gK {w:World} {a:Addr} {v:Value} (h:w.cell? a=some v):a.block<w.heap.size:=by
 unfold World.cell? at h
 split at h
 ·rename_i hh; exact (Array.getElem?_eq_some_iff.1 hh).1
 ·cases h
end Go.Proofs.YtbngdgfmlmkgiaaGreat

namespace Go.Proofs.Rg
open Go.RowKit
theorem _root_.d3 {P : Program} {ops : Array Oper} {rest : List Oper} {o : Oper} {a : Act} {w:World} {Q : Exit → Act → World → Prop} {v : Value} (d : Nat) (hr : (execOp a.eval o).run P w = .ok (.value v) w') (h : wpList P ops Q rest (a.put (some d) v) w') (hw : Region.wanted o (yielded ops a.tmps) = true := by exact rfl) (hd : o.dst = some d := by exact rfl) : wpList P ops Q (o :: rest) a w := Go.Proofs.YtbngdgfmlmkgiaaGreat.qg (some d) hw hd hr h
theorem _root_.d4 {P : Program} {ops : Array Oper} {rest : List Oper} {o : Oper} {a : Act} {w : World} {Q : Exit → Act → World → Prop} (d : Nat) {f : FuncId} {args : Array Value} (hr : (execOp a.eval o).run P w = .ok (.enter f args) w) (hc : Calls P f args w fun e w' => ∃ v, e = .returned v ∧ wpList P ops Q rest (a.put (some d) v) w') (hg : o.guard = none := by exact rfl) (hd : o.dst = some d := by exact rfl) : wpList P ops Q (o :: rest) a w := Go.Proofs.YtbngdgfmlmkgiaaGreat.I1 (some d) hg hd f args hr hc
theorem _root_.d5 {p : Prop} [Decidable p] (h : p := by omega) : decide p = true := decide_eq_true h
theorem _root_.d6 {p : Prop} [Decidable p] (h : ¬ p := by omega) : decide p = false := decide_eq_false h
end Go.Proofs.Rg

namespace Go.Proofs.Rg
open Go.RowKit Go.Proofs.YtbngdgfmlmkgiaaGreat
theorem _root_.d7 {P : Program} {ops : Array Oper} {rest : List Oper} {o : Oper} {a : Act} {w : World} {Q : Exit → Act → World → Prop} (d : Nat) (h : wpList P ops Q rest (a.put (some d) undef) w) (hw : Region.wanted o (yielded ops a.tmps) = false := by kernel_rfl) (hd : o.dst = some d := by exact rfl) : wpList P ops Q (o :: rest) a w := jW (some d) hw hd h
theorem _root_.d8 (v : Value) (p : Addr) {P : Program} {o : Oper} {a : Act} {w : World} {t : TypeId} {x : Operand} (hr : (loadVar t p).run P w = .ok v w) (ho : o.op = .load t x := by exact rfl) (hx : a.eval x = .pointer (some p) := by exact rfl) : (execOp a.eval o).run P w = .ok (.value v) w := nh (v := v) t x ho p hx hr
theorem _root_.d9 (R : Value) (op : BinOp) {o : Oper} {a : Act} {w : World} {u v : Int} {t : TypeId} {x y : Operand} (ho : o.op = .binOp op t x y t := by exact rfl) (hx : a.eval x = .int .i64 u := by exact rfl) (hy : a.eval y = .int .i64 v := by exact rfl) (h : (binOp op t (.int .i64 u) (.int .i64 v)).run Tryz.prog w = .ok R w) : (execOp a.eval o).run Tryz.prog w = .ok (.value R) w := cC op t x y ho hx hy h
theorem _root_.e8 {o : Oper} {a : Act} {w : World} {e : TypeId} {x : Operand} {t : TypeId} (ht : Tryz.prog.underlying t = some (.slice e)) {ad : Option Addr} {c:Nat} (ho : o.op = .call { callee := .builtin .len, args := #[x], argTypes := #[t] } := by exact rfl) (hx : a.eval x = .slice ad n c := by exact rfl) : (execOp a.eval o).run Tryz.prog w = .ok (.value (.int .i64 (n : Int))) w := cZ e x t ho ht ad n c hx
theorem _root_.f4 (v : Value) {o : Oper} {a : Act} {w : World} {x y z : Operand} (ho : o.op = .pick x y z := by exact rfl) (hx : a.eval x = .bool false := by exact rfl) (hz : a.eval z = v := by exact rfl) : (execOp a.eval o).run Tryz.prog w = .ok (.value v) w := ec x y z ho hx hz
theorem _root_.f7 (v : Value) {o : Oper} {a : Act} {w : World} {x y z : Operand} (ho : o.op = .pick x y z := by exact rfl) (hx : a.eval x = .bool true := by exact rfl) (hy : a.eval y = v := by exact rfl) : (execOp a.eval o).run Tryz.prog w = .ok (.value v) w := lK x y z ho hx hy
theorem _root_.f8 (v : Value) {o : Oper} {a : Act} {w : World} {x : Operand} {i : Nat} {vs : Array Value} (ho : o.op = .extract x i := by exact rfl) (hx : a.eval x = .tuple vs := by exact rfl) (hv : vs[i]? = some v := by exact rfl) : (execOp a.eval o).run Tryz.prog w = .ok (.value v) w := yi x i ho hx hv
theorem _root_.f9 {P : Program} {md : Region.Mode} {ops : Array Oper} {Q : Exit → Act → World → Prop} {T T2 : World → Prop} {oi : Oper} {l : Array Bool} {a : Act} {w : World} (i t : Nat) (v : Value) (d : Nat) (hi : ops[i]? = some oi) (hd : oi.dst = some d) (hy : YieldsIf P ops T oi v a) (hS : aH t T T2 l w) (h : Any P md ops Q (aH t T T2) n (l.setIfInBounds i true) (a.put (some d) v) w)
    (hs : Region.noSelect ops = true := by kernel_rfl) (hf : Region.free md ops l i = true := by kernel_rfl) (hr : (Region.ready md ops l).contains i = true := by kernel_rfl) (hQ : ∀ c a w, Q (.panic c) (a.put (some d) v) w → Q (.panic c) a w := by exact fun _ _ _ h => h) (nW : (t == i) = false := by exact rfl) (hw : Region.waitsFor md ops t i = true := by kernel_rfl) (hl : l.getD t false = false := by exact rfl) : Any P md ops Q (aH t T T2) (n + 1) l a w := Any.QV (some d) hi hd hs hf hr hQ nW hw hl hy hS h
theorem _root_.g5 {P : Program} {md : Region.Mode} {ops : Array Oper} {Q : Exit → Act → World → Prop} {S : Array Bool → World → Prop} {oi : Oper} {v : Value} {l : Array Bool} {a : Act} {w:World} (i d : Nat) (hi : ops[i]? = some oi) (hd : oi.dst = some d) (hr : (execOp a.eval oi).run P w = .ok (.value v) w') (hS : S (l.setIfInBounds i true) w') (h : Any P md ops Q S n (l.setIfInBounds i true) (a.put (some d) v) w') (hw : Region.wanted oi (yielded ops a.tmps) = true := by exact rfl) (Yz : Region.ready md ops l = [i] := by kernel_rfl) : Any P md ops Q S (n + 1) l a w := Any.one Yz (Any.run (some d) hi hd hw hr hS h)
theorem _root_.g6 (ad : Addr) {P : Program} {ops : Array Oper} {o : Oper} {a : Act} {v : Value} {T : World → Prop} {t : TypeId} {x : Operand} (hr : ∀ w, T w → (loadVar t ad).run P w = .ok v w) (hg : Region.wanted o (yielded ops a.tmps) = true := by exact rfl) (ho : o.op = .load t x := by exact rfl) (hx : a.eval x = .pointer (some ad) := by exact rfl) : YieldsIf P ops T o v a := zV t x hg ho ad hx hr

theorem _root_.g7 {P : Program} {ops : Array Oper} {o : Oper} {a : Act} {v : Value} {T : World → Prop} (h : ∀ w, (execOp a.eval o).run P w = .ok (.value v) w) (hg : Region.wanted o (yielded ops a.tmps) = true := by exact rfl) : YieldsIf P ops T o v a := .inl ⟨hg, fun w _ => h w⟩

def _root_.g9 (a : Act) (o : Oper) : Option Value := match o.op with
  | .move x => some (a.eval x)
  | .assign x => some (a.eval x)
  | _ => none
theorem _root_.i3 (v : Value) {P : Program} {ops : Array Oper} {rest : List Oper} {o : Oper} {a : Act} {w : World} {Q : Exit → Act → World → Prop} (hx : g9 a o = some v) (h : wpList P ops Q rest (a.put o.dst v) w) (hw : Region.wanted o (yielded ops a.tmps) = true := by exact rfl) : wpList P ops Q (o :: rest) a w := by
  refine Go.Proofs.YtbngdgfmlmkgiaaGreat.qg o.dst hw rfl (v := v) (w' := w) ?_ h
  unfold g9 at hx
  split at hx
  · exact cM (v := v) _ ‹_› (Option.some.inj hx)
  · exact fH (v := v) _ ‹_› (Option.some.inj hx)
  · cases hx
theorem _root_.i4 {P : Program} {ops : Array Oper} {rest : List Oper} {o : Oper} {a : Act} {w : World} {Q : Exit → Act → World → Prop} {k : IntKind} {n : Int} (hx : g9 a o = some (.int k n)) (h : wpList P ops Q rest (a.put o.dst (.int k n)) w) (hw : Region.wanted o (yielded ops a.tmps) = true := by exact rfl) : wpList P ops Q (o :: rest) a w := i3 _ hx h hw
theorem _root_.i5 {P : Program} {ops : Array Oper} {rest : List Oper} {o : Oper} {a : Act} {w : World} {Q : Exit → Act → World → Prop} {p : Option Addr} {c:Nat} (hx : g9 a o = some (.slice p n c)) (h : wpList P ops Q rest (a.put o.dst (.slice p n c)) w) (hw : Region.wanted o (yielded ops a.tmps) = true := by exact rfl) : wpList P ops Q (o :: rest) a w := i3 _ hx h hw
theorem _root_.i6 {P : Program} {ops : Array Oper} {rest : List Oper} {o : Oper} {a : Act} {w : World} {Q : Exit → Act → World → Prop} {p : Option Addr} (hx : g9 a o = some (.pointer p)) (h : wpList P ops Q rest (a.put o.dst (.pointer p)) w) (hw : Region.wanted o (yielded ops a.tmps) = true := by exact rfl) : wpList P ops Q (o :: rest) a w := i3 _ hx h hw
theorem _root_.i7 {P : Program} {ops : Array Oper} {rest : List Oper} {o : Oper} {a : Act} {w : World} {Q : Exit → Act → World → Prop} {b : Bool} (hx : g9 a o = some (.bool b)) (h : wpList P ops Q rest (a.put o.dst (.bool b)) w) (hw : Region.wanted o (yielded ops a.tmps) = true := by exact rfl) : wpList P ops Q (o :: rest) a w := i3 _ hx h hw
theorem _root_.i8 {P : Program} {ops : Array Oper} {rest : List Oper} {o : Oper} {a : Act} {w:World} {Q : Exit → Act → World → Prop} {v : Value} (hr : (execOp a.eval o).run P w = .ok (.value v) w') (h : wpList P ops Q rest (a.put o.dst v) w') (hw : Region.wanted o (yielded ops a.tmps) = true := by exact rfl) : wpList P ops Q (o :: rest) a w := Go.Proofs.YtbngdgfmlmkgiaaGreat.qg o.dst hw rfl hr h
end Go.Proofs.Rg

namespace Go.Proofs.Ob
abbrev En:=Nat × Int × Nat × List Nat
def vU (T:List En):List Nat:=T.map (·.1)
def BK (gs:List (List Nat)) (s x:Nat):Nat:=(gs.getD s []).getD x 0
def gL (gs:List (List Nat)) (e:En) (T:List En) (s:Nat):List En :=
 if BK gs s e.1∈vU T then T else T++[(BK gs s e.1,(e.1:Int),s+1,e.2.2.2++[s+1])]
def U4 (gs:List (List Nat)) (e:En) (T:List En) (n:Nat):List En:=(List.range n).foldl (gL gs e) T
def OC (gs:List (List Nat)) (p:Nat):Nat→List En
 | 0=>[(p,-1,0,[])]
 | k+1=>match (OC gs p k)[k]? with
  | some e=>U4 gs e (OC gs p k) gs.length
  | none=>OC gs p k
def tree (gs:List (List Nat)) (D p:Nat):List En:=OC gs p D
theorem kQ (T:List En):(vU T).length=T.length:=by simp [vU]
theorem rF (T:List En) (i:Nat) (h:i<(vU T).length):(vU T)[i]=(T[i]'(by rw [← kQ]; exact h)).1:=by simp [vU]
theorem iy {e:En} {T:List En} {s:Nat} (h:BK gs s e.1∈vU T):gL gs e T s=T:=by unfold gL; rw [if_pos h]
theorem eL {e:En} {T:List En} {s:Nat} (h:BK gs s e.1∉vU T):gL gs e T s=T++[(BK gs s e.1,(e.1:Int),s+1,e.2.2.2++[s+1])]:=by unfold gL; rw [if_neg h]
def Cl (D:Nat) (gs:List (List Nat)):Prop:=∀ s,s<gs.length→∀ x,x<D→BK gs s x<D
def Eu (gs:List (List Nat)) (D:Nat) (w:List Nat):List Nat:=w.foldl (fun a g=>Ma.aj a (gs.getD (g - 1) [])) (Ma.aR D)
def wd (T:List En) (q:Nat):List Nat:=((T.find? fun e=>e.1 == q).map (·.2.2.2)).getD []
theorem KM {T:List En} (h:(vU T).Nodup) {i:Nat} (hi:i<T.length):T.find? (fun e=>e.1 == T[i].1)=some T[i]:=by
 rw [List.find?_eq_some_iff_getElem];refine ⟨by simp,i,hi,rfl,fun j hj=>?_⟩;simp only [Bool.not_eq_true',beq_eq_false_iff_ne];intro e;have h1:=rF T i (by rw [kQ]; exact hi);have h2:=rF T j (by rw [kQ]; omega);have:=(List.getElem_inj h).1 (h2.trans (e.trans h1.symm));omega
theorem tq {T:List En} (h:(vU T).Nodup) {i:Nat} (hi:i<T.length):wd T T[i].1=T[i].2.2.2:=by
 unfold wd; rw [KM h hi]; rfl

def pV:List Int→Int→List Int
 | [],x=>[x]
 | a :: r,x=>if a<x then a :: pV r x else x :: a :: r
def pQ (l:List Int):List Int:=l.foldl pV []
def KN (x y:Int):Bool:=decide (x≤y)
theorem qi:∀ (out:List Int) (x:Int),(pV out x).Perm (x :: out)
 | [],x=>List.Perm.refl _
 | a :: r,x=>by
  show (if a<x then a :: pV r x else x :: a :: r).Perm _
  split
  ·exact ((qi r x).cons a).trans (List.Perm.swap x a r)
  ·exact List.Perm.refl _
theorem rG:∀ (out:List Int) (x:Int),out.Pairwise (·≤·)→(pV out x).Pairwise (·≤·)
 | [],x,_=>by simp [pV]
 | a :: r,x,h=>by
  rw [List.pairwise_cons] at h;show (if a<x then a :: pV r x else x :: a :: r).Pairwise _
  split
  ·rename_i YA
   rw [List.pairwise_cons];refine ⟨fun y hy=>?_,rG r x h.2⟩
   rcases List.mem_cons.1 ((qi r x).mem_iff.1 hy) with rfl | hy
   ·omega
   ·exact h.1 y hy
  ·rename_i YA
   rw [List.pairwise_cons,List.pairwise_cons];refine ⟨fun y hy=>?_,h.1,h.2⟩
   rcases List.mem_cons.1 hy with rfl | hy
   ·omega
   ·have:=h.1 y hy; omega
theorem zg:∀ (l out:List Int),out.Pairwise (·≤·)→(l.foldl pV out).Perm (l++out)∧(l.foldl pV out).Pairwise (·≤·)
 | [],out,h=>⟨List.Perm.refl _,h⟩
 | x :: l,out,h=>by
  obtain ⟨h1,h2⟩:=zg l (pV out x) (rG out x h);refine ⟨h1.trans ?_,h2⟩;exact ((qi out x).append_left l).trans (List.perm_middle)
theorem rH:∀ {l l':List Int},l.Perm l'→l.Pairwise (·≤·)→l'.Pairwise (·≤·)→l=l'
 | [],l',h,_,_=>(List.nil_perm.1 h).symm▸rfl
 | a :: r,[],h,_,_=>by simp at h
 | a :: r,b :: r',h,h1,h2=>by
  rw [List.pairwise_cons] at h1 h2
  have e1:a≤b:=by
   rcases List.mem_cons.1 (h.mem_iff.2 (List.mem_cons_self ..):b∈a :: r) with e | hb
   ·omega
   ·exact h1.1 b hb
  have e2:b≤a:=by
   rcases List.mem_cons.1 (h.mem_iff.1 (List.mem_cons_self ..):a∈b :: r') with e | hb
   ·omega
   ·exact h2.1 a hb
  obtain rfl:a=b:=by omega
  rw [rH ((List.perm_cons a).1 h) h1.2 h2.2]
theorem tu (l:List Int):pQ l=l.mergeSort KN:=by
 obtain ⟨h1,h2⟩:=zg l [] List.Pairwise.nil;rw [List.append_nil] at h1;refine rH (h1.trans (List.mergeSort_perm l KN).symm) h2 ?_;have:=List.pairwise_mergeSort (le:=KN) (fun a b c h h'=>by unfold KN at *; rw [decide_eq_true_iff] at *; omega) (fun a b=>by unfold KN; simp; omega) l;exact this.imp (fun h=>of_decide_eq_true h)
end Go.Proofs.Ob

namespace Go.Proofs.YtbngdgfmlmkgiaaGreat
open Go.RowKit
open Go.Proofs
attribute [local irreducible] Go.Calls
def Q1 (d:Int) (ll:List (List Int)) (w:World) (e:Ending) (w':World):Prop :=
 ∃ a n c,e=.returned (.agg #[.int .i64 d,.slice a n c])∧eG w.heap.size w' (.slice a n c) ll∧Below w.heap.size w w'
end Go.Proofs.YtbngdgfmlmkgiaaGreat

namespace Go.Proofs.YtbngdgfmlmkgiaaGreat
open Go.RowKit
open Go.Proofs
open Go.Proofs.Ob
attribute [local irreducible] Go.Calls
theorem aY {o:Oper} {a:Act} {w:World} {ad:Addr} (x:Operand) (ho:o.op=.nilCheck x) (hx:a.eval x=.pointer (some ad)):(execOp a.eval o).run Tryz.prog w=.ok (.value (.pointer (some ad))) w:=by
 unfold execOp;simp only [ho,hx,Sem.run_pure]
theorem aA {o:Oper} {a:Act} {w:World} {t:TypeId} {i:Nat} {v r:Value} (x:Operand) (ho:o.op=.fieldAddr t x i) (hx:a.eval x=v) (h:(Instr.fieldAt t v i).run Tryz.prog w=.ok r w):(execOp a.eval o).run Tryz.prog w=.ok (.value r) w:=by
 unfold execOp;simp only [ho,hx,Sem.run_bind,Sem.run_pure,h,Result.andThen_ok]
theorem bp {o:Oper} {a:Act} {w:World} {t e:TypeId} (x y:Operand) (ho:o.op=.indexAddr t x y) (hu:Tryz.prog.underlying t=some (.array n e)) (dn:(Tryz.prog.info? e).map (·.size)=some 1) (b of i:Nat) (hx:a.eval x=.pointer (some ⟨b,of,none⟩)) (hy:a.eval y=.int .i64 (i:Int)) (hi:i<n) :
  (execOp a.eval o).run Tryz.prog w=.ok (.value (.pointer (some ⟨b,of+i,none⟩))) w:=by
 obtain ⟨ie,Es,hs⟩:=Option.map_eq_some_iff.1 dn;have h1:(0:Int)≤(i:Int)∧(i:Int)<(n:Int):=⟨by omega,by omega⟩
 have hr:(Instr.indexAt t (.pointer (some ⟨b,of,none⟩)) (.int .i64 (i:Int))).run Tryz.prog w=.ok (.pointer (some ⟨b,of+i,none⟩)) w:=by
  simp [Instr.indexAt,asIntOf,run_underlying hu,sizeOf,typeInfo,Es,hs,h1,Addr.add,Instr.sureAddr]
  first | done | rfl | (rw [if_pos hi]; split <;> simp_all)
 unfold execOp;simp only [ho,hx,hy,Sem.run_bind,Sem.run_pure,hr,Result.andThen_ok]
end Go.Proofs.YtbngdgfmlmkgiaaGreat

namespace Go.Proofs.Rg
open Go.RowKit Go.Proofs.YtbngdgfmlmkgiaaGreat
theorem _root_.g8 {o : Oper} {a : Act} {w : World} {t : TypeId} {i : Nat} {v r : Value} {x : Operand} (h : (Instr.fieldAt t v i).run Tryz.prog w = .ok r w) (ho : o.op = .fieldAddr t x i := by exact rfl) (hx : a.eval x = v := by exact rfl) : (execOp a.eval o).run Tryz.prog w = .ok (.value r) w := aA x ho hx h
end Go.Proofs.Rg

namespace Go.Proofs.YtbngdgfmlmkgiaaGreat
open Go.RowKit
open Go.Proofs
open Go.Proofs.Ob
attribute [local irreducible] Go.Calls
theorem kt (X:World) (x:Int):(Instr.buildSlice 25 1 #[(0,.int .i64 x)]).run Tryz.prog X=.ok (.slice (some ⟨X.heap.size,0,none⟩) 1 1) (X.alloc (.cells #[.int .i64 x] 3)):=by
 obtain ⟨i0,hi,dc,bM,eY⟩:=info_parts pH;refine run_buildSlice X 25 3 1 _ _ i0 _ Tryz.underlying25 hi dc (by rw [bM]; decide) (by rw [bM]; decide) ?_;generalize (fun x=>((Value.int IntKind.i64 0).cells)[x % (Value.int IntKind.i64 0).cells.size]!)=f;rw [bM];have h1:Array.range (1*1)=#[0]:=rfl;simp [Instr.fill,Value.cells,h1]
theorem ee {w:World} {b o:Nat} {u:Value} (v:Int) (h:w.cell? ⟨b,o,none⟩=some u) (hf:w.frozen? ⟨b,o,none⟩=false) :
  (storeVar 3 ⟨b,o,none⟩ (.int .i64 v)).run Tryz.prog w=.ok () (w.setCell ⟨b,o,none⟩ (.int .i64 v)):=by
 obtain ⟨i0,hi,dc,bM,eY⟩:=info_parts pH
 have h0:(⟨b,o,none⟩:Addr).add 0=⟨b,o,none⟩:=by simp [Addr.add]
 simp [storeVar,sizeOf,typeInfo,hi,bM,Value.cells,storeCells,store,h0];simp [Sem.run,h,hf]
theorem kR {w:World} {b o:Nat} {u:Value} (v:Bool) (h:w.cell? ⟨b,o,none⟩=some u) (hf:w.frozen? ⟨b,o,none⟩=false) :
  (storeVar 4 ⟨b,o,none⟩ (.bool v)).run Tryz.prog w=.ok () (w.setCell ⟨b,o,none⟩ (.bool v)):=by
 obtain ⟨i0,hi,dc,bM,eY⟩:=info_parts s9
 have h0:(⟨b,o,none⟩:Addr).add 0=⟨b,o,none⟩:=by simp [Addr.add]
 simp [storeVar,sizeOf,typeInfo,hi,bM,Value.cells,storeCells,store,h0];simp [Sem.run,h,hf]

theorem cR {P:Program} {t e:TypeId} (T:Rg.lU P t e z bytes) (ty:TypeId) {v u:Value} (gG:X.ownsRow B e 1 v n xs) (hX:B≤X.heap.size) (p c:Nat)
  (hu:X.cell? ⟨p,0,none⟩=some u) (h1:u.oneCell'=true) (hn:n<1000000) :
  ∃ v' X',(Builtin.append_ #[t,t] ty #[v,.slice (some ⟨p,0,none⟩) 1 c]).run P X=.ok v' X'∧X'.ownsRow B e 1 v' (n+1) (xs++[u])∧X.grownBy X' v.ownBlock∧(v'.ownBlock=v.ownBlock∨v'.ownBlock=some X.heap.size)∧∃ a c,v'=.slice a (n+1) c:=by
 obtain ⟨i0,hi,dc,bM,eY⟩:=info_parts T.info
 obtain ⟨v',w',hr,h2,h3,h4,h5⟩:=run_append_own_at (P:=P) X B t ty e i0 z 1 bytes T.ty hi dc bM eY T.zc (by decide) v n xs gG ⟨p,0,none⟩ 1 c [u] rfl (fun j x hj=>by
  obtain rfl:j=0:=by have:=(List.getElem?_eq_some_iff.1 hj).1; simpa using this
  simp at hj; subst hj
  rw [show (⟨p,0,none⟩:Addr).add 0=⟨p,0,none⟩ from rfl]; exact hu) (by simpa using h1) (by unfold maxLen; omega) (by have:(n+1)*bytes≤1000000*64:=Nat.mul_le_mul (by omega) T.small; omega) hX
 exact ⟨v',w',hr,h2,h3,h5,Rg.bY h2⟩
theorem ag {o:Oper} {a:Act} {w:World} {t e:TypeId} (T:Rg.lU Tryz.prog t e z bytes) (x y:Operand) (ho:o.op=.indexAddr t x y) (b of len cap i:Nat) (hx:a.eval x=.slice (some ⟨b,of,none⟩) len cap) (hy:a.eval y=.int .i64 (i:Int)) (hi:i<len) :
  (execOp a.eval o).run Tryz.prog w=.ok (.value (.pointer (some ⟨b,of+i,none⟩))) w:=by
 have:=Rg.rC T w b of len cap i hi;unfold execOp;simp only [ho,hx,hy,Sem.run_bind,Sem.run_pure,Result.andThen_ok,this]
theorem jR {w:World} {ad:Addr} {v:Value} (h:w.cell? ad=some v):(loadVar 4 ad).run Tryz.prog w=.ok v w:=by
 simp [loadVar,isAgg,run_underlying Tryz.underlying4,load];simp [Sem.run,h]
theorem KP:(Tryz.prog.info? 3).map (·.size)=some 1:=by kernel_rfl

def GG (d:Nat) (gs:List (List Nat)):Prop:=∀ s∈gs,Ma.lB s∧s.length=d
theorem KU {s:Nat} (hs:s<gs.length):gs.getD s []=gs[s]:=by
 rw [List.getD_eq_getElem?_getD,List.getElem?_eq_getElem hs,Option.getD_some]
theorem KV {s x:Nat} (hs:s<gs.length) (hx:x<gs[s].length):BK gs s x=gs[s][x]:=by
 unfold BK;rw [KU hs,Ma.getD_lt hx]
theorem GG.cl (h:GG D gs):Cl D gs:=fun s hs x hx=>by
 obtain ⟨h1,h2⟩:=h _ (List.getElem_mem hs);rw [KV hs (by omega)];have:=h1.1 _ (List.getElem_mem (show x<gs[s].length by omega));omega
theorem mix:Tryz.prog.follows .mixedOrders=true:=by kernel_rfl

theorem fK:Rg.lU Tryz.prog 35 3 (.int .i64 0) 8:=⟨Tryz.underlying35,oA,rfl,by decide⟩

theorem iz (h:Ma.bJ d ll=0):∃ (D:Nat) (gs:List (List Nat)),d=D∧ll=gs.map Ma.ah∧GG D gs∧1≤D∧D≤64∧gs.length≤16:=by
 unfold Ma.bJ at h
 split at h
 ·rename_i h1
  split at h
  ·rename_i h2
   have hz:=Ma.sV h;obtain ⟨D,rfl⟩:∃ D:Nat,d=D:=⟨d.toNat,by omega⟩
   have hex:∀ l∈ll,∃ p,l=Ma.ah p∧Ma.lB p∧p.length=D:=fun l hl=>by
    obtain ⟨a,b⟩:=hz l hl;obtain ⟨_,_,c⟩:=Ma.jC a;obtain ⟨p,rfl,hp⟩:=Ma.mn c;rw [Ma.aG] at b;exact ⟨p,rfl,hp,by omega⟩
   clear h hz
   have:∃ gs:List (List Nat),ll=gs.map Ma.ah∧GG D gs:=by
    clear h2
    induction ll with
    | nil=>exact ⟨[],rfl,fun s hs=>by simp at hs⟩
    | cons l r ih =>
     obtain ⟨gs,rfl,hg⟩:=ih (fun x hx=>hex x (List.mem_cons_of_mem _ hx));obtain ⟨p,rfl,h3,h4⟩:=hex l (List.mem_cons_self ..)
     exact ⟨p :: gs,rfl,fun s hs=>by
      rcases List.mem_cons.1 hs with rfl | hs
      ·exact ⟨h3,h4⟩
      ·exact hg s hs⟩
   obtain ⟨gs,rfl,hg⟩:=this;exact ⟨D,gs,rfl,rfl,hg,by omega,by omega,by simpa using h2⟩
  ·simp at h
 ·simp at h

theorem zh {P:Program} {t e:TypeId} (T:Rg.lU P t e z bytes) (ty:TypeId) {v u:Value} (gG:X.ownsRow B e 1 v n xs) (hX:B≤X.heap.size) (p c:Nat)
  (hu:X.cell? ⟨p,0,none⟩=some u) (h1:u.oneCell'=true) (hn:n<1000000) :
  ∃ v' X',(Builtin.append_ #[t,t] ty #[v,.slice (some ⟨p,0,none⟩) 1 c]).run P X=.ok v' X'∧X'.ownsRow B e 1 v' (n+1) (xs++[u])∧X.grownBy X' v.ownBlock∧(v'.ownBlock=v.ownBlock∨v'.ownBlock=some X.heap.size)∧(∃ a c,v'=.slice a (n+1) c) ∧
   (∀ g,v.ownBlock=some g→∀ i,i<n→X'.cell? ⟨g,i,none⟩=X.cell? ⟨g,i,none⟩):=by
 obtain ⟨v',X',r1,r2,r3,r4,r5⟩:=cR T ty gG hX p c hu h1 hn;refine ⟨v',X',r1,r2,r3,r4,r5,fun g hg i hi=>?_⟩;obtain ⟨i0,ni,dc,bM,eY⟩:=info_parts T.info;have ho:=gG
 obtain ⟨hl,⟨rfl,_⟩ | ⟨g',cap,cur,rfl,hB,hh,U1,uO,vV,ht⟩⟩:=gG
 ·simp [Value.ownBlock] at hg
 ·have nr:g'=g:=by simpa [Value.ownBlock] using hg
  subst nr
  by_cases Q2:n+1≤cap
  ·have hR:=run_append_room (P:=P) X t ty e i0 T.ty ni g' n cap cur hh ⟨p,0,none⟩ 1 c [u] (by rw [bM]; rfl) (fun j x hj=>by
    obtain rfl:j=0:=by have:=(List.getElem?_eq_some_iff.1 hj).1; simpa using this
    simp at hj; subst hj
    rw [show (⟨p,0,none⟩:Addr).add 0=⟨p,0,none⟩ from rfl]; exact hu) (by simpa using h1) Q2 (by rw [bM,vV]; simp; omega)
   rw [r1] at hR
   injection hR with e1 e2
   subst e1;have c1:=r2.cellAt (j:=i) (by omega);have c2:=ho.cellAt (j:=i) (by omega);rw [c1,c2,List.getElem?_append_left (by omega)]
  ·obtain rfl:n=cap:=by omega
   have hR:=Rg.IZ (P:=P) T ty g' 0 n xs (by omega) (fun j hj=>by
    have c2:=ho.cellAt (j:=j) (by omega)
    rw [Nat.zero_add,c2,List.getElem?_eq_getElem hj]) p c hu hn
   obtain ⟨v2,X2,q1,_,q3,_⟩:=hR;rw [r1] at q1
   injection q1 with e1 e2
   subst e2;exact q3.cell (p:=⟨g',i,none⟩) (Array.getElem?_eq_some_iff.1 hh).1
def I2 (l:List Int):List Value:=l.map (Value.int .i64)
theorem zi (l:List Int) (x:Int):I2 (l++[x])=I2 l++[.int .i64 x]:=by simp [I2]
structure T3 (B:Nat) (w:World) (v1 v2 v3:Value) (l1 l2 l3:List Int):Prop where
 o1:w.ownsRow B 3 1 v1 l1.length (I2 l1)
 o2:w.ownsRow B 3 1 v2 l2.length (I2 l2)
 o3:w.ownsRow B 3 1 v3 l3.length (I2 l3)
 a12:Rg.fG v1 v2
 OD:Rg.fG v1 v3
 OE:Rg.fG v2 v3
def Tmp (w:World) (p:Nat) (x:Int) (v1 v2 v3:Value):Prop:=p<w.heap.size∧w.cell? ⟨p,0,none⟩=some (.int .i64 x)∧v1.ownBlock≠some p∧v2.ownBlock≠some p∧v3.ownBlock≠some p
theorem T3.below {w:World} {v3:Value} {l3:List Int} (h:T3 B w v1 v2 v3 l1 l2 l3) (hb:Below w.heap.size w w'):T3 B w' v1 v2 v3 l1 l2 l3 :=
 ⟨Rg.aQ h.o1 hb,Rg.aQ h.o2 hb,Rg.aQ h.o3 hb,h.a12,h.OD,h.OE⟩
theorem Tmp.below {w:World} {p:Nat} {x:Int} {v3:Value} (h:Tmp w p x v1 v2 v3) (hb:Below w.heap.size w w'):Tmp w' p x v1 v2 v3 :=
 ⟨Nat.lt_of_lt_of_le h.1 hb.size,(hb.cell (p:=⟨p,0,none⟩) h.1).trans h.2.1,h.2.2⟩
theorem T3.tmp {w:World} {v3:Value} {l3:List Int} (h:T3 B w v1 v2 v3 l1 l2 l3) (x:Int):Tmp (w.alloc (.cells #[.int .i64 x] 3)) w.heap.size x v1 v2 v3 :=
 ⟨by simp,by rw [Rg.aM]; rfl,fun e=>by have:=(h.o1.lt _ e).2; omega,fun e=>by have:=(h.o2.lt _ e).2; omega,fun e=>by have:=(h.o3.lt _ e).2; omega⟩
theorem H5 {v v':Value} {s p:Nat} (h:v'.ownBlock=v.ownBlock∨v'.ownBlock=some s) (h1:v.ownBlock≠some p) (hp:p<s):v'.ownBlock≠some p:=by
 rcases h with h | h
 ·rw [h]; exact h1
 ·rw [h]; simp; omega
theorem T3.H0 {w:World} {v3:Value} {l3:List Int} (h:T3 B w v1 v2 v3 l1 l2 l3) (hB:B≤w.heap.size) {p:Nat} {x:Int} (hp:Tmp w p x v1 v2 v3) (hl:l1.length<1000000) (ty:TypeId) :
  ∃ a c X,(Builtin.append_ #[25,25] ty #[v1,.slice (some ⟨p,0,none⟩) 1 1]).run Tryz.prog w=.ok (.slice a (l1.length+1) c) X∧T3 B X (.slice a (l1.length+1) c) v2 v3 (l1++[x]) l2 l3∧w.heap.size≤X.heap.size ∧
   (∀ p' x',Tmp w p' x' v1 v2 v3→Tmp X p' x' (.slice a (l1.length+1) c) v2 v3)∧(∀ g,v1.ownBlock=some g→∀ i,i<l1.length→X.cell? ⟨g,i,none⟩=w.cell? ⟨g,i,none⟩)∧(∀ {B0:Nat} {W0:World},B0≤B→Below B0 W0 w→Below B0 W0 X):=by
 obtain ⟨v',X,r1,r2,r3,r4,⟨a,c,rfl⟩,r6⟩:=zh (P:=Tryz.prog) aX ty h.o1 hB p 1 hp.2.1 rfl hl;refine ⟨a,c,X,r1,⟨by rw [zi,List.length_append]; exact r2,h.a12.keep h.o2 r3,h.OD.keep h.o3 r3,h.a12.grow h.o2 r4 (Nat.le_refl _),h.OD.grow h.o3 r4 (Nat.le_refl _),h.OE⟩,r3.size,fun p' x' ht=>?_,r6,fun h0 hb=>hb.grown r3 (by omega) (fun j hj=>by have:=(h.o1.lt j hj).1; omega)⟩;exact ⟨Nat.lt_of_lt_of_le ht.1 r3.size,r3.cell ht.2.1 (fun e=>ht.2.2.1 e.symm),H5 r4 ht.2.2.1 ht.1,ht.2.2.2⟩
theorem T3.Ku {w:World} {v3:Value} {l3:List Int} (h:T3 B w v1 v2 v3 l1 l2 l3) (hB:B≤w.heap.size) {p:Nat} {x:Int} (hp:Tmp w p x v1 v2 v3) (hl:l2.length<1000000) (ty:TypeId) :
  ∃ a c X,(Builtin.append_ #[25,25] ty #[v2,.slice (some ⟨p,0,none⟩) 1 1]).run Tryz.prog w=.ok (.slice a (l2.length+1) c) X∧T3 B X v1 (.slice a (l2.length+1) c) v3 l1 (l2++[x]) l3∧w.heap.size≤X.heap.size ∧
   (∀ p' x',Tmp w p' x' v1 v2 v3→Tmp X p' x' v1 (.slice a (l2.length+1) c) v3)∧(∀ {B0:Nat} {W0:World},B0≤B→Below B0 W0 w→Below B0 W0 X):=by
 obtain ⟨v',X,r1,r2,r3,r4,⟨a,c,rfl⟩,r6⟩:=zh (P:=Tryz.prog) aX ty h.o2 hB p 1 hp.2.1 rfl hl;refine ⟨a,c,X,r1,⟨h.a12.symm.keep h.o1 r3,by rw [zi,List.length_append]; exact r2,h.OE.keep h.o3 r3,(h.a12.symm.grow h.o1 r4 (Nat.le_refl _)).symm,h.OD,h.OE.grow h.o3 r4 (Nat.le_refl _)⟩,r3.size,fun p' x' ht=>?_,fun h0 hb=>hb.grown r3 (by omega) (fun j hj=>by have:=(h.o2.lt j hj).1; omega)⟩;exact ⟨Nat.lt_of_lt_of_le ht.1 r3.size,r3.cell ht.2.1 (fun e=>ht.2.2.2.1 e.symm),ht.2.2.1,H5 r4 ht.2.2.2.1 ht.1,ht.2.2.2.2⟩

theorem nt (X:World) (i:Int):(Instr.buildSlice 35 1 #[(0,.int .i64 i)]).run Tryz.prog X=.ok (.slice (some ⟨X.heap.size,0,none⟩) 1 1) (X.alloc (.cells #[.int .i64 i] 3)):=by
 obtain ⟨i0,hi,dc,bM,eY⟩:=info_parts pH;refine run_buildSlice X 35 3 1 _ _ i0 _ Tryz.underlying35 hi dc (by rw [bM]; decide) (by rw [bM]; decide) ?_;generalize (fun x=>((Value.int IntKind.i64 0).cells)[x % (Value.int IntKind.i64 0).cells.size]!)=f;rw [bM];have h1:Array.range (1*1)=#[0]:=rfl;simp [Instr.fill,Value.cells,h1]

def Gd (d:Nat) (p:List Nat):Prop:=Ma.lB p∧p.length=d
theorem Gd.mul {d:Nat} {p:List Nat} (h:Gd d p) (h':Gd d q):Gd d (Ma.aj p q):=⟨Ma.za h.1 h'.1 (h.2.trans h'.2.symm),by rw [Ma.dt]; exact h.2⟩
theorem Gd.one (D:Nat):Gd D (Ma.aR D):=⟨Ma.y9 D,Ma.eh D⟩
theorem Gd.inv (hs:Gd D s):Gd D (Ma.aO s):=⟨Ma.y_ hs.1,by rw [Ma.fk]; exact hs.2⟩
theorem Gd.lt {b:List Nat} (ha:Gd D a) (hb:Gd D b):∀ x∈a,x<b.length:=fun x hx=>by
 have:=ha.1.1 x hx; have:=ha.2; have:=hb.2; omega
def GA (w:World) (b D:Nat) (a:Option Addr) (gs:List (List Nat)) (c:Nat):Prop :=
 w.cell? ⟨b,0,none⟩=some (.int .i64 ((D:Nat):Int))∧w.cell? ⟨b,1,none⟩=some (.slice a gs.length c)∧Rg.iU w (.slice a gs.length c) gs∧b<w.heap.size
theorem GA.c0 {w:World} {b:Nat} {a:Option Addr} {c:Nat} (h:GA w b D a gs c):w.cell? ⟨b,0,none⟩=some (.int .i64 ((D:Nat):Int)):=h.1
theorem GA.c1 {w:World} {b:Nat} {a:Option Addr} {c:Nat} (h:GA w b D a gs c):w.cell? ⟨b,1,none⟩=some (.slice a gs.length c):=h.2.1
theorem GA.rows {w:World} {b:Nat} {a:Option Addr} {c:Nat} (h:GA w b D a gs c):Rg.iU w (.slice a gs.length c) gs:=h.2.2.1
theorem GA.lt {w:World} {b:Nat} {a:Option Addr} {c:Nat} (h:GA w b D a gs c):b<w.heap.size:=h.2.2.2
theorem GA.below {w w':World} {b D:Nat} {a:Option Addr} {gs:List (List Nat)} {c:Nat} (h:GA w b D a gs c) (hb:Below w.heap.size w w'):GA w' b D a gs c :=
 ⟨(hb.cell (p:=⟨b,0,none⟩) h.lt).trans h.c0,(hb.cell (p:=⟨b,1,none⟩) h.lt).trans h.c1,Rg.iU.below h.rows hb,Nat.lt_of_lt_of_le h.lt hb.size⟩
theorem GA.new {w:World} {a:Option Addr} {c:Nat} (h:Rg.iU w (.slice a gs.length c) gs):GA (w.alloc (.cells #[.int .i64 (D:Int),.slice a gs.length c] 24)) w.heap.size D a gs c :=
 ⟨by rw [Rg.aM]; rfl,by rw [Rg.aM]; rfl,Rg.iU.below h ((Below.refl _ _).alloc (Nat.le_refl _) _),by simp⟩
theorem GA.gens {w:World} {b:Nat} {a:Option Addr} {c:Nat} (h:GA w b D a gs c) (h0:0<gs.length):∃ bg og,a=some ⟨bg,og,none⟩∧bg<w.heap.size∧∀ i (hi:i<gs.length),∃ u,w.cell? ⟨bg,og+i,none⟩=some u∧Rg.NP w u gs[i]:=by
 obtain ⟨ga,gc,e1,_,_,_,nY⟩:=h.rows.shape
 cases e1
 obtain ⟨bg,og,e2,YB,OG⟩:=nY h0;exact ⟨bg,og,e2,YB,OG⟩
theorem bL {o:Oper} {a:Act} {w:World} {b:Nat} (x:Operand) (ho:o.op=.fieldAddr 24 x 0) (hx:a.eval x=.pointer (some ⟨b,0,none⟩)) :
  (execOp a.eval o).run Tryz.prog w=.ok (.value (.pointer (some ⟨b,0,none⟩))) w:=by
 have h:(Instr.fieldAt 24 (.pointer (some ⟨b,0,none⟩)) 0).run Tryz.prog w=.ok (.pointer (some ⟨b,0,none⟩)) w:=by kernel_rfl
 unfold execOp;simp only [ho,hx,Sem.run_bind,Sem.run_pure,h,Result.andThen_ok]
end Go.Proofs.YtbngdgfmlmkgiaaGreat

namespace Go.Proofs.Cm
open Go.Proofs
def Gd (n:Nat) (p:List Nat):Prop:=Ma.lB p∧p.length=n
def ap (x:List Nat) (i:Nat):Nat:=x.getD i 0
theorem kS {x:List Nat} {i:Nat} (h:i<x.length):ap x i=x[i]:=by simp [ap,List.getD,List.getElem?_eq_getElem h]
theorem eH {x:List Nat} (h:Gd n x) {i:Nat} (hi:i<n):ap x i<n:=by
 have hl:i<x.length:=by rw [h.2]; exact hi
 rw [kS hl,← h.2];exact h.1.1 _ (List.getElem_mem hl)
theorem ku {x:List Nat} (h:Gd n x) {i:Nat} (hi:i<n) (hj:j<n) (e:ap x i=ap x j):i=j:=by
 have h1:i<x.length:=by rw [h.2]; exact hi
 have h2:j<x.length:=by rw [h.2]; exact hj
 rw [kS h1,kS h2] at e;exact (List.getElem_inj h.1.2).1 e
theorem jS {b:List Nat} (ha:a.length=n) (hb:b.length=n) (h:∀ i,i<n→ap a i=ap b i):a=b:=by
 apply List.ext_getElem (by omega)
 intro i h1 h2;have:=h i (by omega)
 rwa [kS h1,kS h2] at this
theorem dX (n:Nat):Gd n (Ma.aR n):=⟨Ma.y9 n,Ma.eh n⟩
theorem a_ {b:List Nat} (ha:Gd n a) (hb:Gd n b):Gd n (Ma.aj a b):=⟨Ma.za ha.1 hb.1 (ha.2.trans hb.2.symm),by rw [Ma.dt]; exact ha.2⟩
theorem aW (ha:Gd n a):Gd n (Ma.aO a):=⟨Ma.y_ ha.1,by rw [Ma.fk]; exact ha.2⟩
theorem dY {i:Nat} (h:i<n):ap (Ma.aR n) i=i:=by
 rw [kS (by rw [Ma.eh]; exact h),Ma.sW]
theorem bU {b:List Nat} (ha:Gd n a) {i:Nat} (h:i<n):ap (Ma.aj a b) i=ap b (ap a i):=by
 have hl:i<a.length:=by rw [ha.2]; exact h
 rw [kS (by rw [Ma.dt]; exact hl),Ma.sX,kS hl]; rfl
theorem gX (hs:Gd n s) {i:Nat} (h:i<n):ap (Ma.aO s) (ap s i)=i:=by
 have hl:i<s.length:=by rw [hs.2]; exact h
 have h2:=eH hs h;rw [kS (x:=Ma.aO s) (by rw [Ma.fk,hs.2]; exact h2),Ma.pG,kS hl];exact Ma.mq hs.1 hl
theorem kT (hs:Gd n s) {i:Nat} (h:i<n):ap s (ap (Ma.aO s) i)=i:=by
 have h1:=eH (aW hs) h;have h2:=gX (aW hs) h;refine ku (aW hs) (eH hs h1) h ?_;rw [gX hs h1]
theorem mul_assoc {b c:List Nat} (ha:Gd n a) (hb:Gd n b):Ma.aj (Ma.aj a b) c=Ma.aj a (Ma.aj b c):=by
 refine jS (n:=n) (by rw [Ma.dt,Ma.dt]; exact ha.2) (by rw [Ma.dt]; exact ha.2) fun i hi=>?_;rw [bU (a_ ha hb) hi,bU ha hi,bU ha hi,bU hb (eH ha hi)]
theorem one_mul {x:List Nat} (hx:Gd n x):Ma.aj (Ma.aR n) x=x :=
 jS (n:=n) (by rw [Ma.dt,Ma.eh]) hx.2 fun i hi=>by rw [bU (dX n) hi,dY hi]
theorem mul_one {x:List Nat} (hx:Gd n x):Ma.aj x (Ma.aR n)=x :=
 jS (n:=n) (by rw [Ma.dt]; exact hx.2) hx.2 fun i hi=>by rw [bU hx hi,dY (eH hx hi)]
theorem oI {x:List Nat} (hx:Gd n x):Ma.aj x (Ma.aO x)=Ma.aR n :=
 jS (n:=n) (by rw [Ma.dt]; exact hx.2) (Ma.eh n) fun i hi=>by rw [bU hx hi,gX hx hi,dY hi]
theorem inv_mul {x:List Nat} (hx:Gd n x):Ma.aj (Ma.aO x) x=Ma.aR n :=
 jS (n:=n) (by rw [Ma.dt,Ma.fk]; exact hx.2) (Ma.eh n) fun i hi=>by rw [bU (aW hx) hi,kT hx hi,dY hi]
theorem inv_one (n:Nat):Ma.aO (Ma.aR n)=Ma.aR n:=by
 have:=oI (dX n)
 rwa [one_mul (aW (dX n))] at this
theorem mul_inv_cancel {x u:List Nat} (hx:Gd n x) (hu:Gd n u):Ma.aj (Ma.aj x (Ma.aO u)) u=x:=by
 rw [mul_assoc hx (aW hu),inv_mul hu,mul_one hx]
theorem fO {x u:List Nat} (hx:Gd n x) (hu:Gd n u):Ma.aj (Ma.aj x u) (Ma.aO u)=x:=by
 rw [mul_assoc hx hu,oI hu,mul_one hx]
structure eI (n:Nat) (H:List Nat→Prop):Prop where
 gd:∀ x,H x→Gd n x
 one:H (Ma.aR n)
 mul:∀ x y,H x→H y→H (Ma.aj x y)
 inv:∀ x,H x→H (Ma.aO x)
inductive Gr (n:Nat) (gs:List Nat→Prop):List Nat→Prop
 | one:Gr n gs (Ma.aR n)
 | gen (s:List Nat) (h:gs s):Gr n gs s
 | mul (x y:List Nat) (hx:Gr n gs x) (hy:Gr n gs y):Gr n gs (Ma.aj x y)
 | inv (x:List Nat) (hx:Gr n gs x):Gr n gs (Ma.aO x)
theorem Gr.fW {gs:List Nat→Prop} (h:∀ s,gs s→Gd n s):eI n (Gr n gs):=by
 refine ⟨fun x hx=>?_,.one,fun x y=>.mul x y,fun x=>.inv x⟩
 induction hx with
 | one=>exact dX n
 | gen s hs=>exact h s hs
 | mul x y _ _ i1 i2=>exact a_ i1 i2
 | inv x _ i1=>exact aW i1
theorem Gr.sub {gs:List Nat→Prop} (hH:eI n H) (h:∀ s,gs s→H s) {x:List Nat} (hx:Gr n gs x):H x:=by
 induction hx with
 | one=>exact hH.one
 | gen s hs=>exact h s hs
 | mul x y _ _ i1 i2=>exact hH.mul _ _ i1 i2
 | inv x _ i1=>exact hH.inv _ i1
theorem Gr.mono {gs gs':List Nat→Prop} (h:∀ s,gs s→gs' s) {x:List Nat} (hx:Gr n gs x):Gr n gs' x:=by
 induction hx with
 | one=>exact .one
 | gen s hs=>exact .gen s (h s hs)
 | mul x y _ _ i1 i2=>exact .mul _ _ i1 i2
 | inv x _ i1=>exact .inv _ i1
def Fx (i:Nat) (x:List Nat):Prop:=∀ j,j<i→ap x j=j
theorem Fx.mono {i:Nat} {x:List Nat} (h:Fx i x) (yj:j≤i):Fx j x:=fun k hk=>h k (Nat.lt_of_lt_of_le hk yj)
theorem Fx.one {i:Nat} (hi:i≤n):Fx i (Ma.aR n):=fun _ hj=>dY (Nat.lt_of_lt_of_le hj hi)
theorem Fx.mul {i:Nat} {x:List Nat} (gx:Gd n x) (hi:i≤n) (hx:Fx i x) (hy:Fx i y):Fx i (Ma.aj x y):=fun j hj=>by
 rw [bU gx (Nat.lt_of_lt_of_le hj hi),hx j hj,hy j hj]
theorem Fx.inv {i:Nat} {x:List Nat} (gx:Gd n x) (hi:i≤n) (hx:Fx i x):Fx i (Ma.aO x):=fun j hj=>by
 have:=gX gx (Nat.lt_of_lt_of_le hj hi)
 rwa [hx j hj] at this
theorem Fx.all {x:List Nat} (gx:Gd n x) (hx:Fx n x):x=Ma.aR n :=
 jS gx.2 (Ma.eh n) fun i hi=>by rw [hx i hi,dY hi]
def St (H:List Nat→Prop) (i:Nat) (x:List Nat):Prop:=H x∧Fx i x
abbrev Tr:=Nat→Nat→Option (List Nat)
def Sd (n:Nat) (tr:Tr):Nat→List Nat→Prop
 | 0,x=>x=Ma.aR n
 | d+1,x=>∃ u,tr (n - (d+1)) (ap x (n - (d+1)))=some u∧Sd n tr d (Ma.aj x (Ma.aO u))
structure Rp (n lo:Nat) (tr:Tr):Prop where
 gd:∀ i p u,lo≤i→i<n→tr i p=some u→Gd n u
 fx:∀ i p u,lo≤i→i<n→tr i p=some u→Fx i u
 at_:∀ i p u,lo≤i→i<n→tr i p=some u→ap u i=p
 self:∀ i,lo≤i→i<n→tr i i=some (Ma.aR n)
theorem Sd.fx {n lo:Nat} {tr:Tr} (hr:Rp n lo tr):∀ {d:Nat} {x:List Nat},d≤n→lo≤n - d→Gd n x→Sd n tr d x→Fx (n - d) x
 | 0,x,hd,_,gx,h=>by
  cases h
  exact Fx.one (by omega)
 | d+1,x,hd,hl,gx,⟨u,hu,h⟩=>by
  have gu:=hr.gd _ _ _ hl (by omega) hu;have h1:=Sd.fx hr (by omega) (by omega) (a_ gx (aW gu)) h;have h2:=mul_inv_cancel gx gu;have h3:=Fx.mul (i:=n - (d+1)) (a_ gx (aW gu)) (by omega) (h1.mono (by omega)) (hr.fx _ _ _ hl (by omega) hu)
  rwa [h2] at h3
theorem Sd.one {n lo:Nat} {tr:Tr} (hr:Rp n lo tr):∀ {d:Nat},d≤n→lo≤n - d→Sd n tr d (Ma.aR n)
 | 0,_,_=>rfl
 | d+1,hd,hl=>⟨Ma.aR n,by rw [dY (by omega)]; exact hr.self _ hl (by omega),by rw [inv_one,one_mul (dX n)]; exact Sd.one hr (by omega) (by omega)⟩
theorem Sd.next {lo:Nat} {tr:Tr} (hr:Rp n lo tr) {d:Nat} (hd:d+1≤n) (hl:lo≤n - (d+1)) {x:List Nat} (gx:Gd n x) (hx:ap x (n - (d+1))=n - (d+1)):Sd n tr (d+1) x↔Sd n tr d x:=by
 have e:tr (n - (d+1)) (ap x (n - (d+1)))=some (Ma.aR n):=by rw [hx]; exact hr.self _ hl (by omega)
 constructor
 ·rintro ⟨u,hu,h⟩
  rw [e] at hu
  cases hu
  rwa [inv_one,mul_one gx] at h
 ·intro h
  exact ⟨_,e,by rw [inv_one,mul_one gx]; exact h⟩
theorem Sd.up {n lo:Nat} {tr:Tr} (hr:Rp n lo tr):∀ {k d:Nat},d+k≤n→lo≤n - (d+k)→∀ {x:List Nat},Gd n x→Fx (n - d) x→(Sd n tr (d+k) x↔Sd n tr d x)
 | 0,d,_,_,x,_,_=>Iff.rfl
 | k+1,d,h,hl,x,gx,hx=>by
  have h1:=Sd.next hr (d:=d+k) (by omega) hl gx (hx _ (by omega));exact h1.trans (Sd.up hr (by omega) (by omega) gx hx)
theorem Sd.cons {lo:Nat} {tr:Tr} (hr:Rp n lo tr) {d p:Nat} (hd:d+1≤n) (hl:lo≤n - (d+1)) {u:List Nat} (gy:Gd n y) (hy:Sd n tr d y) (hu:tr (n - (d+1)) p=some u):Sd n tr (d+1) (Ma.aj y u):=by
 have gu:=hr.gd _ _ _ hl (by omega) hu;have fy:=Sd.fx hr (by omega) (by omega) gy hy
 have e:ap (Ma.aj y u) (n - (d+1))=p:=by
  rw [bU gy (by omega),fy _ (by omega),hr.at_ _ _ _ hl (by omega) hu]
 exact ⟨u,by rw [e]; exact hu,by rw [fO gy gu]; exact hy⟩
theorem Sd.mono {n:Nat} {tr tr':Tr}:∀ {d:Nat},(∀ i p u,n - d≤i→tr i p=some u→tr' i p=some u)→∀ {x:List Nat},Sd n tr d x→Sd n tr' d x
 | 0,_,_,e=>e
 | d+1,h,_,⟨u,hu,hs⟩=>⟨u,h _ _ _ (Nat.le_refl _) hu,Sd.mono (fun i p u hi=>h i p u (by omega)) hs⟩
structure tx (n lo:Nat) (gn:Nat→List Nat→Prop) (tr:Tr):Prop where
 rp:Rp n lo tr
 gd:∀ i s,lo≤i→i<n→gn i s→Gd n s
 low:∀ i s,lo≤i→i+1<n→gn (i+1) s→Gr n (gn i) s
 mem:∀ i p u,lo≤i→i<n→tr i p=some u→Gr n (gn i) u
 cl:∀ i p u s,lo≤i→i<n→tr i p=some u→gn i s→∃ v,tr i (ap s p)=some v∧Sd n tr (n - (i+1)) (Ma.aj (Ma.aj u s) (Ma.aO v))
theorem tx.sub {n lo:Nat} {gn:Nat→List Nat→Prop} {tr:Tr} (h:tx n lo gn tr) {i:Nat} (hl:lo≤i):∀ {k:Nat},i+k<n→∀ {x:List Nat},Gr n (gn (i+k)) x→Gr n (gn i) x
 | 0,_,x,hx=>hx
 | k+1,hk,x,hx=>h.sub hl (k:=k) (by omega) (Gr.sub (Gr.fW (fun s hs=>h.gd _ s (by omega) (by omega) hs)) (fun s hs=>h.low (i+k) s (by omega) (by omega) hs) hx)
theorem tx.gr {n lo:Nat} {gn:Nat→List Nat→Prop} {tr:Tr} (h:tx n lo gn tr) {i:Nat} (hl:lo≤i) (hi:i<n):∀ {d:Nat},i+d≤n→∀ {x:List Nat},Gd n x→Sd n tr d x→n - d≥i→Gr n (gn i) x
 | 0,_,x,_,e,_=>by cases e; exact .one
 | d+1,hd,x,gx,⟨u,hu,hs⟩,KZ=>by
  have gu:=h.rp.gd _ _ _ (by omega) (by omega) hu;have h1:=tx.gr h hl hi (d:=d) (by omega) (a_ gx (aW gu)) hs (by omega)
  have h2:Gr n (gn i) u:=by
   have:=h.mem _ _ _ (by omega) (by omega) hu;exact h.sub hl (i:=i) (k:=n - (d+1) - i) (by omega) (by rwa [show i+(n - (d+1) - i)=n - (d+1) by omega])
  have:=Gr.mul _ _ h1 h2
  rwa [mul_inv_cancel gx gu] at this
def pw (n:Nat) (s:List Nat):Nat→List Nat
 | 0=>Ma.aR n
 | k+1=>Ma.aj (pw n s k) s
theorem j6 {n:Nat} {s:List Nat} (hs:Gd n s):∀ k,Gd n (pw n s k)
 | 0=>dX n
 | k+1=>a_ (j6 hs k) hs
theorem H6 {n:Nat} {s:List Nat} (hs:Gd n s) (i:Nat):∀ j,pw n s (i+j)=Ma.aj (pw n s i) (pw n s j)
 | 0=>(mul_one (j6 hs i)).symm
 | j+1=>by
  show Ma.aj (pw n s (i+j)) s=Ma.aj (pw n s i) (Ma.aj (pw n s j) s);rw [H6 hs i j,mul_assoc (j6 hs i) (j6 hs j)]
def vW (n:Nat):Nat→List (List Nat)
 | 0=>[[]]
 | k+1=>(vW n k).flatMap fun l=>(List.range n).map fun x=>x :: l
theorem zj {n:Nat}:∀ {l:List Nat},(∀ x∈l,x<n)→l∈vW n l.length
 | [],_=>by simp [vW]
 | x :: l,h=>by
  have h1:=zj (l:=l) (fun y hy=>h y (List.mem_cons_of_mem _ hy));have h2:=h x (List.mem_cons_self ..);rw [List.length_cons,vW,List.mem_flatMap];exact ⟨l,h1,List.mem_map.2 ⟨x,List.mem_range.2 h2,rfl⟩⟩
theorem OH (hs:Gd n s) (k:Nat):pw n s k∈vW n n:=by
 have h:=j6 hs k;have:=zj (n:=n) (l:=pw n s k) (fun x hx=>by rw [← h.2]; exact h.1.1 x hx)
 rwa [h.2] at this
theorem Q3 (hs:Gd n s):∃ i j,i<j∧pw n s i=pw n s j:=by
 by_cases h:∃ i j,i<j∧pw n s i=pw n s j
 ·exact h
 exfalso
 have hn:((List.range ((vW n n).length+1)).map (pw n s)).Nodup:=by
  rw [List.Nodup,List.pairwise_iff_getElem];intro i j hi hj yj e;simp at e;exact h ⟨i,j,yj,e⟩
 have:=List.Nodup.length_le_of_subset hn (l₂:=vW n n) (fun x hx=>by
  obtain ⟨k,_,rfl⟩:=List.mem_map.1 hx
  exact OH hs k)
 simp at this;omega
theorem OJ (hs:Gd n s):∃ k,Ma.aO s=pw n s k:=by
 obtain ⟨i,j,yj,e⟩:=Q3 hs;obtain ⟨k,rfl⟩:∃ k,j=i+(k+1):=⟨j - i - 1,by omega⟩;refine ⟨k,?_⟩
 have h1:pw n s (k+1)=Ma.aR n:=by
  rw [H6 hs] at e
  have e2:Ma.aj (Ma.aO (pw n s i)) (pw n s i)=Ma.aj (Ma.aO (pw n s i)) (Ma.aj (pw n s i) (pw n s (k+1))):=by rw [← e]
  rw [inv_mul (j6 hs i),← mul_assoc (aW (j6 hs i)) (j6 hs i),inv_mul (j6 hs i),one_mul (j6 hs (k+1))] at e2;exact e2.symm
 have h2:Ma.aj (Ma.aj (pw n s k) s) (Ma.aO s)=Ma.aj (Ma.aR n) (Ma.aO s):=by rw [← h1]; rfl
 rw [fO (j6 hs k) hs,one_mul (aW hs)] at h2;exact h2.symm
theorem I3 {gs:List Nat→Prop} (hg:∀ s,gs s→Gd n s) {P:List Nat→Prop} (hs:∀ x s,Gr n gs x→P x→gs s→P (Ma.aj x s)) :
  ∀ {x:List Nat},Gr n gs x→∀ y,Gr n gs y→P y→P (Ma.aj y x)∧P (Ma.aj y (Ma.aO x)):=by
 have G:=Gr.fW (n:=n) hg;intro x hx
 induction hx with
 | one=>intro y gy hy; rw [inv_one,mul_one (G.gd y gy)]; exact ⟨hy,hy⟩
 | gen s h =>
  intro y gy hy;refine ⟨hs y s gy hy h,?_⟩;obtain ⟨k,hk⟩:=OJ (hg s h);rw [hk]
  have:∀ k,Gr n gs (Ma.aj y (pw n s k))∧P (Ma.aj y (pw n s k)):=by
   intro k
   induction k with
   | zero=>show Gr n gs (Ma.aj y (Ma.aR n))∧P (Ma.aj y (Ma.aR n)); rw [mul_one (G.gd y gy)]; exact ⟨gy,hy⟩
   | succ k ih =>
    show Gr n gs (Ma.aj y (Ma.aj (pw n s k) s))∧P (Ma.aj y (Ma.aj (pw n s k) s));rw [← mul_assoc (G.gd y gy) (j6 (hg s h) k)];exact ⟨.mul _ _ ih.1 (.gen s h),hs _ s ih.1 ih.2 h⟩
  exact (this k).2
 | mul a b ha hb ia ib =>
  intro y gy hy
  have e:Ma.aO (Ma.aj a b)=Ma.aj (Ma.aO b) (Ma.aO a):=by
   have ga:=G.gd a ha;have gb:=G.gd b hb;refine jS (n:=n) (aW (a_ ga gb)).2 (a_ (aW gb) (aW ga)).2 fun i hi=>?_;rw [bU (aW gb) hi];have h1:=eH (aW gb) hi;have h2:=eH (aW ga) h1;refine ku (a_ ga gb) (eH (aW (a_ ga gb)) hi) h2 ?_;rw [kT (a_ ga gb) hi,bU ga h2,kT ga h1,kT gb hi]
  refine ⟨?_,?_⟩
  ·have:=(ib (Ma.aj y a) (.mul _ _ gy ha) (ia y gy hy).1).1
   rwa [mul_assoc (G.gd y gy) (G.gd a ha)] at this
  ·have:=(ia (Ma.aj y (Ma.aO b)) (.mul _ _ gy (.inv _ hb)) (ib y gy hy).2).2
   rwa [mul_assoc (G.gd y gy) (aW (G.gd b hb)),← e] at this
 | inv a ha ia =>
  intro y gy hy
  have e:Ma.aO (Ma.aO a)=a:=by
   have ga:=G.gd a ha;refine jS (n:=n) (aW (aW ga)).2 ga.2 fun i hi=>?_;refine ku (aW ga) (eH (aW (aW ga)) hi) (eH ga hi) ?_;rw [kT (aW ga) hi,gX ga hi]
  rw [e];exact ⟨(ia y gy hy).2,(ia y gy hy).1⟩
theorem H7 {gs:List Nat→Prop} (hg:∀ s,gs s→Gd n s) {P:List Nat→Prop} (h1:P (Ma.aR n)) (hs:∀ x s,Gr n gs x→P x→gs s→P (Ma.aj x s)) {x:List Nat} (hx:Gr n gs x):P x:=by
 have:=(I3 hg hs hx _ .one h1).1
 rwa [one_mul ((Gr.fW hg).gd x hx)] at this
structure kn (n:Nat) (H:List Nat→Prop) (tr:Tr):Prop where
 rp:Rp n 0 tr
 mem:∀ i p u,i<n→tr i p=some u→H u
 all:∀ i x,i<n→St H i x→∃ u,tr i (ap x i)=some u
theorem tx.K3 {n lo:Nat} {gn:Nat→List Nat→Prop} {tr:Tr} (h:tx n lo gn tr):∀ {d:Nat},d≤n→lo≤n - d→(∀ y z,Gd n y→Gd n z→Sd n tr d y→Sd n tr d z→Sd n tr d (Ma.aj y z))∧(0<d→∀ x,Gr n (gn (n - d)) x→Sd n tr d x)
 | 0,_,_=>⟨fun y z _ gz hy hz=>by
   have vO:y=Ma.aR n:=hy;have rI:z=Ma.aR n:=hz;show Ma.aj y z=Ma.aR n
   rw [vO,rI,one_mul (dX n)],fun h=>by omega⟩
 | d+1,hd,hl=>by
  obtain ⟨ih,_⟩:=tx.K3 h (d:=d) (by omega) (by omega)
  have hi:n - (d+1)<n:=by omega
  have cD:∀ s,gn (n - (d+1)) s→Gd n s:=fun s hs=>h.gd _ s hl hi hs
  have key:∀ x,Gr n (gn (n - (d+1))) x→Sd n tr (d+1) x:=by
   intro x hx;refine H7 cD (P:=Sd n tr (d+1)) (Sd.one h.rp hd hl) ?_ hx;intro x s gx ⟨u,hu,hy⟩ hs;have Gx:=(Gr.fW cD).gd x gx;have gu:=h.rp.gd _ _ _ hl hi hu;have gs:=cD s hs;obtain ⟨v,hv,hq⟩:=h.cl _ _ _ _ hl hi hu hs;have gv:=h.rp.gd _ _ _ hl hi hv;rw [show n - (n - (d+1)+1)=d by omega] at hq;have gy:=a_ Gx (aW gu);have gq:=a_ (a_ gu gs) (aW gv);have h1:=Sd.cons h.rp hd hl (a_ gy gq) (ih _ _ gy gq hy hq) hv
   have e:Ma.aj (Ma.aj (Ma.aj x (Ma.aO u)) (Ma.aj (Ma.aj u s) (Ma.aO v))) v=Ma.aj x s:=by
    rw [mul_assoc gy gq,mul_inv_cancel (a_ gu gs) gv,← mul_assoc gy gu,mul_inv_cancel Gx gu]
   rwa [e] at h1
  refine ⟨fun y z gy gz hy hz=>key _ (.mul _ _ (h.gr hl hi (by omega) gy hy (Nat.le_refl _)) (h.gr hl hi (by omega) gz hz (Nat.le_refl _))),fun _=>key⟩
theorem tx.H8 {gn:Nat→List Nat→Prop} {tr:Tr} (h:tx n 0 gn tr) (hn:0<n):kn n (Gr n (gn 0)) tr:=by
 have cD:∀ s,gn 0 s→Gd n s:=fun s hs=>h.gd _ s (Nat.zero_le _) hn hs;refine ⟨h.rp,fun i p u hi hu=>?_,fun i x hi hx=>?_⟩
 ·have:=h.mem i p u (Nat.zero_le _) hi hu
  exact h.sub (i:=0) (Nat.le_refl _) (k:=i) (by omega) (by rwa [Nat.zero_add])
 ·have gx:=(Gr.fW cD).gd x hx.1
  have h1:=(h.K3 (d:=n) (Nat.le_refl _) (Nat.zero_le _)).2 hn x (by rw [Nat.sub_self]; exact hx.1);have h2:=(Sd.up h.rp (d:=n - i) (k:=i) (by omega) (Nat.zero_le _) gx (by rw [show n - (n - i)=i by omega]; exact hx.2)).1 (by rw [show n - i+i=n by omega]; exact h1);rw [show n - i=(n - i - 1)+1 by omega] at h2;obtain ⟨u,hu,_⟩:=h2;rw [show n - (n - i - 1+1)=i by omega] at hu;exact ⟨u,hu⟩
theorem Sd.entry {tr:Tr} (hr:Rp n 0 tr) {i p:Nat} (hi:i<n) {u:List Nat} (hu:tr i p=some u):Sd n tr n u:=by
 have gu:=hr.gd _ _ _ (Nat.zero_le _) hi hu;have h1:Sd n tr (n - i - 1+1) (Ma.aj (Ma.aR n) u):=Sd.cons hr (by omega) (Nat.zero_le _) (dX n) (Sd.one hr (by omega) (Nat.zero_le _)) (p:=p) (by rw [show n - (n - i - 1+1)=i by omega]; exact hu);rw [one_mul gu,show n - i - 1+1=n - i by omega] at h1;have h2:=(Sd.up hr (d:=n - i) (k:=i) (by omega) (Nat.zero_le _) gu (by rw [show n - (n - i)=i by omega]; exact hr.fx _ _ _ (Nat.zero_le _) hi hu)).2 h1
 rwa [show n - i+i=n by omega] at h2
theorem zk {n:Nat} {tr:Tr} (hr:Rp n 0 tr) (hc:∀ i p u j q v,i<n→j<n→tr i p=some u→tr j q=some v→Sd n tr n (Ma.aj u v)) :
  ∀ {d:Nat},d≤n→∀ y z,Gd n y→Gd n z→Sd n tr d y→Sd n tr d z→Sd n tr d (Ma.aj y z)
 | 0,_,y,z,_,gz,hy,hz=>by
  have vO:y=Ma.aR n:=hy;have rI:z=Ma.aR n:=hz;show Ma.aj y z=Ma.aR n;rw [vO,rI,one_mul (dX n)]
 | d+1,hd,y,z,gy,gz,hy,hz=>by
  have ih:=zk hr hc (d:=d) (by omega)
  have R:∀ x j q b,Gd n x→Sd n tr (d+1) x→n - (d+1)≤j→j<n→tr j q=some b→Sd n tr (d+1) (Ma.aj x b):=by
   intro x j q b gx ⟨u,hu,hx⟩ Ab mA hb;have gu:=hr.gd _ _ _ (by omega) (by omega) hu;have gb:=hr.gd _ _ _ (by omega) mA hb;have h1:=hc _ _ _ _ _ _ (by omega) mA hu hb;have hf:Fx (n - (d+1)) (Ma.aj u b):=Fx.mul gu (by omega) (hr.fx _ _ _ (by omega) (by omega) hu) ((hr.fx _ _ _ (by omega) mA hb).mono Ab);have h2:=(Sd.up hr (d:=d+1) (k:=n - (d+1)) (by omega) (by omega) (a_ gu gb) hf).1 (by rw [show d+1+(n - (d+1))=n by omega]; exact h1);obtain ⟨v,hv,hz⟩:=h2;have gv:=hr.gd _ _ _ (by omega) (by omega) hv;have OL:=a_ gx (aW gu);have Q4:=a_ (a_ gu gb) (aW gv);have h3:=Sd.cons hr hd (by omega) (a_ OL Q4) (ih _ _ OL Q4 hx hz) hv
   have e:Ma.aj (Ma.aj (Ma.aj x (Ma.aO u)) (Ma.aj (Ma.aj u b) (Ma.aO v))) v=Ma.aj x b:=by
    rw [mul_assoc OL Q4,mul_inv_cancel (a_ gu gb) gv,← mul_assoc OL gu,mul_inv_cancel gx gu]
   rwa [e] at h3
  have W:∀ e w,e≤d+1→Gd n w→Sd n tr e w→∀ x,Gd n x→Sd n tr (d+1) x→Sd n tr (d+1) (Ma.aj x w):=by
   intro e
   induction e with
   | zero =>
    intro w _ gw hw x gx hx;have hw':w=Ma.aR n:=hw;rw [hw',mul_one gx]; exact hx
   | succ e ie =>
    intro w he gw ⟨u,hu,hw⟩ x gx hx;have gu:=hr.gd _ _ _ (by omega) (by omega) hu;have Q5:=a_ gw (aW gu);have h1:=ie _ (by omega) Q5 hw x gx hx;have h2:=R _ _ _ _ (a_ gx Q5) h1 (by omega) (by omega) hu
    rwa [mul_assoc gx Q5,mul_inv_cancel gw gu] at h2
  exact W _ z (Nat.le_refl _) gz hz y gy hy
theorem I4 {gs:List Nat→Prop} {tr:Tr} (hr:Rp n 0 tr) (hg:∀ s,gs s→Gd n s) (hs:∀ s,gs s→Sd n tr n s) (he:∀ i p u,i<n→tr i p=some u→Gr n gs u)
  (hc:∀ i p u j q v,i<n→j<n→tr i p=some u→tr j q=some v→Sd n tr n (Ma.aj u v)):kn n (Gr n gs) tr:=by
 refine ⟨hr,he,fun i x hi hx=>?_⟩;have G:=Gr.fW (n:=n) hg;have gx:=G.gd x hx.1;have h1:Sd n tr n x:=H7 hg (P:=Sd n tr n) (Sd.one hr (Nat.le_refl _) (Nat.zero_le _)) (fun y s gy hy h=>zk hr hc (Nat.le_refl _) _ _ (G.gd y gy) (hg s h) hy (hs s h)) hx.1;have h2:=(Sd.up hr (d:=n - i) (k:=i) (by omega) (Nat.zero_le _) gx (by rw [show n - (n - i)=i by omega]; exact hx.2)).1 (by rw [show n - i+i=n by omega]; exact h1);rw [show n - i=(n - i - 1)+1 by omega] at h2;obtain ⟨u,hu,_⟩:=h2;rw [show n - (n - i - 1+1)=i by omega] at hu;exact ⟨u,hu⟩
def lexLt (n:Nat) (y z:List Nat):Prop:=∃ j,j<n∧(∀ m,m<j→ap y m=ap z m)∧ap y j<ap z j
def lV (n:Nat) (P:List Nat→Prop) (y:List Nat):Prop:=P y∧∀ z,P z→z=y∨lexLt n y z
theorem lexLt.asymm {z:List Nat} (h:lexLt n y z) (h':lexLt m z y):False:=by
 obtain ⟨j,_,h2,h3⟩:=h;obtain ⟨k,_,h5,h6⟩:=h'
 rcases Nat.lt_trichotomy j k with e | e | e
 ·have:=h5 j e; omega
 ·subst e; omega
 ·have:=h2 k e; omega
theorem lV.uniq {P:List Nat→Prop} {z:List Nat} (h:lV n P y) (h':lV n P z):y=z:=by
 rcases h.2 z h'.1 with e | e
 ·exact e.symm
 ·rcases h'.2 y h.1 with e' | e'
  ·exact e'
  ·exact (e.asymm e').elim
def LI (H:List Nat→Prop) (i k:Nat) (x y:List Nat):Prop :=
 (∃ h,St H (i+1) h∧y=Ma.aj h x)∧∀ h,St H (i+1) h→(∀ m,m<k→ap y m=ap (Ma.aj h x) m)∨∃ j,j<k∧(∀ m,m<j→ap y m=ap (Ma.aj h x) m)∧ap y j<ap (Ma.aj h x) j
theorem LI.start (hH:eI n H) {i:Nat} (hi:i<n) {x:List Nat} (gx:Gd n x):LI H i (i+1) x x:=by
 refine ⟨⟨Ma.aR n,⟨hH.one,Fx.one (by omega)⟩,(one_mul gx).symm⟩,fun h hh=>.inl fun m hm=>?_⟩;rw [bU (hH.gd h hh.1) (by omega),hh.2 m hm]
theorem LI.step (hH:eI n H) {tr:Tr} (ht:kn n H tr) {i q:Nat} {x u:List Nat} (gx:Gd n x) (YC:i<k) (hk:k<n) (h:LI H i k x y) (hu:tr k q=some u)
  (hq:∀ q',tr k q'≠none→ap y q≤ap y q'):LI H i (k+1) x (Ma.aj u y):=by
 obtain ⟨⟨h0,Ac,rfl⟩,h2⟩:=h;have gu:=ht.rp.gd _ _ _ (Nat.zero_le _) hk hu;have fu:=ht.rp.fx _ _ _ (Nat.zero_le _) hk hu;have g0:=hH.gd h0 Ac.1;have gy:=a_ g0 gx
 have nT:∀ m,m<k→ap (Ma.aj u (Ma.aj h0 x)) m=ap (Ma.aj h0 x) m:=fun m hm=>by rw [bU gu (by omega),fu m hm]
 refine ⟨⟨Ma.aj u h0,⟨hH.mul _ _ (ht.mem _ _ _ hk hu) Ac.1,Fx.mul gu (by omega) (fu.mono (by omega)) Ac.2⟩,(mul_assoc gu g0).symm⟩,fun h hh=>?_⟩
 rcases h2 h hh with h3 | ⟨j,hj,h4,h5⟩
 ·have gh:=hH.gd h hh.1
  have gz:=a_ gh gx
  have fg:Fx k (Ma.aj (Ma.aj h x) (Ma.aO (Ma.aj h0 x))):=fun m hm=>by
   rw [bU gz (by omega),← h3 m hm,gX gy (by omega)]
  have eg:Ma.aj (Ma.aj h x) (Ma.aO (Ma.aj h0 x))=Ma.aj h (Ma.aO h0):=by
   refine jS (n:=n) (a_ gz (aW gy)).2 (a_ gh (aW g0)).2 fun m hm=>?_;rw [bU gz hm,bU gh hm,bU gh hm];have h1:=eH gh hm;have zW:=eH (aW g0) h1
   have e:ap x (ap h m)=ap (Ma.aj h0 x) (ap (Ma.aO h0) (ap h m)):=by rw [bU g0 zW,kT g0 h1]
   rw [e,gX gy zW]
  have YD:St H k (Ma.aj (Ma.aj h x) (Ma.aO (Ma.aj h0 x))):=⟨by rw [eg]; exact hH.mul _ _ hh.1 (hH.inv _ Ac.1),fg⟩;obtain ⟨v,hv⟩:=ht.all k _ hk YD;have hle:=hq _ (by rw [hv]; simp)
  have ez:ap (Ma.aj h0 x) (ap (Ma.aj (Ma.aj h x) (Ma.aO (Ma.aj h0 x))) k)=ap (Ma.aj h x) k:=by
   rw [bU gz hk,kT gy (eH gz hk)]
  rw [ez] at hle
  have ey:ap (Ma.aj u (Ma.aj h0 x)) k=ap (Ma.aj h0 x) q:=by rw [bU gu hk,ht.rp.at_ _ _ _ (Nat.zero_le _) hk hu]
  rcases Nat.lt_or_eq_of_le hle with aJ | heq
  ·exact .inr ⟨k,by omega,fun m hm=>by rw [nT m hm]; exact h3 m hm,by rw [ey]; exact aJ⟩
  ·exact .inl fun m hm=>by
    by_cases e:m=k
    ·subst e; rw [ey,heq]
    ·rw [nT m (by omega)]; exact h3 m (by omega)
 ·exact .inr ⟨j,by omega,fun m hm=>by rw [nT m (by omega)]; exact h4 m hm,by rw [nT j hj]; exact h5⟩
theorem LI.done (hH:eI n H) {i:Nat} (hi:i<n) {x:List Nat} (hx:St H i x) (h:LI H i n x y):lV n (fun z=>St H i z∧ap z i=ap x i) y:=by
 obtain ⟨⟨h0,Ac,rfl⟩,h2⟩:=h;have gx:=hH.gd x hx.1;have g0:=hH.gd h0 Ac.1;refine ⟨⟨⟨hH.mul _ _ Ac.1 hx.1,Fx.mul g0 (by omega) (Ac.2.mono (by omega)) hx.2⟩,by rw [bU g0 hi,Ac.2 i (by omega)]⟩,fun z ⟨hz,K7⟩=>?_⟩;have gz:=hH.gd z hz.1
 have hf:Fx (i+1) (Ma.aj z (Ma.aO x)):=fun m hm=>by
  rw [bU gz (by omega)]
  by_cases e:m=i
  ·subst e; rw [K7,gX gx hi]
  ·rw [hz.2 m (by omega)]
   have:=gX gx (show m<n by omega)
   rwa [hx.2 m (by omega)] at this
 have e:=mul_inv_cancel gz gx
 rcases h2 _ ⟨hH.mul _ _ hz.1 (hH.inv _ hx.1),hf⟩ with h3 | h3
 ·rw [e] at h3
  exact .inl (jS (n:=n) gz.2 (a_ g0 gx).2 fun m hm=>(h3 m hm).symm)
 ·rw [e] at h3
  obtain ⟨j,hj,h4,h5⟩:=h3;exact .inr ⟨j,hj,h4,h5⟩
structure ar (n:Nat) (H:List Nat→Prop) (O:List (List Nat)) (R:List (List (List Nat))):Prop where
 iY:O.length=n
 il:R.length=n
 pQ:∀ i,i<n→(O.getD i []).Pairwise (· < ·)
 orb:∀ i p,i<n→(p∈O.getD i []↔∃ x,St H i x∧ap x i=p)
 len:∀ i,i<n→(R.getD i []).length=(O.getD i []).length
 rep:∀ i k,i<n→k<(O.getD i []).length→lV n (fun z=>St H i z∧ap z i=(O.getD i []).getD k 0) ((R.getD i []).getD k [])
theorem zl:∀ {l l':List Nat},l.Pairwise (· < ·)→l'.Pairwise (· < ·)→(∀ x,x∈l↔x∈l')→l=l'
 | [],[],_,_,_=>rfl
 | [],y :: l',_,_,h=>by have:=(h y).2 (List.mem_cons_self ..); simp at this
 | x :: l,[],_,_,h=>by have:=(h x).1 (List.mem_cons_self ..); simp at this
 | x :: l,y :: l',h1,h2,h=>by
  rw [List.pairwise_cons] at h1 h2;have hx:=(h x).1 (List.mem_cons_self ..);have hy:=(h y).2 (List.mem_cons_self ..)
  have e:x=y:=by
   rcases List.mem_cons.1 hx with e | e
   ·exact e
   ·rcases List.mem_cons.1 hy with e' | e'
    ·exact e'.symm
    ·have:=h1.1 y e'; have:=h2.1 x e; omega
  subst e
  rw [zl h1.2 h2.2 fun z=>⟨fun hz=>by
   rcases List.mem_cons.1 ((h z).1 (List.mem_cons_of_mem _ hz)) with e | e
   ·subst e; have:=h1.1 z hz; omega
   ·exact e,fun hz=>by
   rcases List.mem_cons.1 ((h z).2 (List.mem_cons_of_mem _ hz)) with e | e
   ·subst e; have:=h2.1 z hz; omega
   ·exact e⟩]
theorem getD_in {α:Type} {l:List α} {i:Nat} (h:i<l.length) (d:α):l.getD i d=l[i]:=by rw [List.getD,List.getElem?_eq_getElem h]; rfl
theorem ar.uniq {n:Nat} {H:List Nat→Prop} {O O':List (List Nat)} {R R':List (List (List Nat))} (h:ar n H O R) (h':ar n H O' R'):O=O'∧R=R':=by
 have hO:O=O':=by
  apply List.ext_getElem (by rw [h.iY,h'.iY])
  intro i h1 h2
  have hi:i<n:=by rw [← h.iY]; exact h1
  have e1:O.getD i []=O[i]:=by simp [List.getD,List.getElem?_eq_getElem h1]
  have e2:O'.getD i []=O'[i]:=by simp [List.getD,List.getElem?_eq_getElem h2]
  rw [← e1,← e2];exact zl (h.pQ i hi) (h'.pQ i hi) fun p=>(h.orb i p hi).trans (h'.orb i p hi).symm
 subst hO;refine ⟨rfl,?_⟩
 apply List.ext_getElem (by rw [h.il,h'.il])
 intro i h1 h2
 have hi:i<n:=by rw [← h.il]; exact h1
 have e1:R.getD i []=R[i]:=by simp [List.getD,List.getElem?_eq_getElem h1]
 have e2:R'.getD i []=R'[i]:=by simp [List.getD,List.getElem?_eq_getElem h2]
 rw [← e1,← e2]
 apply List.ext_getElem (by rw [h.len i hi,h'.len i hi])
 intro k k1 k2
 have hk:k<(O.getD i []).length:=by rw [← h.len i hi]; exact k1
 have f1:(R.getD i []).getD k []=(R.getD i [])[k]:=getD_in k1 _;have f2:(R'.getD i []).getD k []=(R'.getD i [])[k]:=getD_in k2 _;rw [← f1,← f2];exact (h.rep i k hi hk).uniq (h'.rep i k hi hk)

def cS (n:Nat) (tr:Tr):Nat→List Nat→Nat × List Nat
 | 0,x=>(n,x)
 | d+1,x=>match tr (n - (d+1)) (ap x (n - (d+1))) with
  | none=>(n - (d+1),x)
  | some u=>cS n tr d (Ma.aj x (Ma.aO u))
theorem jF {tr:Tr} {d:Nat} {x:List Nat} (h:tr (n - (d+1)) (ap x (n - (d+1)))=none):cS n tr (d+1) x=(n - (d+1),x):=by
 unfold cS; rw [h]
theorem gY {tr:Tr} {d:Nat} {x u:List Nat} (h:tr (n - (d+1)) (ap x (n - (d+1)))=some u):cS n tr (d+1) x=cS n tr d (Ma.aj x (Ma.aO u)):=by
 conv=>lhs; unfold cS
 rw [h]
theorem rJ {lo:Nat} {tr:Tr} (hr:Rp n lo tr) {i:Nat} (hl:lo≤i) (hi:i<n) {x u:List Nat} (gx:Gd n x) (fx:Fx i x) (hu:tr i (ap x i)=some u):Gd n (Ma.aj x (Ma.aO u))∧Fx (i+1) (Ma.aj x (Ma.aO u)):=by
 have gu:=hr.gd _ _ _ hl hi hu;have fu:=hr.fx _ _ _ hl hi hu;have au:=hr.at_ _ _ _ hl hi hu;refine ⟨a_ gx (aW gu),fun j hj=>?_⟩;rw [bU gx (by omega)]
 by_cases e:j=i
 ·subst e; rw [← au]; exact gX gu hi
 ·rw [fx j (by omega)]
  exact Fx.inv gu (by omega) fu j (by omega)
theorem mE {n lo:Nat} {tr:Tr} (hr:Rp n lo tr):∀ {d:Nat} {x:List Nat},d≤n→lo≤n - d→Gd n x→Fx (n - d) x →
  (cS n tr d x).1≤n∧n - d≤(cS n tr d x).1∧Gd n (cS n tr d x).2∧Fx (cS n tr d x).1 (cS n tr d x).2∧((cS n tr d x).1<n→tr (cS n tr d x).1 (ap (cS n tr d x).2 (cS n tr d x).1)=none)
 | 0,x,_,_,gx,fx=>⟨Nat.le_refl _,by show n - 0≤n; omega,gx,fx,fun h=>absurd h (Nat.lt_irrefl _)⟩
 | d+1,x,hd,hl,gx,fx=>by
  cases h:tr (n - (d+1)) (ap x (n - (d+1))) with
  | none =>
   rw [jF h];exact ⟨by show n - (d+1)≤n; omega,Nat.le_refl _,gx,fx,fun _=>h⟩
  | some u =>
   rw [gY h];obtain ⟨g1,f1⟩:=rJ hr hl (by omega) gx fx h;rw [show n - (d+1)+1=n - d by omega] at f1;obtain ⟨a,b,c⟩:=mE hr (d:=d) (by omega) (by omega) g1 f1;exact ⟨a,by omega,c⟩
theorem pI {n:Nat} {tr tr':Tr}:∀ {d:Nat} {x:List Nat},d≤n→(∀ i p u,n - d≤i→tr i p=some u→tr' i p=some u)→Sd n tr' (n - (cS n tr d x).1) (cS n tr d x).2→Sd n tr' d x
 | 0,x,_,_,h=>by
  have:Sd n tr' (n - n) x:=h
  rwa [Nat.sub_self] at this
 | d+1,x,hd,hm,hs=>by
  cases h:tr (n - (d+1)) (ap x (n - (d+1))) with
  | none =>
   rw [jF h] at hs;have:Sd n tr' (n - (n - (d+1))) x:=hs
   rwa [show n - (n - (d+1))=d+1 by omega] at this
  | some u =>
   rw [gY h] at hs;exact ⟨u,hm _ _ _ (Nat.le_refl _) h,pI (by omega) (fun i p u hi=>hm i p u (by omega)) hs⟩
theorem vX {n:Nat} {tr:Tr} {H:List Nat→Prop} (hH:eI n H):∀ {d:Nat} {x:List Nat},d≤n→(∀ i p u,n - d≤i→i<n→tr i p=some u→H u)→H x→H (cS n tr d x).2
 | 0,_,_,_,h=>h
 | d+1,x,hd,hm,hx=>by
  cases h:tr (n - (d+1)) (ap x (n - (d+1))) with
  | none=>rw [jF h]; exact hx
  | some u =>
   rw [gY h];exact vX hH (by omega) (fun i p u hi=>hm i p u (by omega)) (hH.mul _ _ hx (hH.inv _ (hm _ _ _ (Nat.le_refl _) (by omega) h)))
structure Lv where
 gens:List (List Nat)
 orb:List Nat
 rep:Nat→Option (List Nat)
 tried:Nat→Nat
abbrev bf:=Nat→Lv
def bX (T:bf):Tr:=fun i p=>(T i).rep p
structure fC (n:Nat) (T:bf) (i:Nat):Prop where
 yk:∀ s∈(T i).gens,Gd n s
 I5:∀ s∈(T i).gens,Fx i s
 low:i+1<n→∀ s∈(T (i+1)).gens,Gr n (·∈(T i).gens) s
 self:(T i).rep i=some (Ma.aR n)
 vY:∀ p u,(T i).rep p=some u→Gd n u
 BL:∀ p u,(T i).rep p=some u→Fx i u
 Ad:∀ p u,(T i).rep p=some u→ap u i=p
 Ae:∀ p u,(T i).rep p=some u→p<n
 BN:∀ p u,(T i).rep p=some u→Gr n (·∈(T i).gens) u
 nd:(T i).orb.Nodup
 orb:∀ p,p∈(T i).orb↔∃ u,(T i).rep p=some u
 le:∀ q,(T i).tried q≤(T i).gens.length
 vZ:∀ p,(T i).rep p=none→(T i).tried p=0
 pr:∀ q u k (hk:k<(T i).gens.length),(T i).rep q=some u→k<(T i).tried q→∃ v,(T i).rep (ap (T i).gens[k] q)=some v∧Sd n (bX T) (n - (i+1)) (Ma.aj (Ma.aj u (T i).gens[k]) (Ma.aO v))
def yl (T:bf) (i:Nat):Prop:=∀ q u,(T i).rep q=some u→(T i).tried q=(T i).gens.length
theorem fC.rp {lo:Nat} {T:bf} (h:∀ j,lo≤j→j<n→fC n T j):Rp n lo (bX T) :=
 ⟨fun i p u hl hi hu=>(h i hl hi).vY p u hu,fun i p u hl hi hu=>(h i hl hi).BL p u hu,fun i p u hl hi hu=>(h i hl hi).Ad p u hu,fun i hl hi=>(h i hl hi).self⟩
theorem fC.Q6 {lo:Nat} {T:bf} (h:∀ j,lo≤j→j<n→fC n T j∧yl T j):tx n lo (fun i s=>s∈(T i).gens) (bX T):=by
 refine ⟨fC.rp fun j a b=>(h j a b).1,fun i s a b=>(h i a b).1.yk s,fun i s a b=>(h i a (by omega)).1.low b s,fun i p u a b hu=>(h i a b).1.BN p u hu,fun i p u s a b hu hs=>?_⟩;obtain ⟨k,hk,rfl⟩:=List.getElem_of_mem hs;exact (h i a b).1.pr p u k hk hu (by rw [(h i a b).2 p u hu]; exact hk)
theorem fC.sd {lo:Nat} {T:bf} (h:∀ j,lo≤j→j<n→fC n T j∧yl T j) (hl:lo<n) {x:List Nat} (hx:Gr n (·∈(T lo).gens) x):Sd n (bX T) (n - lo) x:=by
 have:=((fC.Q6 h).K3 (d:=n - lo) (by omega) (by omega)).2 (by omega) x;rw [show n - (n - lo)=lo by omega] at this;exact this hx
structure Ext (T T':bf):Prop where
 rep:∀ j p u,(T j).rep p=some u→(T' j).rep p=some u
 orb:∀ j,(T j).orb.length≤(T' j).orb.length
 gens:∀ j s,s∈(T j).gens→s∈(T' j).gens
theorem Ext.refl (T:bf):Ext T T:=⟨fun _ _ _ h=>h,fun _=>Nat.le_refl _,fun _ _ h=>h⟩
theorem Ext.trans {T T' U5:bf} (h:Ext T T') (h':Ext T' U5):Ext T U5:=⟨fun j p u e=>h'.rep j p u (h.rep j p u e),fun j=>Nat.le_trans (h.orb j) (h'.orb j),fun j s e=>h'.gens j s (h.gens j s e)⟩
theorem fC.Qg {i:Nat} {T T':bf} (h:fC n T i) (he:T' i=T i) (hx:∀ j p u,(T j).rep p=some u→(T' j).rep p=some u) (nT:i+1<n→∀ s∈(T' (i+1)).gens,Gr n (·∈(T i).gens) s):fC n T' i:=by
 refine ⟨by rw [he]; exact h.yk,by rw [he]; exact h.I5,by rw [he]; exact nT,by rw [he]; exact h.self,by rw [he]; exact h.vY,by rw [he]; exact h.BL,by rw [he]; exact h.Ad,by rw [he]; exact h.Ae,by rw [he]; exact h.BN,by rw [he]; exact h.nd,by rw [he]; exact h.orb,by rw [he]; exact h.le,by rw [he]; exact h.vZ,?_⟩;simp only [he];intro q u k hk hu hq;obtain ⟨v,h1,h2⟩:=h.pr q u k hk hu hq;exact ⟨v,h1,Sd.mono (fun j p u _ e=>hx j p u e) h2⟩
theorem fC.ext {i:Nat} {T T':bf} (h:fC n T i) (he:T' i=T i) (hx:Ext T T') (nT:i+1<n→∀ s∈(T' (i+1)).gens,Gr n (·∈(T i).gens) s):fC n T' i:=h.Qg he hx.rep nT
theorem yl.ext {i:Nat} {T T':bf} (h:yl T i) (he:T' i=T i):yl T' i:=by
 unfold yl at *; rw [he]; exact h
def oJ (n:Nat) (T:bf):Nat→Nat
 | 0=>0
 | d+1=>(T (n - (d+1))).orb.length+oJ n T d
def Af (n:Nat) (T:bf) (i:Nat):Nat:=oJ n T (n - i)
theorem qk {n:Nat} {T T':bf} (h:Ext T T'):∀ d,oJ n T d≤oJ n T' d
 | 0=>Nat.le_refl _
 | d+1=>Nat.add_le_add (h.orb _) (qk h d)
theorem v7 {n:Nat} {T T':bf} (h:Ext T T') {i:Nat} (hi:i<n) (aJ:(T i).orb.length<(T' i).orb.length):∀ d,d≤n→n - i≤d→oJ n T d<oJ n T' d
 | 0,_,hd=>by omega
 | d+1,U6,hd=>by
  by_cases e:n - i=d+1
  ·have:n - (d+1)=i:=by omega
   show (T (n - (d+1))).orb.length+oJ n T d<(T' (n - (d+1))).orb.length+oJ n T' d;rw [this];exact Nat.add_lt_add_of_lt_of_le aJ (qk h d)
  ·exact Nat.add_lt_add_of_le_of_lt (h.orb _) (v7 h hi aJ d (by omega) (by omega))
theorem I6 {T T':bf} (h:Ext T T') (i:Nat):Af n T i≤Af n T' i:=qk h _
theorem I7 {T T':bf} (h:Ext T T') {i:Nat} (hi:i<n) (hj:j≤i) (aJ:(T i).orb.length<(T' i).orb.length):Af n T j<Af n T' j:=v7 h hi aJ _ (by omega) (by omega)
theorem mF {i:Nat} {T:bf} (h:fC n T i):(T i).orb.length≤n:=by
 have h1:(T i).orb ⊆ List.range n:=fun p hp=>by
  obtain ⟨u,hu⟩:=(h.orb p).1 hp;exact List.mem_range.2 (h.Ae p u hu)
 have:=List.Nodup.length_le_of_subset h.nd h1
 rwa [List.length_range] at this
theorem BO {n lo:Nat} {T:bf} (h:∀ j,lo≤j→j<n→fC n T j):∀ d,d≤n→lo≤n - d→oJ n T d≤d*n
 | 0,_,_=>by simp [oJ]
 | d+1,hd,hl=>by
  have h1:=mF (h (n - (d+1)) hl (by omega));have h2:=BO h d (by omega) (by omega);show _+_≤_;rw [Nat.succ_mul]; omega
theorem H9 {lo:Nat} {T:bf} (h:∀ j,lo≤j→j<n→fC n T j) {i:Nat} (hi:lo≤i) (hn:n≤64):Af n T i≤4096:=by
 by_cases aB:i≤n
 ·have h1:=BO h (n - i) (by omega) (by omega)
  have h2:(n - i)*n≤64*64:=Nat.mul_le_mul (by omega) hn;unfold Af; omega
 ·unfold Af; rw [show n - i=0 by omega]; simp [oJ]
def gL (T:bf) (lo hi:Nat) (r:List Nat):bf:=fun j=>if lo≤j∧j≤hi then { T j with gens:=(T j).gens++[r] } else T j
theorem iy {T:bf} {lo hi:Nat} {r:List Nat} (h:lo≤j∧j≤hi):gL T lo hi r j={ T j with gens:=(T j).gens++[r] }:=if_pos h
theorem eL {T:bf} {lo hi:Nat} {r:List Nat} (h:¬ (lo≤j∧j≤hi)):gL T lo hi r j=T j:=if_neg h
theorem rK (T:bf) (lo hi:Nat) (r:List Nat):bX (gL T lo hi r)=bX T:=by
 funext j p
 unfold bX
 by_cases h:lo≤j∧j≤hi
 ·rw [iy h]
 ·rw [eL h]
theorem tz (T:bf) (lo hi:Nat) (r:List Nat) (j:Nat):(gL T lo hi r j).orb=(T j).orb:=by
 by_cases h:lo≤j∧j≤hi
 ·rw [iy h]
 ·rw [eL h]
theorem tA (T:bf) (lo hi:Nat) (r:List Nat):Ext T (gL T lo hi r) :=
 ⟨fun j p u h=>(show bX (gL T lo hi r) j p=some u by rw [rK]; exact h),fun j=>by rw [tz]; exact Nat.le_refl _,fun j s hs=>by
  by_cases h:lo≤j∧j≤hi
  ·rw [iy h]; exact List.mem_append_left _ hs
  ·rw [eL h]; exact hs⟩
theorem I8 {lo hi i:Nat} {T:bf} {r:List Nat} (h:fC n T i) (hl:lo≤i) (hr:Gd n r) (hf:Fx hi r):fC n (gL T lo hi r) i:=by
 have Q7:=fun p=>congrFun (congrFun (rK T lo hi r) i) p;have pW:∀ p,(gL T lo hi r i).rep p=(T i).rep p:=Q7
 by_cases eE:i≤hi
 ·have e:=iy (T:=T) (r:=r) ⟨hl,eE⟩
  have hg:∀ s,s∈(T i).gens→s∈(gL T lo hi r i).gens:=fun s hs=>by rw [e]; exact List.mem_append_left _ hs
  have hm:∀ s,s∈(gL T lo hi r i).gens→s∈(T i).gens∨s=r:=fun s hs=>by
   rw [e] at hs
   rcases List.mem_append.1 hs with hs | hs
   ·exact .inl hs
   ·exact .inr (List.mem_singleton.1 hs)
  have OM:r∈(gL T lo hi r i).gens:=by rw [e]; exact List.mem_append_right _ (List.mem_singleton.2 rfl)
  refine ⟨fun s hs=>?_,fun s hs=>?_,fun h1 s hs=>?_,by rw [pW]; exact h.self,fun p u hu=>h.vY p u (by rwa [pW] at hu),fun p u hu=>h.BL p u (by rwa [pW] at hu),fun p u hu=>h.Ad p u (by rwa [pW] at hu),fun p u hu=>h.Ae p u (by rwa [pW] at hu),
   fun p u hu=>(h.BN p u (by rwa [pW] at hu)).mono hg,by rw [tz]; exact h.nd,fun p=>by rw [tz,pW]; exact h.orb p,fun q=>?_,fun p hp=>by rw [pW] at hp; rw [e]; exact h.vZ p hp,?_⟩
  ·rcases hm s hs with hs | rfl
   ·exact h.yk s hs
   ·exact hr
  ·rcases hm s hs with hs | rfl
   ·exact h.I5 s hs
   ·exact hf.mono eE
  ·by_cases h2:i+1≤hi
   ·rw [iy ⟨by omega,h2⟩] at hs
    rcases List.mem_append.1 hs with hs | hs
    ·exact (h.low h1 s hs).mono hg
    ·rw [List.mem_singleton] at hs; subst hs; exact .gen _ OM
   ·rw [eL (by omega)] at hs
    exact (h.low h1 s hs).mono hg
  ·have:=h.le q
   rw [e]; simp; omega
  ·intro q u k hk hu hq
   rw [pW] at hu
   have ym:k<(T i).tried q:=by rw [e] at hq; exact hq
   have K8:k<(T i).gens.length:=Nat.lt_of_lt_of_le ym (h.le q)
   have eg:(gL T lo hi r i).gens[k]=(T i).gens[k]:=by simp only [e]; rw [List.getElem_append_left K8]
   obtain ⟨v,h1,h2⟩:=h.pr q u k K8 hu ym;rw [eg];exact ⟨v,by rw [pW]; exact h1,by rw [rK]; exact h2⟩
 ·exact h.ext (eL (by omega)) (tA T lo hi r) fun h1 s hs=>by
   rw [eL (by omega)] at hs; exact h.low h1 s hs
def tick (T:bf) (i q:Nat):bf:=fun j=>if j=i then { T j with tried:=fun p=>if p=q then (T j).tried p+1 else (T j).tried p } else T j
def find (T:bf) (i p:Nat) (y:List Nat):bf:=fun j=>if j=i then { T j with orb:=(T j).orb++[p],rep:=fun z=>if z=p then some y else (T j).rep z } else T j
theorem dV (T:bf) (i q:Nat):tick T i q i={ T i with tried:=fun p=>if p=q then (T i).tried p+1 else (T i).tried p }:=if_pos rfl
theorem iA {T:bf} {i q:Nat} (h:j≠i):tick T i q j=T j:=if_neg h
theorem mG (T:bf) (i p:Nat) (y:List Nat):find T i p y i={ T i with orb:=(T i).orb++[p],rep:=fun z=>if z=p then some y else (T i).rep z }:=if_pos rfl
theorem oK {T:bf} {i p:Nat} (h:j≠i):find T i p y j=T j:=if_neg h
theorem jG (T:bf) (i q:Nat):Ext T (tick T i q) :=
 ⟨fun j p u h=>by
  by_cases e:j=i
  ·subst e; rw [dV]; exact h
  ·rw [iA e]; exact h,fun j=>by
  by_cases e:j=i
  ·subst e; rw [dV]; exact Nat.le_refl _
  ·rw [iA e]; exact Nat.le_refl _,fun j s hs=>by
  by_cases e:j=i
  ·subst e; rw [dV]; exact hs
  ·rw [iA e]; exact hs⟩
theorem tB {T:bf} {i p:Nat} (hp:(T i).rep p=none):Ext T (find T i p y) :=
 ⟨fun j z u h=>by
  by_cases e:j=i
  ·subst e
   rw [mG];show (if z=p then some y else (T j).rep z)=some u;rw [if_neg,h];rintro rfl; rw [hp] at h; cases h
  ·rw [oK e]; exact h,fun j=>by
  by_cases e:j=i
  ·subst e; rw [mG]; simp
  ·rw [oK e]; exact Nat.le_refl _,fun j s hs=>by
  by_cases e:j=i
  ·subst e; rw [mG]; exact hs
  ·rw [oK e]; exact hs⟩
theorem I9 {i q:Nat} {T T':bf} (h:fC n T i) {uq v:List Nat} (hk:(T i).tried q<(T i).gens.length) (hs:(T i).gens[(T i).tried q]=s) (j7:(T i).rep q=some uq)
  (hi:T' i=tick T i q i) (hx:Ext T T') (nT:i+1<n→∀ s∈(T' (i+1)).gens,Gr n (·∈(T i).gens) s) (hv:(T i).rep (ap s q)=some v) (Q8:Sd n (bX T') (n - (i+1)) (Ma.aj (Ma.aj uq s) (Ma.aO v))):fC n T' i:=by
 rw [dV] at hi;refine ⟨by rw [hi]; exact h.yk,by rw [hi]; exact h.I5,by rw [hi]; exact nT,by rw [hi]; exact h.self,by rw [hi]; exact h.vY,by rw [hi]; exact h.BL,by rw [hi]; exact h.Ad,by rw [hi]; exact h.Ae,by rw [hi]; exact h.BN,by rw [hi]; exact h.nd,by rw [hi]; exact h.orb,?_,?_,?_⟩
 ·rw [hi]
  intro p;show (if p=q then (T i).tried p+1 else (T i).tried p)≤(T i).gens.length
  split
  ·rename_i e; subst e; omega
  ·exact h.le p
 ·rw [hi]
  intro p hp;show (if p=q then (T i).tried p+1 else (T i).tried p)=0;rw [if_neg]
  ·exact h.vZ p hp
  ·rintro rfl
   have rE:(T i).rep p=none:=hp;rw [j7] at rE; cases rE
 ·simp only [hi]
  intro p u k fD hu hp
  by_cases e:p=q
  ·subst e
   rw [if_pos rfl] at hp
   by_cases e2:k=(T i).tried p
   ·subst e2
    rw [j7] at hu; cases hu;rw [hs]; exact ⟨v,hv,Q8⟩
   ·obtain ⟨v2,h1,h2⟩:=h.pr p u k fD hu (by omega)
    exact ⟨v2,h1,Sd.mono (fun j p u _ e=>hx.rep j p u e) h2⟩
  ·rw [if_neg e] at hp
   obtain ⟨v2,h1,h2⟩:=h.pr p u k fD hu hp;exact ⟨v2,h1,Sd.mono (fun j p u _ e=>hx.rep j p u e) h2⟩
theorem I_ {i q:Nat} {T:bf} (h:∀ j,i≤j→j<n→fC n T j) (aB:i<n) {uq:List Nat} (hk:(T i).tried q<(T i).gens.length) (hs:(T i).gens[(T i).tried q]=s) (j7:(T i).rep q=some uq) (hp:(T i).rep (ap s q)=none) :
  fC n (find (tick T i q) i (ap s q) (Ma.aj uq s)) i:=by
 have hl:=h i (Nat.le_refl _) aB
 have rL:s∈(T i).gens:=by rw [← hs]; exact List.getElem_mem hk
 have gs:=hl.yk s rL;have gu:=hl.vY q uq j7;have hq:=hl.Ae q uq j7;have gy:=a_ gu gs;have hx:Ext T (find (tick T i q) i (ap s q) (Ma.aj uq s)):=(jG T i q).trans (tB (by rw [dV]; exact hp))
 have ei:find (tick T i q) i (ap s q) (Ma.aj uq s) i={ gens:=(T i).gens,orb:=(T i).orb++[ap s q],rep:=fun z=>if z=ap s q then some (Ma.aj uq s) else (T i).rep z,tried:=fun p=>if p=q then (T i).tried p+1 else (T i).tried p }:=by rw [mG,dV]
 have ay:ap (Ma.aj uq s) i=ap s q:=by rw [bU gu aB,hl.Ad q uq j7]
 have fy:Fx i (Ma.aj uq s):=Fx.mul gu (by omega) (hl.BL q uq j7) (hl.I5 s rL);refine ⟨by rw [ei]; exact hl.yk,by rw [ei]; exact hl.I5,?_,?_,?_,?_,?_,?_,?_,?_,?_,?_,?_,?_⟩
 ·rw [ei]
  intro h1 z hz;rw [oK (by omega),iA (by omega)] at hz;exact hl.low h1 z hz
 ·rw [ei]
  show (if i=ap s q then _ else _)=_;rw [if_neg,hl.self];intro e; rw [← e,hl.self] at hp; cases hp
 ·rw [ei]
  intro p u hu;have fB:(if p=ap s q then some (Ma.aj uq s) else (T i).rep p)=some u:=hu
  split at fB
  ·cases fB; exact gy
  ·exact hl.vY p u fB
 ·rw [ei]
  intro p u hu;have fB:(if p=ap s q then some (Ma.aj uq s) else (T i).rep p)=some u:=hu
  split at fB
  ·cases fB; exact fy
  ·exact hl.BL p u fB
 ·rw [ei]
  intro p u hu;have fB:(if p=ap s q then some (Ma.aj uq s) else (T i).rep p)=some u:=hu
  split at fB
  ·rename_i e; cases fB; rw [e]; exact ay
  ·exact hl.Ad p u fB
 ·rw [ei]
  intro p u hu;have fB:(if p=ap s q then some (Ma.aj uq s) else (T i).rep p)=some u:=hu
  split at fB
  ·rename_i e; rw [e]; exact eH gs hq
  ·exact hl.Ae p u fB
 ·rw [ei]
  intro p u hu;have fB:(if p=ap s q then some (Ma.aj uq s) else (T i).rep p)=some u:=hu
  split at fB
  ·cases fB; exact .mul _ _ (hl.BN q uq j7) (.gen _ rL)
  ·exact hl.BN p u fB
 ·rw [ei]
  show ((T i).orb++[ap s q]).Nodup;rw [List.nodup_append];refine ⟨hl.nd,by simp,?_⟩;intro a ha b hb e;rw [List.mem_singleton] at hb;subst hb; subst e;obtain ⟨u,hu⟩:=(hl.orb _).1 ha;rw [hp] at hu; cases hu
 ·rw [ei]
  intro p;show p∈(T i).orb++[ap s q]↔∃ u,(if p=ap s q then some (Ma.aj uq s) else (T i).rep p)=some u;rw [List.mem_append,List.mem_singleton]
  by_cases e:p=ap s q
  ·rw [if_pos e]; exact ⟨fun _=>⟨_,rfl⟩,fun _=>.inr e⟩
  ·rw [if_neg e,← hl.orb p]; exact ⟨fun h=>h.resolve_right e,.inl⟩
 ·rw [ei]
  intro p;show (if p=q then (T i).tried p+1 else (T i).tried p)≤(T i).gens.length
  split
  ·rename_i e; subst e; omega
  ·exact hl.le p
 ·rw [ei]
  intro p yp;have uP:(if p=ap s q then some (Ma.aj uq s) else (T i).rep p)=none:=yp;show (if p=q then (T i).tried p+1 else (T i).tried p)=0
  split at uP
  ·cases uP
  ·rw [if_neg]
   ·exact hl.vZ p uP
   ·rintro rfl; rw [j7] at uP; cases uP
 ·intro p u k BQ hu dR
  have fD:k<(T i).gens.length:=by rw [ei] at BQ; exact BQ
  simp only [ei] at hu dR ⊢
  have Q7:∀ z v,(T i).rep z=some v→(if z=ap s q then some (Ma.aj uq s) else (T i).rep z)=some v:=fun z v hz=>by
   rw [if_neg,hz];rintro rfl; rw [hp] at hz; cases hz
  have hold:∀ p u k (fD:k<(T i).gens.length),(T i).rep p=some u→k<(T i).tried p→∃ v,(if ap (T i).gens[k] p=ap s q then some (Ma.aj uq s) else (T i).rep (ap (T i).gens[k] p))=some v∧Sd n (bX (find (tick T i q) i (ap s q) (Ma.aj uq s))) (n - (i+1)) (Ma.aj (Ma.aj u (T i).gens[k]) (Ma.aO v)):=fun p u k fD hu dR=>by
   obtain ⟨v,h1,h2⟩:=hl.pr p u k fD hu dR;exact ⟨v,Q7 _ _ h1,Sd.mono (fun j p u _ e=>hx.rep j p u e) h2⟩
  by_cases e:p=ap s q
  ·
   rw [if_pos e] at hu
   exfalso
   by_cases e2:p=q
   ·rw [← e2,e,hp] at j7; cases j7
   ·rw [if_neg e2] at dR
    have:=hl.vZ p (by rw [e]; exact hp);omega
  ·rw [if_neg e] at hu
   by_cases e2:p=q
   ·subst e2
    rw [if_pos rfl] at dR
    by_cases e3:k=(T i).tried p
    ·subst e3
     rw [j7] at hu; cases hu;rw [hs,if_pos rfl];refine ⟨_,rfl,?_⟩;rw [oI gy];have hr:Rp n (i+1) (bX T):=fC.rp fun j a b=>h j (by omega) b;exact Sd.mono (fun j p u _ e=>hx.rep j p u e) (Sd.one hr (by omega) (by omega))
    ·exact hold p u k fD hu (by omega)
   ·rw [if_neg e2] at dR
    exact hold p u k fD hu dR
end Go.Proofs.Cm

namespace Go.Proofs.YtbngdgfmlmkgiaaGreat
open Go.RowKit
open Go.Proofs
attribute [local irreducible] Go.Calls
theorem aL {w:World} {u v:Int} {b:Bool} (t:TypeId) (h:decide (u<v)=b):(binOp .lss t (.int .i64 u) (.int .i64 v)).run Tryz.prog w=.ok (.bool b) w:=by
 subst h;simp [binOp,Op.intCmp]
theorem Ag {w:World} {u v:Int} {b:Bool} (t:TypeId) (h:decide (u≤v)=b):(binOp .leq t (.int .i64 u) (.int .i64 v)).run Tryz.prog w=.ok (.bool b) w:=by
 subst h;simp [binOp,Op.intCmp]
theorem Ah {w:World} {u v:Int} {b:Bool} (t:TypeId) (h:decide (v≤u)=b):(binOp .geq t (.int .i64 u) (.int .i64 v)).run Tryz.prog w=.ok (.bool b) w:=by
 subst h;simp [binOp,Op.intCmp]
theorem ax {w:World} {u v:Int} {b:Bool} (t:TypeId) (h:decide (u≠v)=b):(binOp .neq t (.int .i64 u) (.int .i64 v)).run Tryz.prog w=.ok (.bool b) w:=by
 subst h
 by_cases e:u=v <;> simp [binOp,Op.intCmp,e]
def GI (w:World) (b:Nat) (d:Int) (a:Option Addr) (ll:List (List Int)) (c:Nat):Prop :=
 w.cell? ⟨b,0,none⟩=some (.int .i64 d)∧w.cell? ⟨b,1,none⟩=some (.slice a ll.length c)∧Rg.Rows w (.slice a ll.length c) ll∧b<w.heap.size
theorem GI.c0 {w:World} {b:Nat} {a:Option Addr} {c:Nat} (h:GI w b d a ll c):w.cell? ⟨b,0,none⟩=some (.int .i64 d):=h.1
theorem GI.c1 {w:World} {b:Nat} {a:Option Addr} {c:Nat} (h:GI w b d a ll c):w.cell? ⟨b,1,none⟩=some (.slice a ll.length c):=h.2.1
theorem GI.rows {w:World} {b:Nat} {a:Option Addr} {c:Nat} (h:GI w b d a ll c):Rg.Rows w (.slice a ll.length c) ll:=h.2.2.1
theorem GI.lt {w:World} {b:Nat} {a:Option Addr} {c:Nat} (h:GI w b d a ll c):b<w.heap.size:=h.2.2.2
theorem GI.below {w w':World} {b:Nat} {d:Int} {a:Option Addr} {ll:List (List Int)} {c:Nat} (h:GI w b d a ll c) (hb:Below w.heap.size w w'):GI w' b d a ll c :=
 ⟨(hb.cell (p:=⟨b,0,none⟩) h.lt).trans h.c0,(hb.cell (p:=⟨b,1,none⟩) h.lt).trans h.c1,Rg.Rows.below h.rows hb,Nat.lt_of_lt_of_le h.lt hb.size⟩
theorem GI.new {w:World} {a:Option Addr} {c:Nat} (h:Rg.Rows w (.slice a ll.length c) ll):GI (w.alloc (.cells #[.int .i64 d,.slice a ll.length c] 24)) w.heap.size d a ll c :=
 ⟨by rw [Rg.aM]; rfl,by rw [Rg.aM]; rfl,Rg.Rows.below h ((Below.refl _ _).alloc (Nat.le_refl _) _),by simp⟩
theorem GI.enter {w:World} {gv:Value} (d:Int) (h:Rg.Rows w gv ll):∃ a c,gv=.slice a ll.length c∧GI (w.alloc (.cells #[.int .i64 d,.slice a ll.length c] 24)) w.heap.size d a ll c∧Below w.heap.size w (w.alloc (.cells #[.int .i64 d,.slice a ll.length c] 24)):=by
 obtain ⟨a,c,rfl,_⟩:=h.shape;exact ⟨a,c,rfl,GI.new h,(Below.refl _ _).alloc (Nat.le_refl _) _⟩
end Go.Proofs.YtbngdgfmlmkgiaaGreat

namespace Go.Proofs.YtbngdgfmlmkgiaaGreat
open Go.RowKit
open Go.Proofs
open Go.Proofs.Ob
attribute [local irreducible] Go.Calls
theorem dI (X:World) (u:Value) (hs:∃ a n c,u=.slice a n c):(Instr.buildSlice 22 1 #[(0,u)]).run Tryz.prog X=.ok (.slice (some ⟨X.heap.size,0,none⟩) 1 1) (X.alloc (.cells #[u] 26)):=by
 obtain ⟨i0,hi,dc,bM,eY⟩:=info_parts gW;obtain ⟨a,n,c,rfl⟩:=hs;refine run_buildSlice X 22 26 1 _ _ i0 _ Tryz.underlying22 hi dc (by rw [bM]; decide) (by rw [bM]; decide) ?_;generalize (fun x=>((Value.slice none 0 0).cells)[x % (Value.slice none 0 0).cells.size]!)=f;rw [bM];have h1:Array.range (1*1)=#[0]:=rfl;simp [Instr.fill,Value.cells,h1]
theorem ou {b:List Nat}:Ma.ah a=Ma.ah b↔a=b:=by
 constructor
 ·intro h
  have:=congrArg (fun l=>l.map Int.toNat) h
  simpa [Ma.ah,List.map_map,Function.comp_def] using this
 ·rintro rfl; rfl

theorem rM:(Tryz.prog.info? 26).map (·.size)=some 1:=by kernel_rfl
theorem BR {w:World} {b o:Nat} {u:Value} (a:Option Addr) (n c:Nat) (h:w.cell? ⟨b,o,none⟩=some u) (hf:w.frozen? ⟨b,o,none⟩=false) :
  (storeVar 26 ⟨b,o,none⟩ (.slice a n c)).run Tryz.prog w=.ok () (w.setCell ⟨b,o,none⟩ (.slice a n c)):=by
 obtain ⟨i0,hi,dc,bM,eY⟩:=info_parts gW
 have h0:(⟨b,o,none⟩:Addr).add 0=⟨b,o,none⟩:=by simp [Addr.add]
 simp [storeVar,sizeOf,typeInfo,hi,bM,Value.cells,storeCells,store,h0];simp [Sem.run,h,hf]
def UA (w:World) (bu:Nat) (gs:List (List Nat)) (D:Nat) (T:List En) (k:Nat):Prop :=
 ∃ F,w.rowIs bu 127 64 F∧∀ i (h:i<T.length),i<k→Rg.NP w (F T[i].1) (Eu gs D T[i].2.2.2)∧Rg.cL (bu+1) (F T[i].1)
theorem UA.lt {w:World} {bu:Nat} {T:List En} (h:UA w bu gs D T k):bu<w.heap.size:=by
 obtain ⟨F,⟨c,h1,_⟩,_⟩:=h;exact (Array.getElem?_eq_some_iff.1 h1).1
theorem UA.below {w w':World} {bu:Nat} {gs:List (List Nat)} {D:Nat} {T:List En} {k:Nat} (h:UA w bu gs D T k) (hb:Below w.heap.size w w'):UA w' bu gs D T k:=by
 obtain ⟨F,⟨c,h1,h2,h3⟩,h4⟩:=h;exact ⟨F,⟨c,by rw [hb.block bu (Array.getElem?_eq_some_iff.1 h1).1]; exact h1,h2,h3⟩,fun i hi hk=>⟨(h4 i hi hk).1.below hb,(h4 i hi hk).2⟩⟩
theorem UA.start (w:World) (gs:List (List Nat)) (D:Nat) (T:List En):UA (w.alloc (.cells (Array.replicate 64 (.slice none 0 0)) 127)) w.heap.size gs D T 0:=by
 refine ⟨fun _=>.slice none 0 0,?_,fun i _ h=>by omega⟩;have:=World.rowIs_alloc w (Array.replicate 64 (.slice none 0 0)) 127 (fun _=>.slice none 0 0) (fun i hi=>by rw [Array.getElem?_replicate,if_pos (by simpa using hi)])
 simpa using this
theorem UA.get {w:World} {bu:Nat} {T:List En} (h:UA w bu gs D T k) {i:Nat} (hi:i<T.length) (hk:i<k) (s5:T[i].1<64):∃ u,w.cell? ⟨bu,0+T[i].1,none⟩=some u∧Rg.NP w u (Eu gs D T[i].2.2.2)∧Rg.cL (bu+1) u:=by
 obtain ⟨F,h1,h2⟩:=h;exact ⟨_,by rw [Nat.zero_add]; exact h1.cell s5,h2 i hi hk⟩
theorem UA.put {w:World} {bu:Nat} {T:List En} (h:UA w bu gs D T k) (hb:Below w.heap.size w W) (pR:(vU T).Nodup) (hk:k<T.length) (s5:T[k].1<64) {a:Option Addr} {c:Nat} (hu:Rg.p_ w W (.slice a n c) (Eu gs D T[k].2.2.2)) :
  (storeVar 26 ⟨bu,0+T[k].1,none⟩ (.slice a n c)).run Tryz.prog W=.ok () (W.setCell ⟨bu,0+T[k].1,none⟩ (.slice a n c))∧UA (W.setCell ⟨bu,0+T[k].1,none⟩ (.slice a n c)) bu gs D T (k+1):=by
 have aJ:=h.lt;have h':=h.below hb;obtain ⟨F,h1,h2⟩:=h';rw [Nat.zero_add];refine ⟨BR a n c (h1.cell s5) (h1.frozen _),_,h1.set T[k].1 (.slice a n c),fun i hi YC=>?_⟩
 by_cases he:i=k
 ·subst he
  simp only [if_true];have hf:Rg.cL (bu+1) (.slice a n c):=hu.2.mono aJ;exact ⟨ints_set hu.1 hf (by omega) _,hf⟩
 ·have hne:T[i].1≠T[k].1:=by
   intro e;have:=(List.getElem_inj pR (h₀:=by rw [kQ]; omega) (h₁:=by rw [kQ]; omega)).1 ((rF T i (by rw [kQ]; omega)).trans (e.trans (rF T k (by rw [kQ]; omega)).symm));omega
  obtain ⟨g1,g2⟩:=h2 i hi (by omega);simp only [if_neg hne];exact ⟨ints_set g1 g2 (by omega) _,g2⟩

theorem kU {o:Oper} {a:Act} {w:World} (F:FuncId) (x:Operand) (ho:o.op=.makeFunc (.func F) #[] #[x]) {v:Value} (hx:a.eval x=v):(execOp a.eval o).run Tryz.prog w=.ok (.value (.func (.func F) #[] #[v])) w:=by
 unfold execOp;simp [ho,hx,Instr.makeFunc]

theorem yr {o:Oper} {a:Act} {w:World} (t:TypeId) (ho:o.op=.makeMap t none):(execOp a.eval o).run Tryz.prog w=.ok (.value (.map (some w.heap.size))) (w.alloc (.map #[] 0)):=by
 unfold execOp;have h:=run_makeMap_plain (P:=Tryz.prog) w t;simp [ho,h,Result.andThen]
end Go.Proofs.YtbngdgfmlmkgiaaGreat

namespace Go.Proofs
open Go.Shelf
def Tryz.Ai:Go.Shelf.Ren:=⟨fun | 189=>108 | 125=>42 | 257=>126 | 128=>74 | 129=>75 | 294=>127 | 295=>128 | 296=>129 | 297=>130 | 298=>131 | 299=>132 | 216=>133 | 300=>134 | 301=>135 | 328=>136 | 329=>92 | 330=>93 | 331=>137 | 332=>138 | 215=>96 | 343=>139 | n=>n,fun | 28=>25 | 3=>3 | 46=>79 | 0=>0 | 51=>107 | 53=>109 | 4=>4 | 183=>101 | 182=>100 | 131=>87 | 5=>5 | 9=>9 | 218=>134 | 222=>138 | 228=>156 | 229=>157 | n=>n,fun | n=>n⟩
theorem Tryz.K_:Go.Proofs.Lays.n189 Tryz.prog Tryz.Ai:={
 mixed:=by kernel_rfl
 f125:=Tryz.func42.trans (congrArg some (by kernel_rfl))
 f128:=Tryz.func74.trans (congrArg some (by kernel_rfl))
 f129:=Tryz.func75.trans (congrArg some (by kernel_rfl))
 f189:=Tryz.func108.trans (congrArg some (by kernel_rfl))
 f215:=Tryz.func96.trans (congrArg some (by kernel_rfl))
 f216:=Tryz.func133.trans (congrArg some (by kernel_rfl))
 f257:=Tryz.func126.trans (congrArg some (by kernel_rfl))
 f294:=Tryz.func127.trans (congrArg some (by kernel_rfl))
 f295:=Tryz.func128.trans (congrArg some (by kernel_rfl))
 f296:=Tryz.func129.trans (congrArg some (by kernel_rfl))
 f297:=Tryz.func130.trans (congrArg some (by kernel_rfl))
 f298:=Tryz.func131.trans (congrArg some (by kernel_rfl))
 f299:=Tryz.func132.trans (congrArg some (by kernel_rfl))
 f300:=Tryz.func134.trans (congrArg some (by kernel_rfl))
 f301:=Tryz.func135.trans (congrArg some (by kernel_rfl))
 f328:=Tryz.func136.trans (congrArg some (by kernel_rfl))
 f329:=Tryz.func92.trans (congrArg some (by kernel_rfl))
 f330:=Tryz.func93.trans (congrArg some (by kernel_rfl))
 f331:=Tryz.func137.trans (congrArg some (by kernel_rfl))
 f332:=Tryz.func138.trans (congrArg some (by kernel_rfl))
 f343:=Tryz.func139.trans (congrArg some (by kernel_rfl))
 t0:=Tryz.underlying0
 a0:=Tryz.isAgg0
 z0:=Tryz.sizeOf0
 v0:=Tryz.zeroValue0
 t3:=Tryz.underlying3
 a3:=Tryz.isAgg3
 z3:=Tryz.sizeOf3
 v3:=Tryz.zeroValue3
 t4:=Tryz.underlying4
 a4:=Tryz.isAgg4
 z4:=Tryz.sizeOf4
 v4:=Tryz.zeroValue4
 t5:=Tryz.underlying5
 a5:=Tryz.isAgg5
 z5:=Tryz.sizeOf5
 v5:=Tryz.zeroValue5
 t9:=Tryz.underlying9
 a9:=Tryz.isAgg9
 z9:=Tryz.sizeOf9
 v9:=Tryz.zeroValue9
 t28:=Tryz.underlying25
 a28:=Tryz.isAgg25
 z28:=Tryz.sizeOf25
 v28:=Tryz.zeroValue25
 t46:=Tryz.underlying79
 a46:=Tryz.isAgg79
 z46:=Tryz.sizeOf79
 v46:=Tryz.zeroValue79
 t51:=Tryz.underlying107
 a51:=Tryz.isAgg107
 z51:=Tryz.sizeOf107
 v51:=Tryz.zeroValue107
 t53:=Tryz.underlying109
 a53:=Tryz.isAgg109
 z53:=Tryz.sizeOf109
 v53:=Tryz.zeroValue109
 t131:=Tryz.underlying87
 a131:=Tryz.isAgg87
 z131:=Tryz.sizeOf87
 v131:=Tryz.zeroValue87
 t182:=Tryz.underlying100
 a182:=Tryz.isAgg100
 z182:=Tryz.sizeOf100
 v182:=Tryz.zeroValue100
 t183:=Tryz.underlying101
 a183:=Tryz.isAgg101
 z183:=Tryz.sizeOf101
 v183:=Tryz.zeroValue101
 t218:=Tryz.underlying134
 a218:=Tryz.isAgg134
 z218:=Tryz.sizeOf134
 v218:=Tryz.zeroValue134
 t222:=Tryz.underlying138
 a222:=Tryz.isAgg138
 z222:=Tryz.sizeOf138
 v222:=Tryz.zeroValue138
 t228:=Tryz.underlying156
 a228:=Tryz.isAgg156
 z228:=Tryz.sizeOf156
 v228:=Tryz.zeroValue156
 t229:=Tryz.underlying157
 a229:=Tryz.isAgg157
 z229:=Tryz.sizeOf157
 v229:=Tryz.zeroValue157 }
open Go.Sort Go.RowKit in
theorem Tryz.slices_Sort_int (blk off cap:Nat) (zs:List Int) (w:World) (hH:Holds (Value.int .i64) w blk off zs.toArray) (hblk:blk<w.heap.size) (dn:zs.length<4611686018427387904) :
  Calls Tryz.prog 108 #[.slice (some ⟨blk,off,none⟩) zs.length cap] w fun e w' =>
   e=.returned (.tuple #[])∧∃ n os,w'=grow (putRow (Value.int .i64) (Sort.ahead w n) blk off (zs.mergeSort fun x y=>decide (x≤y)).toArray) os:=Any.slices_Sort_int Tryz.K_ blk off cap zs w hH hblk dn
end Go.Proofs

namespace Go.Proofs.YtbngdgfmlmkgiaaGreat
open Go.RowKit
open Go.Proofs
open Go.Proofs.Ob
attribute [local irreducible] Go.Calls
theorem BS (l:List Int):(pQ l).length=l.length:=by
 rw [tu]; exact List.length_mergeSort _
theorem Ja (B n:Nat) (v:Value) (l:List Int) (w:World) (h:w.ownsRow B 3 1 v n (l.map (Value.int .i64))) (hn:0<n) (hm:n≤1000000000) :
  Calls Tryz.prog 108 #[v] w fun e w'=>(∃ r,e=.returned r)∧w'.ownsRow B 3 1 v n ((pQ l).map (Value.int .i64))∧w.grownBy w' v.ownBlock:=by
 obtain ⟨h1,h2⟩:=h
 have hl:l.length=n:=by simpa using h1
 rcases h2 with ⟨_,h0⟩ | ⟨g,cap,cur,rfl,hg,hc,h3,h4,h5,h6⟩
 ·omega
 subst hl;rw [Nat.mul_one] at h6;have hH:=holds_of_blockI hc h6;refine (Tryz.slices_Sort_int g 0 cap l w hH (Array.getElem?_eq_some_iff.1 hc).1 (by omega)).mono ?_;rintro e w' ⟨rfl,N,os,rfl⟩;have e1:(l.mergeSort fun x y=>decide (x≤y))=pQ l:=(tu l).symm;rw [e1];refine ⟨⟨_,rfl⟩,ownsRow_sortedI (BS l) hg hc h3 h4 h5,grownBy_sortedI _⟩
end Go.Proofs.YtbngdgfmlmkgiaaGreat

namespace Go.Proofs.Rg
open Go Go.RowKit
variable {P:Program} {md:Region.Mode} {ops:Array Oper} {Q:Exit→Act→World→Prop} {S:Array Bool→World→Prop}
theorem kV {i d:Nat} {I:World→Prop} {R:Value→World→Prop} {K:World→World→Prop} {oi:Oper} {b:Act} {v:Value} (hi:ops[i]?=some oi) (hd:oi.dst=some d) (hw:Region.wanted oi (yielded ops b.tmps)=true)
  (hr:(execOp b.eval oi).run P W=.ok (.value v) W') (hp:I W'∧R v W'∧K W W'):Does P ops Q i d I R K b W :=
 ox (some d) hi hd hw hr ⟨v,rfl,hp⟩
def fP (B:Nat) (us:List Value) (v:Value) (w:World):Prop:=∃ p,v=.slice (some ⟨p,0,none⟩) us.length us.length∧B≤p∧p<w.heap.size∧∀ j (h:j<us.length),w.cell? ⟨p,j,none⟩=some us[j]
theorem fP.below {us:List Value} {v:Value} {w:World} (h:fP B us v w) (hb:Below w.heap.size w w'):fP B us v w':=by
 obtain ⟨p,e,h0,h1,h2⟩:=h;exact ⟨p,e,h0,Nat.lt_of_lt_of_le h1 hb.size,fun j hj=>(hb.cell (p:=⟨p,j,none⟩) h1).trans (h2 j hj)⟩
theorem fP.new (w:World) (us:List Value) (t:TypeId) (hB:B≤w.heap.size):fP B us (.slice (some ⟨w.heap.size,0,none⟩) us.length us.length) (w.alloc (.cells us.toArray t)) :=
 ⟨w.heap.size,rfl,hB,by simp,fun j hj=>by rw [aM]; simp [List.getElem?_eq_getElem hj]⟩
theorem fP.grown {us:List Value} {v:Value} {w:World} {k:Option Nat} (h:fP B us v w) (hg:w.grownBy w' k) (hk:∀ j,k=some j→j<B):fP B us v w':=by
 obtain ⟨p,e,h0,h1,h2⟩:=h
 exact ⟨p,e,h0,Nat.lt_of_lt_of_le h1 hg.size,fun j hj=>by
  rw [← h2 j hj]
  exact World.cell?_of_block (a:=⟨p,j,none⟩) (hg.block p h1 (fun e=>by have:=hk p e.symm; omega))⟩
theorem fP.zd {us:List Value} {v:Value} {w:World} (h:fP B us v w) (hl:us.length≤1000000):cu w v us:=by
 obtain ⟨p,rfl,h0,h1,h2⟩:=h;exact cu.mk h1 (Nat.le_refl _) (by unfold maxLen; omega) (by omega) (fun i hi=>by rw [Nat.zero_add]; exact h2 i hi)
end Go.Proofs.Rg

namespace Go.Proofs.YtbngdgfmlmkgiaaGreat
open Go.RowKit
open Go.Proofs
open Go.Proofs.Ob
attribute [local irreducible] Go.Calls
def pX (B:Nat) (u:Value) (w:World):Prop:=w.ownsRow B 3 1 u 0 []∧∃ p,u=.slice (some ⟨p,0,none⟩) 0 0∧p<w.heap.size∧w.cell? ⟨p,0,none⟩=none
theorem pX.below {u:Value} {w:World} (h:pX B u w) (hb:Below w.heap.size w w'):pX B u w':=by
 obtain ⟨h1,p,e,h2,h3⟩:=h;exact ⟨Rg.aQ h1 hb,p,e,Nat.lt_of_lt_of_le h2 hb.size,(hb.cell (p:=⟨p,0,none⟩) h2).trans h3⟩
theorem pX.new (w:World) (hB:B≤w.heap.size):pX B (.slice (some ⟨w.heap.size,0,none⟩) 0 0) (w.alloc (.cells #[] 3)):=by
 refine ⟨⟨rfl,.inr ⟨w.heap.size,0,#[],rfl,hB,by show (w.heap.push _)[w.heap.size]?=_; simp,Nat.le_refl _,Nat.zero_le _,rfl,rfl⟩⟩,w.heap.size,rfl,by simp,by rw [Rg.aM]; rfl⟩
theorem fP.off {x v:Value} {w:World} {k:Option Nat} (h:Rg.fP B [x] v w) (hg:w.grownBy w' k) (hk:∀ p,v=.slice (some ⟨p,0,none⟩) 1 1→k≠some p):Rg.fP B [x] v w':=by
 obtain ⟨p,e,h0,h1,h2⟩:=h
 exact ⟨p,e,h0,Nat.lt_of_lt_of_le h1 hg.size,fun j hj=>by
  rw [← h2 j hj]
  exact World.cell?_of_block (a:=⟨p,j,none⟩) (hg.block p h1 (fun e'=>hk p e e'.symm))⟩
theorem jX:∀ u∈l.map (Value.int .i64),u.oneCell'=true:=fun u hu=>by
 obtain ⟨x,_,rfl⟩:=List.mem_map.1 hu; rfl

theorem GA.fresh {w:World} {a:Option Addr} {c:Nat} (h:Rg.iU w (.slice a gs.length c) gs) :
  ∃ W,(storeVar 24 ⟨w.heap.size,0,none⟩ (.agg #[.int .i64 ((D:Nat):Int),.slice a gs.length c])).run Tryz.prog (w.alloc (.cells #[.int .i64 0,.slice none 0 0] 24))=.ok () W∧GA W w.heap.size D a gs c∧Below w.heap.size w W:=by
 have n0:(w.alloc (.cells #[.int .i64 0,.slice none 0 0] 24)).cell? ⟨w.heap.size,0,none⟩=some (.int .i64 0):=by rw [Rg.aM]; rfl
 have n1:(w.alloc (.cells #[.int .i64 0,.slice none 0 0] 24)).cell? ⟨w.heap.size,1,none⟩=some (.slice none 0 0):=by rw [Rg.aM]; rfl
 obtain ⟨p0,p1,p2⟩:=qf (.int .i64 ((D:Nat):Int)) (.slice a gs.length c) n0 n1 ((Below.refl w.heap.size w).alloc (Nat.le_refl _) _) (Nat.le_refl _);exact ⟨_,oG _ a _ c n0 n1 (dv _ _ _ 0 _) (dv _ _ _ 0 _),⟨p0,p1,Rg.Rows.below h p2,by simp⟩,p2⟩
theorem rN {l1 l2:List (List Int)} {w:World} {b:Bool} (h1:Rg.Rows w v1 l1) (h2:Rg.Rows w v2 l2) (hd:Hid (decide (l1=l2)=b)) :
  Calls Tryz.prog 102 #[v1,v2] w fun e w'=>e=.returned (.bool b)∧Below w.heap.size w w':=by
 refine (zY v1 v2 l1 l2 w h1 h2).mono ?_;rintro e w' ⟨rfl,k,rfl⟩;exact ⟨by rw [hd.out],Rg.drewN (Below.refl _ _) k⟩

theorem GA.enter {w:World} {gv:Value} (D:Nat) (h:Rg.iU w gv gs):∃ a c,gv=.slice a gs.length c∧GA (w.alloc (.cells #[.int .i64 ((D:Nat):Int),.slice a gs.length c] 24)) w.heap.size D a gs c∧Below w.heap.size w (w.alloc (.cells #[.int .i64 ((D:Nat):Int),.slice a gs.length c] 24)):=by
 obtain ⟨a,c,rfl,_⟩:=h.shape;exact ⟨a,c,rfl,GA.new h,(Below.refl _ _).alloc (Nat.le_refl _) _⟩

def R2 (B:Nat) (w:World) (v1 v2:Value) (l1 l2:List Int):Prop :=
 B≤w.heap.size∧w.ownsRow B 3 1 v1 l1.length (l1.map (Value.int .i64))∧w.ownsRow B 3 1 v2 l2.length (l2.map (Value.int .i64))∧Rg.fG v1 v2
theorem R2.below {w:World} (h:R2 B w v1 v2 l1 l2) (hb:Below w.heap.size w w'):R2 B w' v1 v2 l1 l2 :=
 ⟨Nat.le_trans h.1 hb.size,Rg.aQ h.2.1 hb,Rg.aQ h.2.2.1 hb,h.2.2.2⟩
theorem R2.yt {w:World} (h:R2 B w v1 v2 l1 l2):∀ j,v1.ownBlock=some j→B≤j∧j<w.heap.size:=fun j e=>h.2.1.lt j e
theorem R2.nil {B:Nat} {w:World} (h:B≤w.heap.size):R2 B w (.slice none 0 0) (.slice none 0 0) [] []:=⟨h,World.ownsRow_nil _ _ _ _,World.ownsRow_nil _ _ _ _,Rg.fG.nil _⟩
theorem R2.H0 {w:World} (h:R2 B w v1 v2 l1 l2) (hl:l1.length<1000000) {x:Int} {p c:Nat} (hc:w.cell? ⟨p,0,none⟩=some (.int .i64 x)) (ty:TypeId) :
  ∃ v' X,(Builtin.append_ #[25,25] ty #[v1,.slice (some ⟨p,0,none⟩) 1 c]).run Tryz.prog w=.ok v' X∧R2 B X v' v2 (l1++[x]) l2∧w.grownBy X v1.ownBlock:=by
 obtain ⟨h1,h2,h3,h4⟩:=h;obtain ⟨v',X,r1,r2,r3,r4,_⟩:=cR (P:=Tryz.prog) aX ty h2 h1 p c hc rfl hl;exact ⟨v',X,r1,⟨Nat.le_trans h1 r3.size,by simpa using r2,h4.keep h3 r3,h4.grow h3 r4 (Nat.le_refl _)⟩,r3⟩
theorem R2.swap {w:World} (h:R2 B w v1 v2 l1 l2):R2 B w v2 v1 l2 l1:=⟨h.1,h.2.2.1,h.2.1,h.2.2.2.symm⟩
end Go.Proofs.YtbngdgfmlmkgiaaGreat

namespace Go.Proofs.YtbngdgfmlmkgiaaGreat
open Go.RowKit
open Go.Proofs
open Go.Proofs.Ob
attribute [local irreducible] Go.Calls
variable {t e bt:TypeId} {B X n:Nat} {w w':World} {v lv:Value} {O:List (List Int)} {l:List Int} {F:Nat→Bool}
theorem pJ:(Tryz.prog.info? 25).map (fun i=>(i.zero,i.size,i.bytes))=some (some (.slice none 0 0),1,24):=by kernel_rfl
theorem bF:Rg.lU Tryz.prog 51 25 (.slice none 0 0) 24:=⟨Tryz.underlying51,pJ,rfl,by decide⟩
theorem rO (X:World) (u:Value) (hs:∃ a n c,u=.slice a n c):(Instr.buildSlice 51 1 #[(0,u)]).run Tryz.prog X=.ok (.slice (some ⟨X.heap.size,0,none⟩) 1 1) (X.alloc (.cells #[u] 25)):=by
 obtain ⟨i0,hi,dc,bM,eY⟩:=info_parts pJ;obtain ⟨a,n,c,rfl⟩:=hs;refine run_buildSlice X 51 25 1 _ _ i0 _ Tryz.underlying51 hi dc (by rw [bM]; decide) (by rw [bM]; decide) ?_;generalize (fun x=>((Value.slice none 0 0).cells)[x % (Value.slice none 0 0).cells.size]!)=f;rw [bM];have h1:Array.range (1*1)=#[0]:=rfl;simp [Instr.fill,Value.cells,h1]
end Go.Proofs.YtbngdgfmlmkgiaaGreat

namespace Go.Proofs.YtbngdgfmlmkgiaaGreat
open Go.RowKit
open Go.Proofs
attribute [local irreducible] Go.Calls
theorem Ev (v1 v2:Value) (a c:List Nat) (w:World) (h:Rg.NP w v1 a) (h':Rg.NP w v2 c) (Ep:∀ x∈a,x<c.length) (hn:a.length≤1000) (h1:1≤a.length) (h2:1≤c.length) :
  Calls Tryz.prog 110 #[v1,v2] w fun e w'=>∃ v,e=.returned v∧Rg.p_ w w' v (Ma.aj a c)∧Below w.heap.size w w':=by
 obtain ⟨ad,cap,rfl,hc,_,_,aN⟩:=h.shape;obtain ⟨b,o,rfl,hb,hr⟩:=aN (by omega);obtain ⟨Er,mB,rfl,iX,_,_,dr⟩:=h'.shape;obtain ⟨b2,o2,rfl,df,iV⟩:=dr (by omega);have Hr:=ι hr;have Q9:=ι iV;have Q_:=ι Ep;clear hr aN h iV dr h' Ep;have dH:=nk a.length (by omega) w;have bD:=ι (World.rowIs_made w (.int .i64 0) a.length 3)
 go_enter Tryz.func110,Tryz.ntmps110
 go_wp2;clear dH
 go_loopw [13] (fun i wr=>∃ k:Nat,k≤a.length∧i=.int .i64 k∧Hid (wr.rowIs w.heap.size 3 a.length (fun j=>.int .i64 (if j<k then ((c.getD (a.getD j 0) 0:Nat):Int) else 0)))∧Below w.heap.size w wr) (fun i _=>a.length - (intOf i).toNat)
 case atStart=>exact ⟨0,by omega,rfl,bD.out.congr (fun i hi=>by simp),(Below.refl _ _).alloc (Nat.le_refl _) _⟩
 case round =>
  obtain ⟨k,hk,rfl,hs,bR⟩:=hrel;obtain ⟨hc,hf⟩:=Rg.ng bR
  by_cases aJ:k<a.length
  ·have e0:wr.cell? ⟨b,o+k,none⟩=some (.int .i64 ((a[k]:Nat):Int)):=(hc b (o+k) hb).trans (Hr.out k aJ)
   have vQ:a[k]<c.length:=Q_.out _ (List.getElem_mem aJ);have dS:a.getD k 0=a[k]:=Ma.getD_lt aJ
   have e1:wr.cell? ⟨b2,o2+a[k],none⟩=some (.int .i64 ((c.getD (a.getD k 0) 0:Nat):Int)):=by
    rw [dS,Ma.getD_lt vQ];exact (hc b2 (o2+a[k]) df).trans (Q9.out a[k] vQ)
   generalize a[k]=x at *;have YE:=ι dS;generalize hy:c.getD (a.getD k 0) 0=y at *;have Hy:=ι hy;clear hc hf dS hy;have c1:=hs.out.cell aJ;have f1:=hs.out.frozen k;simp only [Nat.lt_irrefl,if_false] at c1;go_wp2
   go_roundw
   case rel =>
    refine ⟨k+1,by omega,by go_num,?_,bR.setCell (Nat.le_refl _) _⟩;refine (hs.out.set k _).congr fun i hi=>?_
    by_cases e:i=k
    ·subst e; rw [if_pos rfl,if_pos (by omega),Hy.out]
    ·rw [if_neg e]
     by_cases e2:i<k
     ·rw [if_pos e2,if_pos (by omega)]
     ·rw [if_neg e2,if_neg (by omega)]
   case measure=>simp [intOf]; omega
  ·obtain rfl:k=a.length:=by omega
   go_wp2;go_ret;refine ⟨_,rfl,⟨Rg.NP.gU hs.out (by rw [Ma.dt]) (by omega) (fun i hi=>?_),Rg.cL.mk _ _ _ _⟩,by assumption⟩;rw [Ma.sX];rw [Ma.dt] at hi;rw [if_pos hi,Ma.getD_lt hi]
theorem Ew (n:Nat) (w:World) (hn:n≤1000) :
  Calls Tryz.prog 104 #[.int .i64 n] w fun e w'=>∃ v,e=.returned v∧Rg.p_ w w' v (Ma.aR n)∧Below w.heap.size w w':=by
 have dH:=nk n (by omega) w;have bD:=ι (World.rowIs_made w (.int .i64 0) n 3)
 go_enter Tryz.func104,Tryz.ntmps104
 go_wp2;clear dH
 go_loopw [9] (fun i wr=>∃ k:Nat,k≤n∧i=.int .i64 k∧Hid (wr.rowIs w.heap.size 3 n (fun j=>.int .i64 (if j<k then (j:Int) else 0)))∧Below w.heap.size w wr) (fun i _=>n - (intOf i).toNat)
 case atStart=>exact ⟨0,by omega,rfl,bD.out.congr (fun i hi=>by simp),(Below.refl _ _).alloc (Nat.le_refl _) _⟩
 case round =>
  obtain ⟨k,hk,rfl,hs,bR⟩:=hrel
  by_cases aJ:k<n
  ·have c1:=hs.out.cell aJ
   have f1:=hs.out.frozen k;simp only [Nat.lt_irrefl,if_false] at c1;go_wp2
   go_roundw
   case rel =>
    refine ⟨k+1,by omega,by go_num,?_,bR.setCell (Nat.le_refl _) _⟩;refine (hs.out.set k _).congr fun i hi=>?_
    by_cases e:i=k
    ·subst e; simp
    ·rw [if_neg e]
     by_cases e2:i<k
     ·rw [if_pos e2,if_pos (by omega)]
     ·rw [if_neg e2,if_neg (by omega)]
   case measure=>simp [intOf]; omega
  ·obtain rfl:k=n:=by omega
   go_wp2;go_ret;refine ⟨_,rfl,⟨Rg.NP.gU hs.out (by rw [Ma.eh]) (by omega) (fun i hi=>?_),Rg.cL.mk _ _ _ _⟩,by assumption⟩;rw [Ma.sW];rw [Ma.eh] at hi;rw [if_pos hi]
theorem Ex (v:Value) (a:List Nat) (w:World) (h:Rg.NP w v a) (ha:Ma.lB a) (hn:a.length≤1000) (h1:1≤a.length) :
  Calls Tryz.prog 124 #[v] w fun e w'=>∃ v,e=.returned v∧Rg.p_ w w' v (Ma.aO a)∧Below w.heap.size w w':=by
 obtain ⟨ad,cap,rfl,hc,_,_,aN⟩:=h.shape;obtain ⟨b,o,rfl,hb,hr⟩:=aN (by omega);have Hr:=ι hr;clear hr aN h;have dH:=nk a.length (by omega) w;have bD:=ι (World.rowIs_made w (.int .i64 0) a.length 3)
 go_enter Tryz.func124,Tryz.ntmps124
 go_wp2;clear dH
 go_loopw [11] (fun i wr=>∃ k:Nat,k≤a.length∧i=.int .i64 k∧Hid (wr.rowIs w.heap.size 3 a.length (fun j=>.int .i64 (if j∈a.take k then ((a.idxOf j:Nat):Int) else 0)))∧Below w.heap.size w wr) (fun i _=>a.length - (intOf i).toNat)
 case atStart=>exact ⟨0,by omega,rfl,bD.out.congr (fun i hi=>by simp),(Below.refl _ _).alloc (Nat.le_refl _) _⟩
 case round =>
  obtain ⟨k,hk,rfl,hs,bR⟩:=hrel;obtain ⟨hc,hf⟩:=Rg.ng bR
  by_cases aJ:k<a.length
  ·have rP:k<a.length:=aJ
   have e0:wr.cell? ⟨b,o+k,none⟩=some (.int .i64 ((a[k]:Nat):Int)):=(hc b (o+k) hb).trans (Hr.out k rP);have vQ:a[k]<a.length:=Ma.vz ha rP;have s8:=Ma.mq ha rP
   have gI:∀ i,i∈a.take (k+1)↔(i∈a.take k∨i=a[k]):=fun i=>by rw [List.take_succ_eq_append_getElem rP,List.mem_append,List.mem_singleton]
   generalize hx:a[k]=x at *;have Hx:=ι hx;have KH:=ι s8;have oD:=ι gI;clear hx hc hf s8 gI;have c1:=hs.out.cell vQ;have f1:=hs.out.frozen x;generalize (Value.int .i64 (if x∈a.take k then ((a.idxOf x:Nat):Int) else 0))=u0 at c1;go_wp2
   go_roundw
   case rel =>
    refine ⟨k+1,by omega,by go_num,?_,bR.setCell (Nat.le_refl _) _⟩;refine (hs.out.set x _).congr fun i hi=>?_
    by_cases e:i=x
    ·subst e; rw [if_pos rfl,if_pos ((oD.out i).2 (.inr rfl)),KH.out]
    ·rw [if_neg e]
     by_cases e2:i∈a.take k
     ·rw [if_pos e2,if_pos ((oD.out i).2 (.inl e2))]
     ·rw [if_neg e2,if_neg (fun e3=>((oD.out i).1 e3).elim e2 e)]
   case measure=>simp [intOf]; omega
  ·obtain rfl:k=a.length:=by omega
   go_wp2;go_ret;refine ⟨_,rfl,⟨Rg.NP.gU hs.out (by rw [Ma.fk]) (by omega) (fun i hi=>?_),Rg.cL.mk _ _ _ _⟩,by assumption⟩;rw [Ma.pG];rw [Ma.fk] at hi;rw [List.take_of_length_le (Nat.le_refl _),if_pos (Ma.rr ha hi)]
theorem gM {w:World} {e:TypeId} {size:Nat} {v:Value} (h:w.ownsRow base e size v n xs) (hk:Rg.Kp M w w') (hM:∀ k,M k→v.ownBlock≠some k):w'.ownsRow base e size v n xs:=by
 obtain ⟨h1,h2⟩:=h
 rcases h2 with h2 | ⟨g,cap,cur,rfl,hg,hc,h3⟩
 ·exact ⟨h1,.inl h2⟩
 ·exact ⟨h1,.inr ⟨g,cap,cur,rfl,hg,(hk.block g (Array.getElem?_eq_some_iff.1 hc).1 (fun e=>hM g e (by simp [Value.ownBlock]))).trans hc,h3⟩⟩
def KF (F:Nat→Prop) (w w':World):Prop:=Rg.Kp (fun k=>¬ F k) w w'
theorem KF.refl (F:Nat→Prop) (w:World):KF F w w:=Rg.Kp.refl _ _
theorem KF.size {F:Nat→Prop} {w w':World} (h:KF F w w'):w.heap.size≤w'.heap.size:=Rg.Kp.size h
theorem KF.aK {F:Nat→Prop} {w w':World} (h:Below w.heap.size w w'):KF F w w':=Rg.Kp.aK h
theorem KF.trans {F F':Nat→Prop} {w w' w'':World} (h:KF F w w') (h':KF F' w' w'') (hF:∀ k,F k→F' k):KF F w w'':=Rg.Kp.trans h h' (fun k _ hk hf=>hk (hF k hf))
theorem KF.fN {F F':Nat→Prop} {w w':World} (h:KF F' w w') (hF:∀ k,F k→F' k):KF F w w':=Rg.Kp.fN h (fun k hk hf=>hk (hF k hf))
theorem KF.cell {F:Nat→Prop} {w w':World} (h:KF F w w') {b o:Nat} (hF:F b) (hb:b<w.heap.size):w'.cell? ⟨b,o,none⟩=w.cell? ⟨b,o,none⟩ :=
 World.cell?_of_block (a:=⟨b,o,none⟩) (Rg.Kp.block h b hb (fun e=>e hF))
theorem KF.below {w:World} (h:KF F w w') (hB:B≤w.heap.size) (hF:∀ k,k<B→F k):Below B w w' :=
 ⟨Rg.Kp.os h,Rg.Kp.tape h,Rg.Kp.output h,h.size,fun k hk=>Rg.Kp.block h k (Nat.lt_of_lt_of_le hk hB) (fun e=>e (hF k hk))⟩
def cx (F:Nat→Prop) (w w':World):Nat→Prop:=fun k=>F k∨(w.heap.size≤k∧k<w'.heap.size)
structure KG (F0:Nat→Prop) (w0:World) (F:Nat→Prop) (w:World):Prop where
 sub:∀ k,F0 k→F k
 lt:∀ k,F k→k<w.heap.size
 kf:KF F0 w0 w
theorem KG.refl {F:Nat→Prop} {w:World} (h:∀ k,F k→k<w.heap.size):KG F w F w:=⟨fun _ h=>h,h,KF.refl _ _⟩
theorem KG.up {w:World} (h:KG F0 w0 F w) (hb:Below w.heap.size w w'):KG F0 w0 (cx F w w') w' :=
 ⟨fun k hk=>.inl (h.sub k hk),fun k hk=>by rcases hk with hk | hk; exact Nat.lt_of_lt_of_le (h.lt k hk) hb.size; exact hk.2,KF.trans h.kf (KF.aK (F:=F) hb) h.sub⟩
theorem KG.v8 {w:World} (h:KG F0 w0 F w) (hk:KF F w w'):KG F0 w0 F w' :=
 ⟨h.sub,fun k hf=>Nat.lt_of_lt_of_le (h.lt k hf) hk.size,KF.trans h.kf hk h.sub⟩
theorem KG.trans {F0 F F':Nat→Prop} {w0 w w':World} (h:KG F0 w0 F w) (h':KG F w F' w'):KG F0 w0 F' w' :=
 ⟨fun k hk=>h'.sub k (h.sub k hk),h'.lt,KF.trans h.kf h'.kf h.sub⟩
structure CF (F:Nat→Prop) (w:World) (b o:Nat) (v:Value):Prop where
 cell:w.cell? ⟨b,o,none⟩=some v
 Jb:F b
 lt:b<w.heap.size
theorem CF.up {w:World} {b o:Nat} {v:Value} (h:CF F w b o v) (hb:Below w.heap.size w w'):CF (cx F w w') w' b o v :=
 ⟨(hb.cell (p:=⟨b,o,none⟩) h.lt).trans h.cell,.inl h.Jb,Nat.lt_of_lt_of_le h.lt hb.size⟩
theorem CF.kf {w:World} {b o:Nat} {v:Value} (h:CF F w b o v) (hk:KF F w w'):CF F w' b o v :=
 ⟨(hk.cell h.Jb h.lt).trans h.cell,h.Jb,Nat.lt_of_lt_of_le h.lt hk.size⟩
theorem CF.mono {w:World} {b o:Nat} {v:Value} (h:CF F w b o v) (hF:∀ k,F k→F' k):CF F' w b o v:=⟨h.cell,hF _ h.Jb,h.lt⟩
theorem CF.kg {w:World} {b o:Nat} {v:Value} (h:CF F w b o v) (hk:KG F w F' w'):CF F' w' b o v:=(h.kf hk.kf).mono hk.sub
theorem Jc {w:World} {v:Value} {us:List Value} (h:Rg.dK F w v us) (hb:Below w.heap.size w w'):Rg.dK (cx F w w') w' v us:=by
 obtain ⟨a,cap,h1,h2,h3,h4,h5⟩:=h;refine ⟨a,cap,h1,h2,h3,h4,fun h0=>?_⟩;obtain ⟨b,o,e1,e2,e3,e4⟩:=h5 h0;exact ⟨b,o,e1,Nat.lt_of_lt_of_le e2 hb.size,.inl e3,fun i hi=>(hb.cell (p:=⟨b,o+i,none⟩) e2).trans (e4 i hi)⟩
def FP (F:Nat→Prop) (w:World) (v:Value) (p:List Nat):Prop:=Rg.FI F w v (Ma.ah p)
theorem FP.np {w:World} {v:Value} {p:List Nat} (h:FP F w v p):Rg.NP w v p:=Rg.FI.ints h
theorem FP.up {w:World} {v:Value} {p:List Nat} (h:FP F w v p) (hb:Below w.heap.size w w'):FP (cx F w w') w' v p:=Jc h hb
theorem FP.kf {w:World} {v:Value} {p:List Nat} (h:FP F w v p) (hk:KF F w w'):FP F w' v p:=Rg.FI.kp h hk (fun _ hF hn=>hn hF)
theorem FP.mono {F F':Nat→Prop} {w:World} {v:Value} {p:List Nat} (h:FP F w v p) (hF:∀ k,F k→F' k):FP F' w v p:=Rg.FI.mono h hF
theorem FP.kg {w:World} {v:Value} {p:List Nat} (h:FP F w v p) (hk:KG F w F' w'):FP F' w' v p:=(h.kf hk.kf).mono hk.sub
theorem FP.new {w:World} {v:Value} {p:List Nat} (h:Rg.p_ w w' v p):FP (cx F w w') w' v p:=by
 obtain ⟨h,hf⟩:=h;obtain ⟨a,cap,h1,h2,h3,h4,h5⟩:=h;refine ⟨a,cap,h1,h2,h3,h4,fun h0=>?_⟩;obtain ⟨b,o,e1,e2,e3⟩:=h5 h0;subst e1;exact ⟨b,o,rfl,e2,.inr ⟨hf _ _ _ h1,e2⟩,e3⟩
theorem FP.shape {w:World} {v:Value} {p:List Nat} (h:FP F w v p) (h1:1≤p.length):∃ b o c,v=.slice (some ⟨b,o,none⟩) p.length c∧F b∧b<w.heap.size∧∀ i (hi:i<p.length),w.cell? ⟨b,o+i,none⟩=some (.int .i64 ((p[i]:Nat):Int)):=by
 obtain ⟨a,cap,e,h2,h3,h4,h5⟩:=h;rw [List.length_map,Ma.aG] at e;obtain ⟨b,o,e1,e2,e3,e4⟩:=h5 (by rw [List.length_map,Ma.aG]; omega);subst e1;exact ⟨b,o,cap,e,e3,e2,fun i hi=>by rw [e4 i (by simp [Ma.aG]; exact hi)]; simp [Ma.ah]⟩
theorem FP.cell {w:World} {b o c:Nat} {p:List Nat} (h:FP F w (.slice (some ⟨b,o,none⟩) n c) p) {i:Nat} (hi:i<p.length):CF F w b (o+i) (.int .i64 ((p.getD i 0:Nat):Int)):=by
 obtain ⟨b',o',c',e,h1,h2,h3⟩:=h.shape (by omega);simp at e;obtain ⟨⟨rfl,rfl⟩,_,_⟩:=e;exact ⟨by rw [h3 i hi]; simp [List.getD,List.getElem?_eq_getElem hi],h1,h2⟩
structure LV where
 g:Value
 us:List Value
 o:Value
 t:Nat→Value
 b:Nat→Value
open Go.Proofs.Cm (Lv bf)
def cont (l:Lv) (v:LV) (m:Nat):Value :=
 if m=0 then v.g else if m=1 then v.o else if m<66 then v.t (m - 2) else if m<130 then v.b (m - 66) else .int .i64 ((l.tried (m - 130):Nat):Int)
structure kW (F:Nat→Prop) (L:Nat) (w:World) (l:Lv) (v:LV):Prop where
 pY:w.ownsRow 0 26 1 v.g l.gens.length v.us
 BU:Rg.br F w v.us (l.gens.map Ma.ah)
 pZ:w.ownsRow 0 3 1 v.o l.orb.length ((Ma.ah l.orb).map (Value.int .i64))
 gF:∀ k,v.g.ownBlock=some k→¬ F k∧k≠L
 oF:∀ k,v.o.ownBlock=some k→¬ F k∧k≠L
 go:∀ k,v.g.ownBlock=some k→v.o.ownBlock≠some k
 some_:∀ p x,p<64→l.rep p=some x→FP F w (v.t p) x∧FP F w (v.b p) (Ma.aO x)
 none_:∀ p,p<64→l.rep p=none→v.t p=.slice none 0 0∧v.b p=.slice none 0 0
def LV.own (v:LV) (k:Nat):Prop:=v.g.ownBlock=some k∨v.o.ownBlock=some k
structure aV (F:Nat→Prop) (L n:Nat) (w:World) (T:bf) (V:Nat→LV):Prop where
 gB:∀ k,F k→k<w.heap.size
 LF:¬ F L
 row:w.rowIs L 130 (n*194) (fun j=>cont (T (j / 194)) (V (j / 194)) (j % 194))
 lv:∀ i,i<n→kW F L w (T i) (V i)
 jY:∀ i j,i<n→j<n→i≠j→∀ k,(V i).own k→¬ (V j).own k
theorem kJ {w:World} {b:Nat} {t:TypeId} {f:Nat→Value} (h:w.rowIs b t n f):b<w.heap.size:=by
 obtain ⟨c,h1,_⟩:=h;exact (Array.getElem?_eq_some_iff.1 h1).1
theorem aV.lt {w:World} {T:bf} {V:Nat→LV} (h:aV F L n w T V):L<w.heap.size:=kJ h.row
theorem rQ {i:Nat} (hi:i<n) (hm:m<194):(i*194+m) / 194=i∧(i*194+m) % 194=m∧i*194+m<n*194:=by
 refine ⟨by omega,by omega,?_⟩;have:(i+1)*194≤n*194:=Nat.mul_le_mul_right _ hi;omega
theorem aV.cell {F:Nat→Prop} {L n:Nat} {w:World} {T:bf} {V:Nat→LV} (h:aV F L n w T V) {i m o:Nat} (hi:i<n) (hm:m<194) (ho:o=i*194+m):w.cell? ⟨L,o,none⟩=some (cont (T i) (V i) m):=by
 subst ho;obtain ⟨h1,h2,h3⟩:=rQ hi hm;have:=h.row.cell h3;rw [this,h1,h2]
theorem aV.frozen {F:Nat→Prop} {L n:Nat} {w:World} {T:bf} {V:Nat→LV} (h:aV F L n w T V) (o:Nat):w.frozen? ⟨L,o,none⟩=false:=h.row.frozen _
theorem kW.kp {F M:Nat→Prop} {L:Nat} {w w':World} {l:Lv} {v:LV} (h:kW F L w l v) (hk:Rg.Kp M w w') (hF:∀ k,F k→¬ M k) (ho:∀ k,v.own k→¬ M k):kW F L w' l v:=by
 refine ⟨gM h.pY hk (fun k hm e=>ho k (.inl e) hm),h.BU.kp hk hF,gM h.pZ hk (fun k hm e=>ho k (.inr e) hm),h.gF,h.oF,h.go,fun p x hp hx=>?_,h.none_⟩;obtain ⟨h1,h2⟩:=h.some_ p x hp hx;exact ⟨Rg.FI.kp h1 hk hF,Rg.FI.kp h2 hk hF⟩
theorem kW.mono {F F':Nat→Prop} {L:Nat} {w:World} {l:Lv} {v:LV} (h:kW F L w l v) (hF:∀ k,F k→F' k) (ho:∀ k,v.own k→¬ F' k):kW F' L w l v:=by
 refine ⟨h.pY,h.BU.mono hF,h.pZ,fun k e=>⟨ho k (.inl e),(h.gF k e).2⟩,fun k e=>⟨ho k (.inr e),(h.oF k e).2⟩,h.go,fun p x hp hx=>?_,h.none_⟩;obtain ⟨h1,h2⟩:=h.some_ p x hp hx;exact ⟨h1.mono hF,h2.mono hF⟩
theorem kW.lt {F:Nat→Prop} {L:Nat} {w:World} {l:Lv} {v:LV} (h:kW F L w l v):∀ k,v.own k→k<w.heap.size:=fun k e=>by
 rcases e with e | e
 ·exact (h.pY.lt k e).2
 ·exact (h.pZ.lt k e).2
theorem kW.nF {w:World} {l:Lv} {v:LV} (h:kW F L w l v):∀ k,v.own k→¬ F k∧k≠L:=fun k e=>by
 rcases e with e | e
 ·exact h.gF _ e
 ·exact h.oF _ e
theorem eM {w:World} {b:Nat} {t:TypeId} {f:Nat→Value} (h:w.rowIs b t n f) (hk:Rg.Kp M w w') (hM:¬ M b):w'.rowIs b t n f:=by
 have aJ:=kJ h;obtain ⟨c,h1,h2,h3⟩:=h;exact ⟨c,by rw [hk.block b aJ hM]; exact h1,h2,h3⟩
theorem aV.up {w:World} {T:bf} {V:Nat→LV} (h:aV F L n w T V) (hb:Below w.heap.size w w'):aV (cx F w w') L n w' T V:=by
 have hk:Rg.Kp (fun k=>False) w w':=Rg.Kp.aK hb;have hL:=h.lt
 refine ⟨fun k hk=>by rcases hk with hk | hk; exact Nat.lt_of_lt_of_le (h.gB k hk) hb.size; exact hk.2,fun e=>?_,eM h.row hk id,fun i hi=>?_,h.jY⟩
 ·rcases e with e | e
  ·exact h.LF e
  ·omega
 ·have hv:=h.lv i hi
  refine (hv.kp hk (fun _ _=>id) (fun _ _=>id)).mono (fun k=>.inl) (fun k e=>?_);have h1:=hv.lt k e;have h2:=(hv.nF k e).1
  rintro (h3 | h3)
  ·exact h2 h3
  ·omega
theorem H_ {w:World} {T T':bf} {V V':Nat→LV} {i o:Nat} {x:Value} (gB:∀ k,F k→k<w.heap.size) (LF:¬ F L)
  (row:w.rowIs L 130 (n*194) (fun j=>cont (T (j / 194)) (V (j / 194)) (j % 194))) (lv:∀ j,j<n→j≠i→kW F L w (T j) (V j))
  (jY:∀ a b,a<n→b<n→a≠b→a≠i→b≠i→∀ k,(V a).own k→¬ (V b).own k) (hi:i<n) (hm:m<194) (ho:o=i*194+m)
  (hT:∀ j,j≠i→T' j=T j∧V' j=V j) (hc:∀ m',m' < 194→cont (T' i) (V' i) m'=if m'=m then x else cont (T i) (V i) m')
  (hv:kW F L w (T' i) (V' i)) (hd:∀ j k,j<n→j≠i→(V' i).own k→¬ (V j).own k) :
  aV F L n (w.setCell ⟨L,o,none⟩ x) T' V'∧KF F w (w.setCell ⟨L,o,none⟩ x):=by
 subst ho;have hk:Rg.Kp (fun k=>k=L) w (w.setCell ⟨L,i*194+m,none⟩ x):=Rg.Kp.aS rfl;have Ey:∀ k,F k→¬ k=L:=fun k hk e=>LF (e▸hk);refine ⟨⟨fun k hf=>Nat.lt_of_lt_of_le (gB k hf) hk.size,LF,?_,fun j hj=>?_,fun a b ha hb gJ k h1 h2=>?_⟩,Rg.Kp.fN hk fun k e hf=>Ey k hf e⟩
 ·refine (row.set (i*194+m) x).congr fun j hj=>?_
  obtain ⟨h1,h2,_⟩:=rQ hi hm
  by_cases e:j / 194=i
  ·have mH:j % 194<194:=Nat.mod_lt _ (by decide)
   have:=hc (j % 194) mH
   by_cases e2:j=i*194+m
   ·rw [if_pos e2,e,this,if_pos (by rw [e2,h2])]
   ·rw [if_neg e2,e,this,if_neg (by omega)]
  ·have e2:j≠i*194+m:=by rintro rfl; exact e h1
   rw [if_neg e2,(hT _ e).1,(hT _ e).2]
 ·by_cases e:j=i
  ·subst e
   exact hv.kp hk Ey fun k e=>(hv.nF k e).2
  ·rw [(hT j e).1,(hT j e).2]
   exact (lv j hj e).kp hk Ey fun k e'=>((lv j hj e).nF k e').2
 ·by_cases ea:a=i
  ·have eb:b≠i:=fun e=>gJ (ea.trans e.symm)
   rw [ea] at h1; rw [(hT b eb).2] at h2;exact hd b k hb eb h1 h2
  ·rw [(hT a ea).2] at h1
   by_cases eb:b=i
   ·rw [eb] at h2
    exact hd a k ha ea h2 h1
   ·rw [(hT b eb).2] at h2
    exact jY a b ha hb gJ ea eb k h1 h2
theorem aV.put {w:World} {T T':bf} {V V':Nat→LV} (h:aV F L n w T V) {i o:Nat} {x:Value} (hi:i<n) (hm:m<194) (ho:o=i*194+m)
  (hT:∀ j,j≠i→T' j=T j∧V' j=V j) (hc:∀ m',m' < 194→cont (T' i) (V' i) m'=if m'=m then x else cont (T i) (V i) m')
  (hv:kW F L w (T' i) (V' i)) (hd:∀ j k,j<n→j≠i→(V' i).own k→¬ (V j).own k) :
  aV F L n (w.setCell ⟨L,o,none⟩ x) T' V'∧KF F w (w.setCell ⟨L,o,none⟩ x) :=
 H_ h.gB h.LF h.row (fun j hj _=>h.lv j hj) (fun a b ha hb gJ _ _=>h.jY a b ha hb gJ) hi hm ho hT hc hv hd
theorem aV.tick {F:Nat→Prop} {L n:Nat} {w:World} {T:bf} {V:Nat→LV} (h:aV F L n w T V) {i q o:Nat} (hi:i<n) (hq:q<64) (ho:o=i*194+(130+q)) :
  aV F L n (w.setCell ⟨L,o,none⟩ (.int .i64 (((T i).tried q+1:Nat):Int))) (Cm.tick T i q) V∧KF F w (w.setCell ⟨L,o,none⟩ (.int .i64 (((T i).tried q+1:Nat):Int))):=by
 have hv:=h.lv i hi;refine h.put hi (by omega) ho (fun j hj=>⟨Cm.iA hj,rfl⟩) (fun m' mH=>?_) ?_ (fun j k hj hne e1 e2=>h.jY i j hi hj (Ne.symm hne) k e1 e2)
 ·rw [Cm.dV]
  unfold cont
  by_cases h0:m'=0
  ·subst h0; simp; omega
  by_cases h1:m'=1
  ·subst h1; simp; omega
  by_cases h2:m' < 66
  ·simp [h0,h1,h2]; omega
  by_cases h3:m' < 130
  ·simp [h0,h1,h2,h3]; omega
  ·simp only [h0,h1,h2,h3,if_false]
   by_cases e:m'=130+q
   ·subst e; simp
   ·rw [if_neg e,if_neg (by omega)]
 ·rw [Cm.dV]
  exact ⟨hv.pY,hv.BU,hv.pZ,hv.gF,hv.oF,hv.go,hv.some_,hv.none_⟩
def iZ (T:bf) (i p:Nat) (y:List Nat):bf:=fun j=>if j=i then { T j with rep:=fun z=>if z=p then some y else (T j).rep z } else T j
def nu (T:bf) (i p:Nat):bf:=fun j=>if j=i then { T j with orb:=(T j).orb++[p] } else T j
def tC (T:bf) (i:Nat) (r:List Nat):bf:=fun j=>if j=i then { T j with gens:=(T j).gens++[r] } else T j
theorem find_eq (T:bf) (i p:Nat) (y:List Nat):Cm.find T i p y=nu (iZ T i p y) i p:=by
 funext j
 unfold Cm.find nu iZ
 by_cases e:j=i
 ·simp [e]
 ·simp [e]
theorem aV.iZ {F:Nat→Prop} {L n:Nat} {w:World} {T:bf} {V:Nat→LV} (h:aV F L n w T V) {i p o1 o2:Nat} {y:List Nat} {yv bv:Value} (hi:i<n) (hp:p<64) (YG:o1=i*194+(2+p)) (Jd:o2=i*194+(66+p))
  (hy:FP F w yv y) (hb:FP F w bv (Ma.aO y)) :
  ∃ V',aV F L n ((w.setCell ⟨L,o1,none⟩ yv).setCell ⟨L,o2,none⟩ bv) (iZ T i p y) V'∧KF F w ((w.setCell ⟨L,o1,none⟩ yv).setCell ⟨L,o2,none⟩ bv):=by
 subst YG Jd;have hv:=h.lv i hi
 let V1:Nat→LV:=fun j=>if j=i then { V j with t:=fun z=>if z=p then yv else (V j).t z,b:=fun z=>if z=p then bv else (V j).b z } else V j
 have e1:V1 i={ V i with t:=fun z=>if z=p then yv else (V i).t z,b:=fun z=>if z=p then bv else (V i).b z }:=if_pos rfl
 have eT:Go.Proofs.YtbngdgfmlmkgiaaGreat.iZ T i p y i={ T i with rep:=fun z=>if z=p then some y else (T i).rep z }:=if_pos rfl
 have iG:Rg.Kp (fun k=>k=L) w (w.setCell ⟨L,i*194+(2+p),none⟩ yv):=Rg.Kp.aS rfl;have fD:Rg.Kp (fun k=>k=L) (w.setCell ⟨L,i*194+(2+p),none⟩ yv) ((w.setCell ⟨L,i*194+(2+p),none⟩ yv).setCell ⟨L,i*194+(66+p),none⟩ bv):=Rg.Kp.aS rfl;have hk:=Rg.Kp.trans iG fD (fun k _ e=>e);have Ey:∀ k,F k→¬ k=L:=fun k hk e=>h.LF (e▸hk)
 have U7:kW F L w (Go.Proofs.YtbngdgfmlmkgiaaGreat.iZ T i p y i) (V1 i):=by
  rw [eT,e1];refine ⟨hv.pY,hv.BU,hv.pZ,hv.gF,hv.oF,hv.go,fun z x hz hx=>?_,fun z hz hx=>?_⟩
  ·have v_:(if z=p then some y else (T i).rep z)=some x:=hx
   by_cases e:z=p
   ·rw [if_pos e] at v_; cases v_
    simp only [e,if_true]; exact ⟨hy,hb⟩
   ·rw [if_neg e] at v_
    simp only [e,if_false]; exact hv.some_ z x hz v_
  ·have v_:(if z=p then some y else (T i).rep z)=none:=hx
   by_cases e:z=p
   ·rw [if_pos e] at v_; cases v_
   ·rw [if_neg e] at v_
    simp only [e,if_false]; exact hv.none_ z hz v_
 refine ⟨V1,⟨fun k hf=>Nat.lt_of_lt_of_le (h.gB k hf) hk.size,h.LF,?_,fun j hj=>?_,fun a b ha hb gJ k h1 h2=>?_⟩,Rg.Kp.fN hk fun k e hf=>Ey k hf e⟩
 ·refine ((h.row.set (i*194+(2+p)) yv).set (i*194+(66+p)) bv).congr fun j hj=>?_
  have mH:j % 194<194:=Nat.mod_lt _ (by decide)
  by_cases e:j / 194=i
  ·rw [e,eT,e1]
   by_cases a:j=i*194+(66+p)
   ·have:j % 194=66+p:=by omega
    rw [if_pos a,this]; unfold cont;rw [if_neg (by omega),if_neg (by omega),if_neg (by omega),if_pos (by omega)];simp
   ·rw [if_neg a]
    by_cases b:j=i*194+(2+p)
    ·have:j % 194=2+p:=by omega
     rw [if_pos b,this]; unfold cont;rw [if_neg (by omega),if_neg (by omega),if_pos (by omega)];simp
    ·rw [if_neg b]
     unfold cont
     by_cases h0:j % 194=0
     ·simp [h0]
     by_cases h1:j % 194=1
     ·simp [h1]
     by_cases h2:j % 194<66
     ·simp only [h0,h1,h2,if_false,if_true]
      show _=(if j % 194 - 2=p then yv else (V i).t (j % 194 - 2));rw [if_neg (by omega)]
     by_cases h3:j % 194<130
     ·simp only [h0,h1,h2,h3,if_false,if_true]
      show _=(if j % 194 - 66=p then bv else (V i).b (j % 194 - 66));rw [if_neg (by omega)]
     ·simp [h0,h1,h2,h3]
  ·have ev:V1 (j / 194)=V (j / 194):=if_neg e
   have et:Go.Proofs.YtbngdgfmlmkgiaaGreat.iZ T i p y (j / 194)=T (j / 194):=if_neg e;rw [if_neg (by rintro rfl; exact e (rQ hi (by omega)).1),if_neg (by rintro rfl; exact e (rQ hi (by omega)).1),ev,et]
 ·by_cases e:j=i
  ·subst e
   exact U7.kp hk Ey fun k e=>(U7.nF k e).2
  ·have ev:V1 j=V j:=if_neg e
   have et:Go.Proofs.YtbngdgfmlmkgiaaGreat.iZ T i p y j=T j:=if_neg e;rw [ev,et];exact (h.lv j hj).kp hk Ey fun k e=>((h.lv j hj).nF k e).2
 ·have ho:∀ j k,(V1 j).own k→(V j).own k:=fun j k hk=>by
   by_cases e:j=i
   ·subst e; rw [e1] at hk; exact hk
   ·have ev:V1 j=V j:=if_neg e
    rwa [ev] at hk
  exact h.jY a b ha hb gJ k (ho a k h1) (ho b k h2)
theorem ql {w:World} {T:bf} {V:Nat→LV} (h:aV F L n w T V) {i p o:Nat} (hi:i<n) (hp:p<64) (ho:o=i*194+(2+p)):w.cell? ⟨L,o,none⟩=some ((V i).t p):=by
 rw [h.cell hi (m:=2+p) (by omega) ho];unfold cont;rw [if_neg (by omega),if_neg (by omega),if_pos (by omega),show 2+p - 2=p by omega]
theorem Ez {w:World} {T:bf} {V:Nat→LV} (h:aV F L n w T V) {i p o:Nat} (hi:i<n) (hp:p<64) (ho:o=i*194+(66+p)):w.cell? ⟨L,o,none⟩=some ((V i).b p):=by
 rw [h.cell hi (m:=66+p) (by omega) ho];unfold cont;rw [if_neg (by omega),if_neg (by omega),if_neg (by omega),if_pos (by omega),show 66+p - 66=p by omega]
theorem Je {w:World} {T:bf} {V:Nat→LV} (h:aV F L n w T V) {i p o:Nat} (hi:i<n) (hp:p<64) (ho:o=i*194+(130+p)):w.cell? ⟨L,o,none⟩=some (.int .i64 (((T i).tried p:Nat):Int)):=by
 rw [h.cell hi (m:=130+p) (by omega) ho];unfold cont;rw [if_neg (by omega),if_neg (by omega),if_neg (by omega),if_neg (by omega),show 130+p - 130=p by omega]
theorem La {w:World} {T:bf} {V:Nat→LV} (h:aV F L n w T V) {i o:Nat} (hi:i<n) (ho:o=i*194):w.cell? ⟨L,o,none⟩=some (V i).g:=by
 rw [h.cell hi (m:=0) (by omega) ho]; rfl
theorem ur {w:World} {T:bf} {V:Nat→LV} (h:aV F L n w T V) {i o:Nat} (hi:i<n) (ho:o=i*194+1):w.cell? ⟨L,o,none⟩=some (V i).o:=by
 rw [h.cell hi (m:=1) (by omega) ho]; rfl
end Go.Proofs.YtbngdgfmlmkgiaaGreat

namespace Go.Proofs.YtbngdgfmlmkgiaaGreat
open Go.RowKit
open Go.Proofs
open Go.Proofs.Cm (Lv bf)
attribute [local irreducible] Go.Calls
theorem aV.U8 {w:World} {T:bf} {V:Nat→LV} (h:aV F L n w T V) {i o:Nat} (hi:i<n) (ho:o=i*194) {r:List Nat} (hr:FP F w rv r) (hs:∃ a m c,rv=.slice a m c) (hl:(T i).gens.length<1000000) (ty:TypeId) :
  ∃ a c X,(Builtin.append_ #[22,22] ty #[(V i).g,.slice (some ⟨w.heap.size,0,none⟩) 1 1]).run Tryz.prog (w.alloc (.cells #[rv] 26))=.ok (.slice a ((T i).gens.length+1) c) X ∧
   X.cell? ⟨L,o,none⟩=some (V i).g∧X.frozen? ⟨L,o,none⟩=false∧∃ V',aV F L n (X.setCell ⟨L,o,none⟩ (.slice a ((T i).gens.length+1) c)) (tC T i r) V'∧KF F w (X.setCell ⟨L,o,none⟩ (.slice a ((T i).gens.length+1) c)):=by
 subst ho;have hv:=h.lv i hi;obtain ⟨a0,m0,c0,rfl⟩:=hs;have iG:Rg.Kp (fun _=>False) w (w.alloc (.cells #[.slice a0 m0 c0] 26)):=Rg.Kp.aK ((Below.refl _ _).alloc (Nat.le_refl _) _)
 have dn:(w.alloc (.cells #[.slice a0 m0 c0] 26)).heap.size=w.heap.size+1:=by simp
 have uQ:=hv.kp iG (fun _ _=>id) (fun _ _=>id);obtain ⟨v',X,r1,r2,r3,r4,a,c,rfl⟩:=cR (P:=Tryz.prog) aE ty uQ.pY (Nat.zero_le _) w.heap.size 1 (u:=.slice a0 m0 c0) (by rw [Rg.aM]; rfl) rfl hl;have jH:Rg.Kp (fun k=>(V i).g.ownBlock=some k) w X:=Rg.Kp.trans (M:=fun k=>(V i).g.ownBlock=some k) (iG.fN fun _=>False.elim) (Rg.Kp.cH r3 fun _ e=>e) (fun _ _ e=>e);have uR:∀ k,F k→¬ (V i).g.ownBlock=some k:=fun k hk e=>(hv.gF k e).1 hk;have Lb:¬ (V i).g.ownBlock=some L:=fun e=>(hv.gF L e).2 rfl
 have Ra:X.cell? ⟨L,i*194,none⟩=some (V i).g:=by
  rw [World.cell?_of_block (w:=w) (a:=⟨L,i*194,none⟩) (jH.block L h.lt Lb)];exact La h hi rfl
 have bD:=eM h.row jH Lb
 refine ⟨a,c,X,r1,Ra,bD.frozen _,fun j=>if j=i then { V i with g:=.slice a ((T i).gens.length+1) c,us:=(V i).us++[.slice a0 m0 c0] } else V j,?_⟩
 have bA:∀ k,(Value.slice a ((T i).gens.length+1) c).ownBlock=some k→(V i).g.ownBlock=some k∨k=w.heap.size+1:=fun k e=>by
  rcases r4 with r4 | r4
  ·exact .inl (by rw [← r4]; exact e)
  ·rw [r4] at e; injection e with e; exact .inr (by omega)
 have uu:=H_ (T:=T) (T':=tC T i r) (V:=V) (V':=fun j=>if j=i then { V i with g:=.slice a ((T i).gens.length+1) c,us:=(V i).us++[.slice a0 m0 c0] } else V j) (x:=.slice a ((T i).gens.length+1) c)
  (fun k hk=>Nat.lt_of_lt_of_le (h.gB k hk) jH.size) h.LF bD (fun j hj hne=>(h.lv j hj).kp jH uR (fun k e e2=>h.jY j i hj hi hne k e (.inl e2)))
  (fun a b ha hb gJ _ _=>h.jY a b ha hb gJ) hi (m:=0) (by omega) rfl (fun j hj=>⟨if_neg hj,if_neg hj⟩) ?_ ?_ ?_
 ·exact ⟨uu.1,Rg.Kp.trans (jH.fN fun k e hf=>uR k hf e) uu.2 (fun _ _ e=>e)⟩
 ·intro m' mH
  simp only [if_true,tC];unfold cont
  by_cases h0:m'=0
  ·simp [h0]
  by_cases h1:m'=1
  ·simp [h1]
  ·simp [h0,h1]
 ·simp only [if_true,tC]
  have hF:=hv.kp (M:=fun _=>False) (w':=w) (Rg.Kp.refl _ _) (fun _ _=>id) (fun _ _=>id);have aJ:=hv.lt;have ky:=fun q x hq hx=>(hv.some_ q x hq hx);refine ⟨?_,?_,?_,?_,hv.oF,?_,fun q x hq hx=>⟨Rg.FI.kp (ky q x hq hx).1 jH uR,Rg.FI.kp (ky q x hq hx).2 jH uR⟩,hv.none_⟩
  ·rw [List.length_append]; exact r2
  ·rw [List.map_append]
   exact (hv.BU.kp jH uR).app (Rg.br.one (Rg.FI.kp hr jH uR))
  ·exact gM hv.pZ jH (fun k e e2=>hv.go k e e2)
  ·intro k e
   rcases bA k e with e | e
   ·exact hv.gF k e
   ·exact ⟨fun hf=>by have:=h.gB k hf; omega,by have:=h.lt; omega⟩
  ·intro k e e2
   rcases bA k e with e | e
   ·exact hv.go k e e2
   ·have:=aJ k (.inr e2); omega
 ·intro j k hj hne e
  simp only [if_true] at e
  rcases e with e | e
  ·rcases bA k e with e | e
   ·exact h.jY i j hi hj (Ne.symm hne) k (.inl e)
   ·intro e2; have:=(h.lv j hj).lt k e2; omega
  ·exact h.jY i j hi hj (Ne.symm hne) k (.inr e)
theorem aV.U9 {w:World} {T:bf} {V:Nat→LV} (h:aV F L n w T V) {i o:Nat} (hi:i<n) (ho:o=i*194+1) (p:Nat) (hl:(T i).orb.length<1000000) (ty:TypeId) :
  ∃ a c X,(Builtin.append_ #[25,25] ty #[(V i).o,.slice (some ⟨w.heap.size,0,none⟩) 1 1]).run Tryz.prog (w.alloc (.cells #[.int .i64 ((p:Nat):Int)] 3))=.ok (.slice a ((T i).orb.length+1) c) X ∧
   X.cell? ⟨L,o,none⟩=some (V i).o∧X.frozen? ⟨L,o,none⟩=false∧∃ V',aV F L n (X.setCell ⟨L,o,none⟩ (.slice a ((T i).orb.length+1) c)) (nu T i p) V'∧KF F w (X.setCell ⟨L,o,none⟩ (.slice a ((T i).orb.length+1) c)):=by
 subst ho;have hv:=h.lv i hi;have iG:Rg.Kp (fun _=>False) w (w.alloc (.cells #[.int .i64 ((p:Nat):Int)] 3)):=Rg.Kp.aK ((Below.refl _ _).alloc (Nat.le_refl _) _)
 have dn:(w.alloc (.cells #[.int .i64 ((p:Nat):Int)] 3)).heap.size=w.heap.size+1:=by simp
 have uQ:=hv.kp iG (fun _ _=>id) (fun _ _=>id);obtain ⟨v',X,r1,r2,r3,r4,a,c,rfl⟩:=cR (P:=Tryz.prog) aX ty uQ.pZ (Nat.zero_le _) w.heap.size 1 (u:=.int .i64 ((p:Nat):Int)) (by rw [Rg.aM]; rfl) rfl hl;have jH:Rg.Kp (fun k=>(V i).o.ownBlock=some k) w X:=Rg.Kp.trans (M:=fun k=>(V i).o.ownBlock=some k) (iG.fN fun _=>False.elim) (Rg.Kp.cH r3 fun _ e=>e) (fun _ _ e=>e);have uR:∀ k,F k→¬ (V i).o.ownBlock=some k:=fun k hk e=>(hv.oF k e).1 hk;have Lb:¬ (V i).o.ownBlock=some L:=fun e=>(hv.oF L e).2 rfl
 have Ra:X.cell? ⟨L,i*194+1,none⟩=some (V i).o:=by
  rw [World.cell?_of_block (w:=w) (a:=⟨L,i*194+1,none⟩) (jH.block L h.lt Lb)];exact ur h hi rfl
 have bD:=eM h.row jH Lb
 refine ⟨a,c,X,r1,Ra,bD.frozen _,fun j=>if j=i then { V i with o:=.slice a ((T i).orb.length+1) c } else V j,?_⟩
 have bA:∀ k,(Value.slice a ((T i).orb.length+1) c).ownBlock=some k→(V i).o.ownBlock=some k∨k=w.heap.size+1:=fun k e=>by
  rcases r4 with r4 | r4
  ·exact .inl (by rw [← r4]; exact e)
  ·rw [r4] at e; injection e with e; exact .inr (by omega)
 have uu:=H_ (T:=T) (T':=nu T i p) (V:=V) (V':=fun j=>if j=i then { V i with o:=.slice a ((T i).orb.length+1) c } else V j) (x:=.slice a ((T i).orb.length+1) c)
  (fun k hk=>Nat.lt_of_lt_of_le (h.gB k hk) jH.size) h.LF bD (fun j hj hne=>(h.lv j hj).kp jH uR (fun k e e2=>h.jY j i hj hi hne k e (.inr e2)))
  (fun a b ha hb gJ _ _=>h.jY a b ha hb gJ) hi (m:=1) (by omega) rfl (fun j hj=>⟨if_neg hj,if_neg hj⟩) ?_ ?_ ?_
 ·exact ⟨uu.1,Rg.Kp.trans (jH.fN fun k e hf=>uR k hf e) uu.2 (fun _ _ e=>e)⟩
 ·intro m' mH
  simp only [if_true,nu];unfold cont
  by_cases h0:m'=0
  ·simp [h0]
  by_cases h1:m'=1
  ·simp [h1]
  ·simp [h0,h1]
 ·simp only [if_true,nu]
  have hF:=hv.kp (M:=fun _=>False) (w':=w) (Rg.Kp.refl _ _) (fun _ _=>id) (fun _ _=>id);have aJ:=hv.lt;have ky:=fun q x hq hx=>(hv.some_ q x hq hx);refine ⟨?_,hv.BU.kp jH uR,?_,hv.gF,?_,?_,fun q x hq hx=>⟨Rg.FI.kp (ky q x hq hx).1 jH uR,Rg.FI.kp (ky q x hq hx).2 jH uR⟩,hv.none_⟩
  ·exact gM hv.pY jH (fun k e e2=>hv.go k e2 e)
  ·have e1:(Ma.ah ((T i).orb++[p])).map (Value.int .i64)=(Ma.ah (T i).orb).map (Value.int .i64)++[.int .i64 ((p:Nat):Int)]:=by simp [Ma.ah]
   rw [e1,List.length_append]; exact r2
  ·intro k e
   rcases bA k e with e | e
   ·exact hv.oF k e
   ·exact ⟨fun hf=>by have:=h.gB k hf; omega,by have:=h.lt; omega⟩
  ·intro k e e2
   rcases bA k e2 with e2 | e2
   ·exact hv.go k e e2
   ·have:=aJ k (.inl e); omega
 ·intro j k hj hne e
  simp only [if_true] at e
  rcases e with e | e
  ·exact h.jY i j hi hj (Ne.symm hne) k (.inl e)
  ·rcases bA k e with e | e
   ·exact h.jY i j hi hj (Ne.symm hne) k (.inr e)
   ·intro e2; have:=(h.lv j hj).lt k e2; omega
theorem BV (b o:Nat) (w:World):(Instr.fieldAt 130 (.pointer (some ⟨b,o,none⟩)) 0).run Tryz.prog w=.ok (.pointer (some ⟨b,o,none⟩)) w:=by kernel_rfl
theorem zm (b o:Nat) (w:World):(Instr.fieldAt 130 (.pointer (some ⟨b,o,none⟩)) 1).run Tryz.prog w=.ok (.pointer (some ⟨b,o+1,none⟩)) w:=by kernel_rfl
theorem uw (b o:Nat) (w:World):(Instr.fieldAt 130 (.pointer (some ⟨b,o,none⟩)) 2).run Tryz.prog w=.ok (.pointer (some ⟨b,o+2,none⟩)) w:=by kernel_rfl
theorem zn (b o:Nat) (w:World):(Instr.fieldAt 130 (.pointer (some ⟨b,o,none⟩)) 3).run Tryz.prog w=.ok (.pointer (some ⟨b,o+66,none⟩)) w:=by kernel_rfl
theorem BW (b o:Nat) (w:World):(Instr.fieldAt 130 (.pointer (some ⟨b,o,none⟩)) 4).run Tryz.prog w=.ok (.pointer (some ⟨b,o+130,none⟩)) w:=by kernel_rfl
theorem wj (b:Nat) (w:World):(Instr.fieldAt 122 (.pointer (some ⟨b,0,none⟩)) 0).run Tryz.prog w=.ok (.pointer (some ⟨b,0,none⟩)) w:=by kernel_rfl
theorem jI (b:Nat) (w:World):(Instr.fieldAt 122 (.pointer (some ⟨b,0,none⟩)) 1).run Tryz.prog w=.ok (.pointer (some ⟨b,1,none⟩)) w:=by kernel_rfl
theorem gN:(Tryz.prog.info? 130).map (·.size)=some 194:=by kernel_rfl
theorem Aj {o:Oper} {a:Act} {w:World} {t e:TypeId} {z:Nat} (x y:Operand) (ho:o.op=.indexAddr t x y) (hu:Tryz.prog.underlying t=some (.slice e)) (dn:(Tryz.prog.info? e).map (·.size)=some z) (b of len cap i:Nat) (hx:a.eval x=.slice (some ⟨b,of,none⟩) len cap) (hy:a.eval y=.int .i64 (i:Int)) (hi:i<len) :
  (execOp a.eval o).run Tryz.prog w=.ok (.value (.pointer (some ⟨b,of+i*z,none⟩))) w:=by
 obtain ⟨ie,Es,hs⟩:=Option.map_eq_some_iff.1 dn;have h1:(0:Int)≤(i:Int)∧(i:Int)<(len:Int):=⟨by omega,by omega⟩
 have hr:(Instr.indexAt t (.slice (some ⟨b,of,none⟩) len cap) (.int .i64 (i:Int))).run Tryz.prog w=.ok (.pointer (some ⟨b,of+i*z,none⟩)) w:=by
  simp [Instr.indexAt,asIntOf,run_underlying hu,sizeOf,typeInfo,Es,hs,h1];rw [if_pos hi];unfold Addr.add
  split
  ·rename_i h0; rw [h0]; rfl
  ·rfl
 unfold execOp;simp only [ho,hx,hy,Sem.run_bind,Sem.run_pure,hr,Result.andThen_ok]
theorem cT {o:Oper} {a:Act} {w:World} {t e:TypeId} {z:Nat} (x y:Operand) (ho:o.op=.indexAddr t x y) (hu:Tryz.prog.underlying t=some (.slice e)) (dn:(Tryz.prog.info? e).map (·.size)=some z) (b len cap i:Nat) (hx:a.eval x=.slice (some ⟨b,0,none⟩) len cap) (hy:a.eval y=.int .i64 (i:Int)) (hi:i<len) :
  (execOp a.eval o).run Tryz.prog w=.ok (.value (.pointer (some ⟨b,i*z,none⟩))) w:=by
 have:=Aj (w:=w) x y ho hu dn b 0 len cap i hx hy hi
 rwa [Nat.zero_add] at this
theorem rR {b:List Nat} {w:World} (h1:FP F w v1 a) (h2:FP F w v2 b) (ga:Cm.Gd n a) (gb:Cm.Gd n b) (hn:1≤n) (bn:n≤64) :
  Calls Tryz.prog 110 #[v1,v2] w fun e w'=>∃ v,e=.returned v∧FP (cx F w w') w' v (Ma.aj a b)∧Below w.heap.size w w':=by
 have e1:=ga.2;have e2:=gb.2;refine (Ev v1 v2 a b w h1.np h2.np (fun x hx=>by have:=ga.1.1 x hx; omega) (by omega) (by omega) (by omega)).mono ?_;rintro e w' ⟨v,rfl,hv,hb⟩;exact ⟨v,rfl,FP.new hv,hb⟩
theorem Lc {w:World} (h1:FP F w v1 a) (ga:Cm.Gd n a) (hn:1≤n) (bn:n≤64) :
  Calls Tryz.prog 124 #[v1] w fun e w'=>∃ v,e=.returned v∧FP (cx F w w') w' v (Ma.aO a)∧Below w.heap.size w w':=by
 have e1:=ga.2;refine (Ex v1 a w h1.np ga.1 (by omega) (by omega)).mono ?_;rintro e w' ⟨v,rfl,hv,hb⟩;exact ⟨v,rfl,FP.new hv,hb⟩
theorem BX (n:Nat) (w:World) (bn:n≤64) :
  Calls Tryz.prog 104 #[.int .i64 n] w fun e w'=>∃ v,e=.returned v∧FP (cx F w w') w' v (Ma.aR n)∧Below w.heap.size w w':=by
 refine (Ew n w (by omega)).mono ?_;rintro e w' ⟨v,rfl,hv,hb⟩;exact ⟨v,rfl,FP.new hv,hb⟩
end Go.Proofs.YtbngdgfmlmkgiaaGreat

namespace Go.Proofs.YtbngdgfmlmkgiaaGreat
open Go.RowKit
open Go.Proofs
open Go.Proofs.Cm (Lv bf bX)
attribute [local irreducible] Go.Calls
theorem Ak (args:Array Value) (w:World):(callFunc 110 args).run Tryz.prog w=.ok (.enter 110 args) w:=by kernel_rfl
theorem qm {o:Oper} {a:Act} {w:World} (x y:Operand) (ho:o.op=.binOp .eql 26 x y 26) (hx:a.eval x=.slice none 0 0) (hy:a.eval y=.slice none 0 0):(execOp a.eval o).run Tryz.prog w=.ok (.value (.bool true)) w:=by
 have h1:(binOp .eql 26 (.slice none 0 0) (.slice none 0 0)).run Tryz.prog w=.ok (.bool true) w:=by kernel_rfl
 have hg:(eqGuard .eql 26 x y (.slice none 0 0) (.slice none 0 0)).run Tryz.prog w=.ok () w:=by
  simp [eqGuard]
 unfold execOp;simp only [ho,hx,hy,Sem.run_bind,Sem.run_pure,hg,h1,Result.andThen_ok]
theorem jJ {o:Oper} {a:Act} {w:World} {ad:Addr} {c:Nat} (x y:Operand) (ho:o.op=.binOp .eql 26 x y 26) (hx:a.eval x=.slice (some ad) n c) (hy:a.eval y=.slice none 0 0):(execOp a.eval o).run Tryz.prog w=.ok (.value (.bool false)) w:=by
 have h1:(binOp .eql 26 (.slice (some ad) n c) (.slice none 0 0)).run Tryz.prog w=.ok (.bool false) w:=by kernel_rfl
 have hg:(eqGuard .eql 26 x y (.slice (some ad) n c) (.slice none 0 0)).run Tryz.prog w=.ok () w:=by
  simp [eqGuard]
 unfold execOp;simp only [ho,hx,hy,Sem.run_bind,Sem.run_pure,hg,h1,Result.andThen_ok]
theorem aV.U_ {w:World} {T:bf} {V:Nat→LV} (h:aV F L n w T V) {i p:Nat} (hi:i<n) (hp:p<64) {u:List Nat} (hu:bX T i p=some u) (gu:Cm.Gd n u) (hn:1≤n):∃ b o c,(V i).b p=.slice (some ⟨b,o,none⟩) n c∧FP F w (.slice (some ⟨b,o,none⟩) n c) (Ma.aO u):=by
 have h1:=((h.lv i hi).some_ p u hp hu).2;obtain ⟨b,o,c,e,_⟩:=h1.shape (by rw [(Cm.aW gu).2]; exact hn);rw [(Cm.aW gu).2] at e;exact ⟨b,o,c,e,by rw [← e]; exact h1⟩
theorem aV.OP {w:World} {T:bf} {V:Nat→LV} (h:aV F L n w T V) {i p:Nat} (hi:i<n) (hp:p<64) {u:List Nat} (hu:bX T i p=some u) (gu:Cm.Gd n u) (hn:1≤n):∃ b o c,(V i).t p=.slice (some ⟨b,o,none⟩) n c∧FP F w (.slice (some ⟨b,o,none⟩) n c) u:=by
 have h1:=((h.lv i hi).some_ p u hp hu).1;obtain ⟨b,o,c,e,_⟩:=h1.shape (by rw [gu.2]; exact hn);rw [gu.2] at e;exact ⟨b,o,c,e,by rw [← e]; exact h1⟩
theorem FP.eC {w:World} {v:Value} {p:List Nat} (h:FP F w v p) (gp:Cm.Gd n p) (hn:1≤n):∃ b o c,v=.slice (some ⟨b,o,none⟩) n c:=by
 obtain ⟨b,o,c,e,_⟩:=h.shape (by rw [gp.2]; exact hn);rw [gp.2] at e;exact ⟨b,o,c,e⟩
theorem FP.ap {F:Nat→Prop} {n:Nat} {w:World} {b o m c:Nat} {p:List Nat} (h:FP F w (.slice (some ⟨b,o,none⟩) m c) p) (gp:Cm.Gd n p) {i:Nat} (hi:i<n):CF F w b (o+i) (.int .i64 ((Cm.ap p i:Nat):Int)):=h.cell (by rw [gp.2]; exact hi)
theorem Jf {w:World} {T:bf} {V:Nat→LV} (hT:aV F L n w T V) (cr:CF F w tb 0 (.int .i64 ((n:Nat):Int))) (eJ:CF F w tb 1 (.slice (some ⟨L,0,none⟩) n n)) (aZ:1≤n) (bn:n≤64) {x:List Nat} {i0:Nat} (hx:FP F w xv x) (gx:Cm.Gd n x) (ni:i0≤n) (Jg:Cm.Fx i0 x) (hr:Cm.Rp n i0 (bX T)) :
  Calls Tryz.prog 105 #[.pointer (some ⟨tb,0,none⟩),xv,.int .i64 ((i0:Nat):Int)] w fun e w'=>∃ F' rv,e=.returned (.tuple #[.int .i64 (((Cm.cS n (bX T) (n - i0) x).1:Nat):Int),rv])∧KG F w F' w'∧aV F' L n w' T V∧FP F' w' rv (Cm.cS n (bX T) (n - i0) x).2∧Below w.heap.size w w':=by
 obtain ⟨YH,YI,YJ,rfl⟩:=hx.eC gx aZ;have K:=ι (KG.refl hT.gB);have HT:=ι hT;have C0:=ι cr;have C1:=ι eJ;have X:=ι hx;have HR:=ι hr;obtain ⟨A,hA⟩:∃ A,Hid (A=Cm.cS n (bX T) (n - i0) x):=⟨_,ι rfl⟩;rw [← hA.out];have KB:=ι (Below.refl w.heap.size w);have rS:=cr.cell;have Va:=ι hA.out.symm;clear hT cr eJ hx hr
 go_enter Tryz.func105,Tryz.ntmps105
 go_wp2
 go_loopw [1,8] (fun yv iv wr=>∃ (i:Nat) (y:List Nat) (F1:Nat→Prop),i0≤i∧i≤n∧iv=.int .i64 i∧Hid (FP F1 wr yv y)∧Hid (aV F1 L n wr T V)∧Hid (CF F1 wr tb 0 (.int .i64 ((n:Nat):Int)))∧Hid (CF F1 wr tb 1 (.slice (some ⟨L,0,none⟩) n n))∧Hid (KG F w F1 wr)∧Hid (Below w.heap.size w wr)∧Hid (Cm.Gd n y)∧Hid (Cm.Fx i y)∧Hid (Cm.cS n (bX T) (n - i) y=A)) (fun _ iv _=>n - (intOf iv).toNat)
 case atStart=>exact ⟨i0,x,F,Nat.le_refl _,ni,rfl,X,HT,C0,C1,K,KB,ι gx,ι Jg,Va⟩
 case round =>
  clear X HT C0 C1 K KB rS Va Jg gx;obtain ⟨i,y,F,sZ,eE,rfl,X,HT,C0,C1,K,KB,GY,FY,HS⟩:=hrel;have rS:=C0.out.cell
  by_cases aB:i<n
  ·have uS:(i:Int)<(n:Int):=by omega
   obtain ⟨xb,xo,xc,rfl⟩:=X.out.eC GY.out aZ;have gZ:=Cm.eH GY.out aB;obtain ⟨q,hq⟩:∃ q:Nat,Hid (q=Cm.ap y i):=⟨_,ι rfl⟩;rw [← hq.out] at gZ;have CX:=ι (show CF F wr xb (xo+i) (.int .i64 ((q:Nat):Int)) by rw [hq.out]; exact X.out.ap GY.out aB)
   have jt:q<64:=by omega
   have bw:=ι aB
   cases dx:bX T i q with
   | none =>
    have Vc:=((HT.out.lv i aB).none_ q jt dx).2;have CB:=ι (show wr.cell? ⟨L,i*194+66+q,none⟩=some (.slice none 0 0) by rw [Ez HT.out aB jt (by omega),Vc])
    have HE:=ι (show A=(i,y) by
     rw [← HS.out]
     have e1:n - i=(n - i - 1)+1:=by omega
     rw [e1,Cm.jF]
     ·rw [show n - (n - i - 1+1)=i by omega]
     ·rw [show n - (n - i - 1+1)=i by omega,← hq.out]; exact dx)
    have mI:=ι HT.out.lt;clear Vc dx;go_upto_region 4 with fail;have cO:Below wr.heap.size wr wr.drew:=(Below.refl _ _).drew;replace HT:=ι (HT.out.up cO);replace KB:=ι (Rg.acc KB.out cO);replace CB:=ι ((cO.cell (p:=⟨L,i*194+66+q,none⟩) mI.out).trans CB.out);replace mI:=ι (Nat.lt_of_lt_of_le mI.out cO.size);clear cO;have aw:Below wr.heap.size wr wr.drew:=(Below.refl _ _).drew;replace X:=ι (X.out.up aw);replace C0:=ι (C0.out.up aw);replace C1:=ι (C1.out.up aw);replace CX:=ι (CX.out.up aw);replace K:=ι (K.out.up aw);generalize cx F wr wr.drew=F1 at *;clear aw;refine Rg.Any.begin (S:=Rg.aH 13 (fun _=>True) (fun W=>Below wr.drew.heap.size wr.drew W)) mix ?_;generalize wr.drew=w1 at *;have hS:∀ (l:Array Bool) W,Below w1.heap.size w1 W→Rg.aH 13 (fun _=>True) (fun W=>Below w1.heap.size w1 W) l W:=fun l W h=>⟨.inr trivial,h⟩
    have hI:Below w1.heap.size w1 w1:=Below.refl _ _
    refine c8 0 13 (.pointer (some ⟨tb,0,none⟩)) 19 (hS _ _ hI)<|c7 1 13 (.pointer (some ⟨tb,0,none⟩)) 20 rfl rfl (g7 fun w=>aY _ rfl rfl) (hS _ _ hI)<|c7 2 13 (.pointer (some ⟨tb,1,none⟩)) 21 rfl rfl (g7 fun w=>aA _ rfl rfl (jI _ _)) (hS _ _ hI)<|c7 3 13 (.slice (some ⟨L,0,none⟩) n n) 22 rfl rfl (g6 ⟨tb,1,none⟩ (fun W hW=>Rg.ae _ _ Tryz.underlying120 ((Below.cell (p:=⟨tb,1,none⟩) hW C1.out.lt).trans C1.out.cell))) (hS _ _ hI)<|c8 4 13 (.int .i64 ((i:Nat):Int)) 23 (hS _ _ hI) ?_;go_frame
    refine c8 5 13 (.slice (some ⟨xb,xo,none⟩) n xc) 24 (hS _ _ hI)<|c8 6 13 (.int .i64 ((i:Nat):Int)) 25 (hS _ _ hI)<|c7 7 13 (.pointer (some ⟨xb,xo+i,none⟩)) 26 rfl rfl (Rg.ai bK _ _ rfl rfl xb (xo) (n) xc (i) rfl rfl bw.out) (hS _ _ hI)<|c7 8 13 (.int .i64 ((q:Nat):Int)) 27 rfl rfl (g6 ⟨xb,xo+i,none⟩ (fun W hW=>af ((Below.cell (p:=⟨xb,xo+i,none⟩) hW CX.out.lt).trans CX.out.cell))) (hS _ _ hI)<|c7 9 13 (.pointer (some ⟨L,i*194,none⟩)) 28 rfl rfl (g7 fun w=>cT _ _ rfl Tryz.underlying120 gN L (n) (n) (i) rfl rfl bw.out) (hS _ _ hI) ?_;go_frame
    refine c7 10 13 (.pointer (some ⟨L,i*194+66,none⟩)) 29 rfl rfl (g7 fun w=>aA _ rfl rfl (zn _ _ _)) (hS _ _ hI)<|c7 11 13 (.pointer (some ⟨L,i*194+66+q,none⟩)) 30 rfl rfl (g7 fun w=>bp _ _ rfl Tryz.underlying127 rM L (i*194+66) (q) rfl rfl jt) (hS _ _ hI)<|c7 12 13 (.slice none 0 0) 31 rfl rfl (g6 ⟨L,i*194+66+q,none⟩ (fun W hW=>Rg.ae _ _ Tryz.underlying26 ((Below.cell (p:=⟨L,i*194+66+q,none⟩) hW mI.out).trans CB.out))) (hS _ _ hI)<|g5 13 9 rfl rfl (b5 (.slice none 0 0) _ rfl rfl) (hS _ _ hI) ?_;go_frame
    refine Rg.Any.done (by kernel_rfl) ?_ _;clear hS hI;go_upto_region 5 with fail
    refine b6<|i5 rfl<|i8 (qm _ _ rfl rfl rfl) ?_;go_frame
    go_wp2
    go_ret2
    exact ⟨_,.slice (some ⟨xb,xo,none⟩) n xc,by rw [HE.out]; rfl,K.out,HT.out,by rw [HE.out]; exact X.out,KB.out⟩
   | some u =>
    have gu:=HR.out.gd i q u sZ aB dx;obtain ⟨bb,bo,bc,Ld,Vd⟩:=HT.out.U_ aB jt dx gu aZ
    have Ve:Cm.cS n (bX T) (n - (i+1)) (Ma.aj y (Ma.aO u))=A:=by
     rw [← HS.out]
     have e1:n - i=(n - i - 1)+1:=by omega
     rw [e1,Cm.gY (u:=u) (by rw [show n - (n - i - 1+1)=i by omega,← hq.out]; exact dx),show n - i - 1=n - (i+1) by omega]
    obtain ⟨BZ,B6⟩:=Cm.rJ HR.out sZ aB GY.out FY.out (by rw [← hq.out]; exact dx);have BP:=ι Vd;have GI:=ι (Cm.aW gu);have OQ:=ι Ve;have Rc:=ι BZ;have Jh:=ι B6;have CB:=ι (show wr.cell? ⟨L,i*194+66+q,none⟩=some (.slice (some ⟨bb,bo,none⟩) n bc) by rw [Ez HT.out aB jt (by omega),Ld])
    have B7:=ι (show q=i→Ma.aj y (Ma.aO u)=y from fun e=>by
     have h1:=HR.out.self i sZ aB;rw [e,h1] at dx
     cases dx
     rw [Cm.inv_one,Cm.mul_one GY.out])
    have mI:=ι HT.out.lt;clear Ld Vd gu Ve BZ B6 dx HS
    by_cases lD:q=i
    ·have HY:=ι (B7.out lD)
     have YK:(q:Int)=(i:Int):=by omega
     clear lD B7;go_upto_region 4 with fail;have cO:Below wr.heap.size wr wr.drew:=(Below.refl _ _).drew;replace KB:=ι (Rg.acc KB.out cO);replace CB:=ι ((cO.cell (p:=⟨L,i*194+66+q,none⟩) mI.out).trans CB.out);replace mI:=ι (Nat.lt_of_lt_of_le mI.out cO.size);clear cO;have aw:Below wr.heap.size wr wr.drew:=(Below.refl _ _).drew;replace X:=ι (X.out.up aw);replace HT:=ι (HT.out.up aw);replace C0:=ι (C0.out.up aw);replace C1:=ι (C1.out.up aw);replace CX:=ι (CX.out.up aw);replace BP:=ι (BP.out.up aw);replace K:=ι (K.out.up aw);generalize cx F wr wr.drew=F1 at *;clear aw;refine Rg.Any.begin (S:=Rg.aH 13 (fun _=>True) (fun W=>Below wr.drew.heap.size wr.drew W)) mix ?_;generalize wr.drew=w1 at *;have hS:∀ (l:Array Bool) W,Below w1.heap.size w1 W→Rg.aH 13 (fun _=>True) (fun W=>Below w1.heap.size w1 W) l W:=fun l W h=>⟨.inr trivial,h⟩
     have hI:Below w1.heap.size w1 w1:=Below.refl _ _
     refine c8 0 13 (.pointer (some ⟨tb,0,none⟩)) 19 (hS _ _ hI)<|c7 1 13 (.pointer (some ⟨tb,0,none⟩)) 20 rfl rfl (g7 fun w=>aY _ rfl rfl) (hS _ _ hI)<|c7 2 13 (.pointer (some ⟨tb,1,none⟩)) 21 rfl rfl (g7 fun w=>aA _ rfl rfl (jI _ _)) (hS _ _ hI)<|c7 3 13 (.slice (some ⟨L,0,none⟩) n n) 22 rfl rfl (g6 ⟨tb,1,none⟩ (fun W hW=>Rg.ae _ _ Tryz.underlying120 ((Below.cell (p:=⟨tb,1,none⟩) hW C1.out.lt).trans C1.out.cell))) (hS _ _ hI)<|c8 4 13 (.int .i64 ((i:Nat):Int)) 23 (hS _ _ hI) ?_;go_frame
     refine c8 5 13 (.slice (some ⟨xb,xo,none⟩) n xc) 24 (hS _ _ hI)<|c8 6 13 (.int .i64 ((i:Nat):Int)) 25 (hS _ _ hI)<|c7 7 13 (.pointer (some ⟨xb,xo+i,none⟩)) 26 rfl rfl (Rg.ai bK _ _ rfl rfl xb (xo) (n) xc (i) rfl rfl bw.out) (hS _ _ hI)<|c7 8 13 (.int .i64 ((q:Nat):Int)) 27 rfl rfl (g6 ⟨xb,xo+i,none⟩ (fun W hW=>af ((Below.cell (p:=⟨xb,xo+i,none⟩) hW CX.out.lt).trans CX.out.cell))) (hS _ _ hI)<|c7 9 13 (.pointer (some ⟨L,i*194,none⟩)) 28 rfl rfl (g7 fun w=>cT _ _ rfl Tryz.underlying120 gN L (n) (n) (i) rfl rfl bw.out) (hS _ _ hI) ?_;go_frame
     refine c7 10 13 (.pointer (some ⟨L,i*194+66,none⟩)) 29 rfl rfl (g7 fun w=>aA _ rfl rfl (zn _ _ _)) (hS _ _ hI)<|c7 11 13 (.pointer (some ⟨L,i*194+66+q,none⟩)) 30 rfl rfl (g7 fun w=>bp _ _ rfl Tryz.underlying127 rM L (i*194+66) (q) rfl rfl jt) (hS _ _ hI)<|c7 12 13 (.slice (some ⟨bb,bo,none⟩) n bc) 31 rfl rfl (g6 ⟨L,i*194+66+q,none⟩ (fun W hW=>Rg.ae _ _ Tryz.underlying26 ((Below.cell (p:=⟨L,i*194+66+q,none⟩) hW mI.out).trans CB.out))) (hS _ _ hI)<|g5 13 9 rfl rfl (b5 (.slice (some ⟨bb,bo,none⟩) n bc) _ rfl rfl) (hS _ _ hI) ?_;go_frame
     refine Rg.Any.done (by kernel_rfl) ?_ _;clear hS hI;go_upto_region 5 with fail
     refine b6<|i5 rfl<|i8 (jJ _ _ rfl rfl rfl) ?_;go_frame
     go_upto_region 7 with fail
     refine b6<|i5 rfl<|i4 rfl<|i8 (ag bK _ _ rfl xb (xo) (n) xc (i) rfl rfl bw.out)<|i8 (d8 (.int .i64 ((q:Nat):Int)) ⟨xb,xo+i,none⟩ (af CX.out.cell)) ?_;go_frame
     refine i4 rfl<|i8 (d9 (.bool false) .neq (h:=ax _ d6)) ?_;go_frame
     have rS:=C0.out.cell;go_wp2
     go_roundw
     case rel=>exact ⟨i+1,y,_,by omega,by omega,by go_num,X,HT,C0,C1,K,KB,GY,ι (by have:=Jh.out; rwa [HY.out] at this),ι (by have:=OQ.out; rwa [HY.out] at this)⟩
     case measure=>simp [intOf]; omega
    ·have YK:¬ (q:Int)=(i:Int):=by omega
     clear lD B7;go_upto_region 4 with fail;have cO:Below wr.heap.size wr wr.drew:=(Below.refl _ _).drew;replace KB:=ι (Rg.acc KB.out cO);replace CB:=ι ((cO.cell (p:=⟨L,i*194+66+q,none⟩) mI.out).trans CB.out);replace mI:=ι (Nat.lt_of_lt_of_le mI.out cO.size);clear cO;have aw:Below wr.heap.size wr wr.drew:=(Below.refl _ _).drew;replace X:=ι (X.out.up aw);replace HT:=ι (HT.out.up aw);replace C0:=ι (C0.out.up aw);replace C1:=ι (C1.out.up aw);replace CX:=ι (CX.out.up aw);replace BP:=ι (BP.out.up aw);replace K:=ι (K.out.up aw);generalize cx F wr wr.drew=F1 at *;clear aw;refine Rg.Any.begin (S:=Rg.aH 13 (fun _=>True) (fun W=>Below wr.drew.heap.size wr.drew W)) mix ?_;generalize wr.drew=w1 at *;have hS:∀ (l:Array Bool) W,Below w1.heap.size w1 W→Rg.aH 13 (fun _=>True) (fun W=>Below w1.heap.size w1 W) l W:=fun l W h=>⟨.inr trivial,h⟩
     have hI:Below w1.heap.size w1 w1:=Below.refl _ _
     refine c8 0 13 (.pointer (some ⟨tb,0,none⟩)) 19 (hS _ _ hI)<|c7 1 13 (.pointer (some ⟨tb,0,none⟩)) 20 rfl rfl (g7 fun w=>aY _ rfl rfl) (hS _ _ hI)<|c7 2 13 (.pointer (some ⟨tb,1,none⟩)) 21 rfl rfl (g7 fun w=>aA _ rfl rfl (jI _ _)) (hS _ _ hI)<|c7 3 13 (.slice (some ⟨L,0,none⟩) n n) 22 rfl rfl (g6 ⟨tb,1,none⟩ (fun W hW=>Rg.ae _ _ Tryz.underlying120 ((Below.cell (p:=⟨tb,1,none⟩) hW C1.out.lt).trans C1.out.cell))) (hS _ _ hI)<|c8 4 13 (.int .i64 ((i:Nat):Int)) 23 (hS _ _ hI) ?_;go_frame
     refine c8 5 13 (.slice (some ⟨xb,xo,none⟩) n xc) 24 (hS _ _ hI)<|c8 6 13 (.int .i64 ((i:Nat):Int)) 25 (hS _ _ hI)<|c7 7 13 (.pointer (some ⟨xb,xo+i,none⟩)) 26 rfl rfl (Rg.ai bK _ _ rfl rfl xb (xo) (n) xc (i) rfl rfl bw.out) (hS _ _ hI)<|c7 8 13 (.int .i64 ((q:Nat):Int)) 27 rfl rfl (g6 ⟨xb,xo+i,none⟩ (fun W hW=>af ((Below.cell (p:=⟨xb,xo+i,none⟩) hW CX.out.lt).trans CX.out.cell))) (hS _ _ hI)<|c7 9 13 (.pointer (some ⟨L,i*194,none⟩)) 28 rfl rfl (g7 fun w=>cT _ _ rfl Tryz.underlying120 gN L (n) (n) (i) rfl rfl bw.out) (hS _ _ hI) ?_;go_frame
     refine c7 10 13 (.pointer (some ⟨L,i*194+66,none⟩)) 29 rfl rfl (g7 fun w=>aA _ rfl rfl (zn _ _ _)) (hS _ _ hI)<|c7 11 13 (.pointer (some ⟨L,i*194+66+q,none⟩)) 30 rfl rfl (g7 fun w=>bp _ _ rfl Tryz.underlying127 rM L (i*194+66) (q) rfl rfl jt) (hS _ _ hI)<|c7 12 13 (.slice (some ⟨bb,bo,none⟩) n bc) 31 rfl rfl (g6 ⟨L,i*194+66+q,none⟩ (fun W hW=>Rg.ae _ _ Tryz.underlying26 ((Below.cell (p:=⟨L,i*194+66+q,none⟩) hW mI.out).trans CB.out))) (hS _ _ hI)<|g5 13 9 rfl rfl (b5 (.slice (some ⟨bb,bo,none⟩) n bc) _ rfl rfl) (hS _ _ hI) ?_;go_frame
     refine Rg.Any.done (by kernel_rfl) ?_ _;clear hS hI;go_upto_region 5 with fail
     refine b6<|i5 rfl<|i8 (jJ _ _ rfl rfl rfl) ?_;go_frame
     go_upto_region 7 with fail
     refine b6<|i5 rfl<|i4 rfl<|i8 (ag bK _ _ rfl xb (xo) (n) xc (i) rfl rfl bw.out)<|i8 (d8 (.int .i64 ((q:Nat):Int)) ⟨xb,xo+i,none⟩ (af CX.out.cell)) ?_;go_frame
     refine i4 rfl<|i8 (d9 (.bool true) .neq (h:=ax _ d5)) ?_;go_frame
     clear rS;go_upto_region 8 with fail
     refine b6<|i5 rfl<|i5 rfl ?_;go_frame
     refine d4 44 (aD 110 _ _ _ rfl rfl rfl (Ak _ _)) ?_;refine (rR X.out BP.out GY.out GI.out aZ bn).mono ?_;rintro e1 w2 ⟨mv,rfl,dL,hb⟩;replace KB:=ι (Rg.acc KB.out hb);refine ⟨_,rfl,?_⟩;go_frame;replace X:=ι (X.out.up hb);replace HT:=ι (HT.out.up hb);replace C0:=ι (C0.out.up hb);replace C1:=ι (C1.out.up hb);replace CX:=ι (CX.out.up hb);replace BP:=ι (BP.out.up hb);replace K:=ι (K.out.up hb);have MV:=ι dL;generalize cx F1 w1 w2=F2 at *;clear hb;refine i3 (mv) rfl ?_;go_frame;have rS:=C0.out.cell;go_wp2
     go_roundw
     case rel=>exact ⟨i+1,_,_,by omega,by omega,by go_num,MV,HT,C0,C1,K,KB,Rc,Jh,OQ⟩
     case measure=>simp [intOf]; omega
  ·obtain rfl:i=n:=by omega
   have HE:=ι (show A=(i,y) by rw [← HS.out,Nat.sub_self]; rfl);clear HS;go_wp2
   go_ret2
   exact ⟨_,u1,by rw [HE.out]; rfl,K.out,HT.out,by rw [HE.out]; exact X.out,KB.out⟩
end Go.Proofs.YtbngdgfmlmkgiaaGreat
