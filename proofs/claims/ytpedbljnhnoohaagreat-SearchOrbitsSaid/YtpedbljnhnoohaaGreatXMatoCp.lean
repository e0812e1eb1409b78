/- Lemmas and contracts on the way to the statement; no condition of their own beyond those written. -/
import Derived.Lib.Hide
import Derived.Deep.OwnRows
import Derived.WalkKit
import Derived.WalkSpells
import Derived.WalkLawsBesides
import Derived.Maps.AppendAt
import Derived.OwnWalk
import Derived.OrdersHeld
import Derived.Stop.BytesEq
import Derived.MapKept
import Derived.ChangeMaps5
import Derived.StillTailTactics
import Derived.Deep.MidRow
import Derived.Laws.CopyOwn
import Derived.Laws.OwnMore
import Derived.Great.BuildSlice
import Derived.ArgAppend
import Derived.IntWalk
import Derived.Test.YtpedbljnhnoohaaGreatProg
import Derived.Outline
import Derived.Deep.DeepFit
import Derived.BigQuiet
import Derived.Deep.QuietTactic
import Derived.Deep.CutRange
import Derived.Deep.CutBlock
import Derived.Shelf.Sort.Plain
import Derived.Sort.OwnSortedInts
import Derived.WideMake
set_option linter.unusedVariables false
set_option linter.unusedSimpArgs false
set_option maxRecDepth 100000
set_option maxHeartbeats 8000000
variable {w W w' W' w0 X:Go.World} {n B N L j d D tc base n₀ cap bytes tk:Nat} {v rv ov u z v1 v2 xv u1 u2 yv u3:Go.Value} {F M F' Fk:Nat->Prop} {ll OO PS:List (List Int)} {O gs T A:List (List Nat)} {R:List (List (List Nat))} {RR:List (List (List Int))} {H:List Nat->Prop} {q:List Nat} {xs:List Go.Value} {ck:Int} {xl:List Int}
theorem Go.RowKit.Hid.p {p:Prop} (h:Go.RowKit.Hid p):p:=h.out
namespace Go.Proofs.Cm
end Go.Proofs.Cm
namespace Go.Proofs.Ob
end Go.Proofs.Ob
namespace Go.Proofs.YtpedbljnhnoohaaGreat
end Go.Proofs.YtpedbljnhnoohaaGreat
namespace Go.Proofs.Ma
def vR (l:List Int):Prop:=(∀ x∈l,0<=x/\x<l.length)/\l.Nodup
instance (l:List Int):Decidable (vR l):=inferInstanceAs (Decidable (_/\_))
def vS (l:List Int) (k:Nat):Prop:=(∀ x∈l.take k,0<=x/\x<l.length)/\(l.take k).Nodup
theorem vT (l:List Int):vS l 0:=⟨by simp,by simp⟩
theorem LQ {l:List Int} (h:vS l l.length):vR l:=by
 unfold vS at h; rw [List.take_length] at h; exact h
theorem JI {l:List Int} {k:Nat} (h:vS l k) (hk:k<l.length) (h0:0<=l[k]) (h1:l[k]<l.length) (h2:l[k]∉l.take k):vS l (k+1):=by
 unfold vS;rw [List.take_succ_eq_append_getElem hk];refine ⟨fun x hx=>?_,?_⟩
 ·rcases List.mem_append.1 hx with hx | hx
  ·exact h.1 x hx
  ·obtain rfl:x=l[k]:=by simpa using hx
   exact ⟨h0,h1⟩
 ·rw [List.nodup_append]
  refine ⟨h.2,by simp,fun a ha b hb=>?_⟩
  obtain rfl:b=l[k]:=by simpa using hb
  intro e; exact h2 (e▸ha)
theorem PV {l:List Int} {k:Nat} (hk:k<l.length) (h0:l[k]<0):¬ vR l:=fun h=>by
 have:=(h.1 _ (List.getElem_mem hk)).1; omega
theorem PX {l:List Int} {k:Nat} (hk:k<l.length) (h0:(l.length:Int)<=l[k]):¬ vR l:=fun h=>by
 have:=(h.1 _ (List.getElem_mem hk)).2; omega
theorem LR {l:List Int} {k:Nat} (hk:k<l.length) (h0:l[k]∈l.take k):¬ vR l:=fun h=>by
 have hn:=h.2;rw [<- List.take_append_drop k l,List.nodup_append] at hn;refine hn.2.2 _ h0 l[k] ?_ rfl;rw [List.drop_eq_getElem_cons hk]; exact List.mem_cons_self
theorem vU {l:List Int} {k:Nat} (hk:k<l.length) (j:Nat):decide ((j:Int)∈l.take (k+1))=if (j:Int)=l[k] then true else decide ((j:Int)∈l.take k):=by
 have h:((j:Int)∈l.take (k+1))↔((j:Int)∈l.take k∨(j:Int)=l[k]):=by
  rw [List.take_succ_eq_append_getElem hk,List.mem_append,List.mem_singleton]
 by_cases e:(j:Int)=l[k]
 ·rw [if_pos e,decide_eq_true_eq,h]; exact .inr e
 ·rw [if_neg e]; exact decide_eq_decide.2 (by rw [h]; exact ⟨fun x=>x.resolve_right e,.inl⟩)
def bB (l:List Int):Int:=if 1<=l.length/\l.length<=64 then (if vR l then 0 else 3) else 2
theorem zD {l:List Int} (h:¬ (1<=l.length/\l.length<=64)):bB l=2:=by unfold bB; rw [if_neg h]
theorem sI {l:List Int} (h1:1<=l.length) (h2:l.length<=64) (h:¬ vR l):bB l=3:=by unfold bB; rw [if_pos ⟨h1,h2⟩,if_neg h]
theorem km {l:List Int} (h1:1<=l.length) (h2:l.length<=64) (h:vR l):bB l=0:=by unfold bB; rw [if_pos ⟨h1,h2⟩,if_pos h]
theorem gW {l:List Int} (h:bB l=0):1<=l.length/\l.length<=64/\vR l:=by
 unfold bB at h
 split at h
 ·rename_i h1
  split at h
  ·rename_i h2; exact ⟨h1.1,h1.2,h2⟩
  ·cases h
 ·cases h
def iY (d:Int):List (List Int)->Int
 | []=>0
 | l :: r=>if bB l=0 then (if (l.length:Int)=d then iY d r else 10) else bB l
def fa (d:Int) (ll:List (List Int)):Int:=if 1<=d/\d<=64 then (if ll.length<=16 then iY d ll else 4) else 2
theorem Cr {d:Int} {k:Nat} (hk:k<ll.length) (h:bB ll[k]≠0):iY d (ll.drop k)=bB ll[k]:=by
 rw [List.drop_eq_getElem_cons hk,iY,if_neg h]
theorem Cs {d:Int} {k:Nat} (hk:k<ll.length) (h:bB ll[k]=0) (h2:(ll[k].length:Int)≠d):iY d (ll.drop k)=10:=by
 rw [List.drop_eq_getElem_cons hk,iY,if_pos h,if_neg h2]
theorem zE {d:Int} {k:Nat} (hk:k<ll.length) (h:bB ll[k]=0) (h2:(ll[k].length:Int)=d):iY d (ll.drop k)=iY d (ll.drop (k+1)):=by
 rw [List.drop_eq_getElem_cons hk,iY,if_pos h,if_pos h2]
theorem Ct {d:Int} {k:Nat} (hk:ll.length<=k):iY d (ll.drop k)=0:=by
 rw [List.drop_of_length_le hk]; rfl
theorem uf {d:Int} (h:¬ (1<=d/\d<=64)):fa d ll=2:=by unfold fa; rw [if_neg h]
theorem FD {d:Int} (h1:1<=d) (h2:d<=64) (h:¬ ll.length<=16):fa d ll=4:=by unfold fa; rw [if_pos ⟨h1,h2⟩,if_neg h]
theorem LS {d:Int} (h1:1<=d) (h2:d<=64) (h:ll.length<=16):fa d ll=iY d ll:=by unfold fa; rw [if_pos ⟨h1,h2⟩,if_pos h]
theorem sJ {d:Int}:∀ {ll:List (List Int)},iY d ll=0->∀ l∈ll,bB l=0/\(l.length:Int)=d
 | [],_=>by simp
 | l :: r,h=>by
  rw [iY] at h
  split at h
  ·rename_i h1
   split at h
   ·rename_i h2
    intro x hx
    rcases List.mem_cons.1 hx with rfl | hx
    ·exact ⟨h1,h2⟩
    ·exact sJ h x hx
   ·cases h
  ·rename_i h1; exact absurd h h1
def dn:List (List Int)->Int
 | []=>0
 | l :: r=>if bB l=0 then dn r else bB l
def mZ (n:Nat):List (List Int)->Int
 | []=>0
 | l :: r=>if l.length=n then mZ n r else 10
def ug (ll:List (List Int)):Int:=if dn ll=0 then mZ (ll.headD []).length ll else dn ll
theorem zF {k:Nat} (hk:k<ll.length) (h:bB ll[k]≠0):dn (ll.drop k)=bB ll[k]:=by
 rw [List.drop_eq_getElem_cons hk,dn,if_neg h]
theorem vV {k:Nat} (hk:k<ll.length) (h:bB ll[k]=0):dn (ll.drop k)=dn (ll.drop (k+1)):=by
 rw [List.drop_eq_getElem_cons hk,dn,if_pos h]
theorem JJ {k:Nat} (hk:ll.length<=k):dn (ll.drop k)=0:=by
 rw [List.drop_of_length_le hk]; rfl
theorem JK {k:Nat} (hk:k<ll.length) (h:ll[k].length≠n):mZ n (ll.drop k)=10:=by
 rw [List.drop_eq_getElem_cons hk,mZ,if_neg h]
theorem FE {k:Nat} (hk:k<ll.length) (h:ll[k].length=n):mZ n (ll.drop k)=mZ n (ll.drop (k+1)):=by
 rw [List.drop_eq_getElem_cons hk,mZ,if_pos h]
theorem JL {k:Nat} (hk:ll.length<=k):mZ n (ll.drop k)=0:=by
 rw [List.drop_of_length_le hk]; rfl
theorem JM (h:dn ll≠0):ug ll=dn ll:=by unfold ug; rw [if_neg h]
theorem LU (h:dn ll=0):ug ll=mZ (ll.headD []).length ll:=by unfold ug; rw [if_pos h]
def ag (p:List Nat):List Int:=p.map fun (x:Nat)=>(x:Int)
def iZ (p:List Nat):Prop:=(∀ x∈p,x<p.length)/\p.Nodup
instance (p:List Nat):Decidable (iZ p):=inferInstanceAs (Decidable (_/\_))
theorem ar (p:List Nat):(ag p).length=p.length:=by simp [ag]
theorem nO (p:List Nat) (i:Nat) (h:i<(ag p).length):(ag p)[i]=((p[i]'(by rw [<- ar]; exact h):Nat):Int):=by simp [ag]
theorem kn {l:List Int} (h:vR l):∃ p,l=ag p/\iZ p:=by
 refine ⟨l.map Int.toNat,?_,?_,?_⟩
 ·unfold ag; rw [List.map_map]
  conv=>lhs; rw [<- List.map_id l]
  exact List.map_congr_left fun x hx=>by have:=(h.1 x hx).1; simp; omega
 ·intro x hx
  obtain ⟨y,hy,rfl⟩:=List.mem_map.1 hx;have:=h.1 y hy; simp; omega
 ·rw [List.nodup_iff_pairwise_ne,List.pairwise_map]
  refine (List.nodup_iff_pairwise_ne.1 h.2).imp_of_mem fun {a b} ha hb hne e=>hne ?_;have:=(h.1 a ha).1; have:=(h.1 b hb).1; omega
theorem lJ {p:List Nat} (h:iZ p):vR (ag p):=by
 refine ⟨fun x hx=>?_,?_⟩
 ·obtain ⟨y,hy,rfl⟩:=List.mem_map.1 hx
  have:=h.1 y hy; rw [ar]; omega
 ·unfold ag; rw [List.nodup_iff_pairwise_ne,List.pairwise_map]
  exact (List.nodup_iff_pairwise_ne.1 h.2).imp fun hne e=>hne (by omega)
theorem fl {p:List Nat} (h:ag p=ag q):p=q:=by
 unfold ag at h
 exact List.map_inj_right (f:=fun x:Nat=>(x:Int)) (by intro x y e; exact Int.ofNat.inj e) |>.1 h
theorem qI {p:List Nat} (h:iZ p) {i:Nat} (hi:i<p.length):p[i]<p.length:=h.1 _ (List.getElem_mem hi)
def bh (n:Nat):List Nat:=List.range n
def aj (a b:List Nat):List Nat:=a.map fun x=>b.getD x 0
def aS (a:List Nat):List Nat:=(List.range a.length).map fun j=>a.idxOf j
theorem eC (n:Nat):(bh n).length=n:=by simp [bh]
theorem cu (a b:List Nat):(aj a b).length=a.length:=by simp [aj]
theorem cM (a:List Nat):(aS a).length=a.length:=by simp [aS]
theorem sK (n i:Nat) (h:i<(bh n).length):(bh n)[i]=i:=by simp [bh]
theorem sL (a b:List Nat) (i:Nat) (h:i<(aj a b).length):(aj a b)[i]=b.getD (a[i]'(by rw [<- cu a b]; exact h)) 0:=by simp [aj]
theorem o5 (a:List Nat) (i:Nat) (h:i<(aS a).length):(aS a)[i]=a.idxOf i:=by simp [aS]
theorem zG (n:Nat):iZ (bh n):=⟨by simp [bh],List.nodup_range⟩
theorem lK {a:List Nat} (h:iZ a) {k:Nat} (hk:k<a.length):a.idxOf a[k]=k:=by
 exact h.2.idxOf_getElem k hk
theorem qJ {a:List Nat} (h:iZ a) (hj:j<a.length):j∈a:=by
 refine Decidable.byContradiction fun hn=>?_
 have hs:(j :: a) ⊆ List.range a.length:=fun x hx=>by
  rcases List.mem_cons.1 hx with rfl | hx
  ·simpa using hj
  ·simpa using h.1 x hx
 have:=List.Nodup.length_le_of_subset (List.nodup_cons.2 ⟨hn,h.2⟩) hs;simp at this;omega
theorem AA {a:List Nat} (h:iZ a) (hj:j<a.length):a.idxOf j<a.length:=List.idxOf_lt_length_of_mem (qJ h hj)
theorem Cu {a:List Nat} (h:iZ a) (hj:j<a.length):a[a.idxOf j]'(AA h hj)=j:=List.getElem_idxOf (AA h hj)
theorem zH {a:List Nat} (h:iZ a):iZ (aS a):=by
 refine ⟨fun x hx=>?_,?_⟩
 ·obtain ⟨j,hj,rfl⟩:=List.mem_map.1 hx
  rw [cM]; exact AA h (by simpa using hj)
 ·unfold aS
  rw [List.nodup_iff_pairwise_ne,List.pairwise_map];refine (List.nodup_iff_pairwise_ne.1 List.nodup_range).imp_of_mem fun {x y} hx hy hne e=>hne ?_;have h1:=Cu h (j:=x) (by simpa using hx);have h2:=Cu h (j:=y) (by simpa using hy);simp only [e] at h1;exact h1.symm.trans h2
theorem getD_lt {b:List Nat} {x:Nat} (h:x<b.length):b.getD x 0=b[x]:=by
 rw [List.getD_eq_getElem?_getD,List.getElem?_eq_getElem h]; rfl
theorem zI {a b:List Nat} (ha:iZ a) (hb:iZ b) (hl:a.length=b.length):iZ (aj a b):=by
 refine ⟨fun x hx=>?_,?_⟩
 ·obtain ⟨j,hj,rfl⟩:=List.mem_map.1 hx
  have:=ha.1 j hj;rw [cu,getD_lt (by omega),hl];exact qI hb (by omega)
 ·unfold aj
  rw [List.nodup_iff_pairwise_ne,List.pairwise_map];refine (List.nodup_iff_pairwise_ne.1 ha.2).imp_of_mem fun {x y} hx hy hne e=>hne ?_;have h1:=ha.1 x hx; have h2:=ha.1 y hy;rw [getD_lt (by omega),getD_lt (by omega)] at e;have i1:=lK hb (k:=x) (by omega);have i2:=lK hb (k:=y) (by omega);rw [e] at i1;exact i1.symm.trans i2
end Go.Proofs.Ma
namespace Go.Proofs.Rg
section
open Go Go.RowKit
def iy (B:Nat) (w:World) (v:Value) (us:List Value):Prop :=
 ∃ a cap,v=.slice a us.length cap/\us.length<=cap/\cap<=maxLen/\us.length<=B /\
  (0<us.length->∃ b o,a=some ⟨b,o,none⟩/\b<w.heap.size/\∀ i (h:i<us.length),w.cell? ⟨b,o+i,none⟩=some us[i])
def uL:Nat:=1000000000
def cz (w:World) (v:Value) (us:List Value):Prop:=iy uL w v us
def cZ (B:Nat) (w:World) (v:Value) (l:List Int):Prop:=iy B w v (l.map (Value.int .i64))
def Ints (w:World) (v:Value) (l:List Int):Prop:=cz w v (l.map (Value.int .i64))
def i_ (B:Nat) (w:World) (v:Value) (ll:List (List Int)):Prop :=
 ∃ us,iy B w v us/\us.length=ll.length/\∀ i (h:i<us.length) (h2:i<ll.length),cZ B w us[i] ll[i]
def Rows (w:World) (v:Value) (ll:List (List Int)):Prop:=i_ uL w v ll
theorem iy.shape {us:List Value} (h:iy B w v us) :
  ∃ a cap,v=.slice a us.length cap/\us.length<=cap/\us.length<=B/\cap<=maxLen /\
  (0<us.length->∃ b o,a=some ⟨b,o,none⟩/\b<w.heap.size/\∀ i (h:i<us.length),w.cell? ⟨b,o+i,none⟩=some us[i]):=by
 obtain ⟨a,cap,h1,h2,h3,h4,h5⟩:=h;exact ⟨a,cap,h1,h2,h4,h3,h5⟩
theorem cz.shape {w:World} {v:Value} {us:List Value} (h:cz w v us) :
  ∃ a cap,v=.slice a us.length cap/\us.length<=cap/\us.length<=1000000000/\cap<=maxLen /\
  (0<us.length->∃ b o,a=some ⟨b,o,none⟩/\b<w.heap.size/\∀ i (h:i<us.length),w.cell? ⟨b,o+i,none⟩=some us[i]):=iy.shape h
theorem cZ.shape {l:List Int} (h:cZ B w v l) :
  ∃ a cap,v=.slice a l.length cap/\l.length<=cap/\l.length<=B/\cap<=maxLen /\
  (0<l.length->∃ b o,a=some ⟨b,o,none⟩/\b<w.heap.size/\∀ i (h:i<l.length),w.cell? ⟨b,o+i,none⟩=some (.int .i64 l[i])):=by
 obtain ⟨a,cap,h1,h2,h3,h4,h5⟩:=h;simp only [List.length_map] at h1 h2 h4 h5;refine ⟨a,cap,h1,h2,h4,h3,fun h0=>?_⟩;obtain ⟨b,o,e1,e2,e3⟩:=h5 h0;exact ⟨b,o,e1,e2,fun i hi=>(e3 i hi).trans (by simp)⟩
theorem Ints.shape {w:World} {v:Value} {l:List Int} (h:Ints w v l) :
  ∃ a cap,v=.slice a l.length cap/\l.length<=cap/\l.length<=1000000000/\cap<=maxLen /\
  (0<l.length->∃ b o,a=some ⟨b,o,none⟩/\b<w.heap.size/\∀ i (h:i<l.length),w.cell? ⟨b,o+i,none⟩=some (.int .i64 l[i])):=cZ.shape h
theorem i_.shape (h:i_ B w v ll) :
  ∃ a cap,v=.slice a ll.length cap/\ll.length<=cap/\ll.length<=B/\cap<=maxLen /\
  (0<ll.length->∃ b o,a=some ⟨b,o,none⟩/\b<w.heap.size/\∀ i (h:i<ll.length),∃ u,w.cell? ⟨b,o+i,none⟩=some u/\cZ B w u ll[i]):=by
 obtain ⟨us,⟨a,cap,h1,h2,h3,h4,h5⟩,hl,h6⟩:=h;rw [hl] at h1 h2 h4;refine ⟨a,cap,h1,h2,h4,h3,fun h0=>?_⟩;obtain ⟨b,o,e1,e2,e3⟩:=h5 (by omega);exact ⟨b,o,e1,e2,fun i hi=>⟨us[i],e3 i (by omega),h6 i (by omega) hi⟩⟩
theorem Rows.shape {w:World} {v:Value} {ll:List (List Int)} (h:Rows w v ll) :
  ∃ a cap,v=.slice a ll.length cap/\ll.length<=cap/\ll.length<=1000000000/\cap<=maxLen /\
  (0<ll.length->∃ b o,a=some ⟨b,o,none⟩/\b<w.heap.size/\∀ i (h:i<ll.length),∃ u,w.cell? ⟨b,o+i,none⟩=some u/\Ints w u ll[i]):=i_.shape h
theorem iy.jj {us:List Value} (h:iy B w v us) (hb:Below w.heap.size w w'):iy B w' v us:=by
 obtain ⟨a,cap,h1,h2,h3,h4,h5⟩:=h;refine ⟨a,cap,h1,h2,h3,h4,fun h0=>?_⟩;obtain ⟨b,o,e1,e2,e3⟩:=h5 h0;exact ⟨b,o,e1,Nat.lt_of_lt_of_le e2 hb.size,fun i hi=>(hb.cell (p:=⟨b,o+i,none⟩) e2).trans (e3 i hi)⟩
theorem cz.jj {w w':World} {v:Value} {us:List Value} (h:cz w v us) (hb:Below w.heap.size w w'):cz w' v us:=iy.jj h hb
theorem cZ.jj {B:Nat} {w w':World} {v:Value} {l:List Int} (h:cZ B w v l) (hb:Below w.heap.size w w'):cZ B w' v l:=iy.jj h hb
theorem Ints.jj {w w':World} {v:Value} {l:List Int} (h:Ints w v l) (hb:Below w.heap.size w w'):Ints w' v l:=iy.jj h hb
theorem i_.jj {B:Nat} {w w':World} {v:Value} {ll:List (List Int)} (h:i_ B w v ll) (hb:Below w.heap.size w w'):i_ B w' v ll:=by
 obtain ⟨us,h1,h2,h3⟩:=h;exact ⟨us,h1.jj hb,h2,fun i a b=>(h3 i a b).jj hb⟩
theorem Rows.jj {w w':World} {v:Value} {ll:List (List Int)} (h:Rows w v ll) (hb:Below w.heap.size w w'):Rows w' v ll:=i_.jj h hb
theorem cZ.small {l:List Int} (h:cZ B w v l) (hl:l.length<=1000000000):Ints w v l:=by
 obtain ⟨a,cap,h1,h2,h3,h4,h5⟩:=h;exact ⟨a,cap,h1,h2,h3,by rw [List.length_map]; exact hl,h5⟩
theorem i_.small {B:Nat} {w:World} {v:Value} {ll:List (List Int)} (h:i_ B w v ll) (hl:ll.length<=1000000000) (hr:∀ l∈ll,l.length<=1000000000):Rows w v ll:=by
 obtain ⟨us,⟨a,cap,h1,h2,h3,h4,h5⟩,hu,h6⟩:=h;exact ⟨us,⟨a,cap,h1,h2,h3,by rw [hu]; exact hl,h5⟩,hu,fun i a b=>(h6 i a b).small (hr _ (List.getElem_mem b))⟩
theorem cz.mk {b o:Nat} {us:List Value} (hb:b<w.heap.size) (hc:us.length<=cap) (hm:cap<=maxLen) (hl:us.length<=1000000000)
  (h:∀ i (h:i<us.length),w.cell? ⟨b,o+i,none⟩=some us[i]):cz w (.slice (some ⟨b,o,none⟩) us.length cap) us :=
 ⟨_,cap,rfl,hc,hm,hl,fun _=>⟨b,o,rfl,hb,h⟩⟩
theorem Ints.mk {b o:Nat} {l:List Int} (hn:n=l.length) (hb:b<w.heap.size) (hc:l.length<=cap) (hm:cap<=maxLen) (hl:l.length<=1000000000)
  (h:∀ i (h:i<l.length),w.cell? ⟨b,o+i,none⟩=some (.int .i64 l[i])):Ints w (.slice (some ⟨b,o,none⟩) n cap) l:=by
 subst hn;refine ⟨some ⟨b,o,none⟩,cap,by simp,by simpa using hc,hm,by rw [List.length_map]; exact hl,fun _=>⟨b,o,rfl,hb,fun i hi=>?_⟩⟩
 have nt:i<l.length:=by simpa using hi
 rw [h i nt]; simp
theorem Ints.nil (w:World) (a:Option Addr) (cap:Nat) (hc:cap<=maxLen):Ints w (.slice a 0 cap) [] :=
 ⟨a,cap,rfl,by simp,hc,by simp,fun h=>by simp at h⟩
theorem Rows.nil (w:World) (a:Option Addr) (cap:Nat) (hc:cap<=maxLen):Rows w (.slice a 0 cap) [] :=
 ⟨[],⟨a,cap,rfl,by simp,hc,by simp,fun h=>by simp at h⟩,rfl,fun i h=>by simp at h⟩
theorem cz.nil (w:World) (a:Option Addr) (cap:Nat) (hc:cap<=maxLen):cz w (.slice a 0 cap) [] :=
 ⟨a,cap,rfl,by simp,hc,by simp,fun h=>by simp at h⟩
theorem cz.cR {e:TypeId} (h:w.ownsRow base e 1 v n xs) (hl:n<=1000000000):cz w v xs:=by
 obtain ⟨h1,h2⟩:=h
 rcases h2 with ⟨rfl,rfl⟩ | ⟨g,cap,cur,rfl,hg,hc,h3,h4,h5,h6⟩
 ·obtain rfl:xs=[]:=by cases xs; rfl; simp at h1
  exact cz.nil w none 0 (by simp)
 ·have hn:xs.length=n:=by omega
  subst hn;refine ⟨_,cap,rfl,h3,h4,hl,fun h0=>⟨g,0,rfl,(Array.getElem?_eq_some_iff.1 hc).1,fun i hi=>?_⟩⟩;unfold World.cell?;simp only [hc]
  have h7:cur.toList[i]?=xs[i]?:=by
   rw [<- h6,List.getElem?_take_of_lt (by omega)]
  rw [Nat.zero_add,<- Array.getElem?_toList,h7,List.getElem?_eq_getElem hi]; rfl
theorem Ints.cR {w:World} {base:Nat} {e:TypeId} {v:Value} {n:Nat} {l:List Int} (h:w.ownsRow base e 1 v n (l.map (Value.int .i64))) (hl:n<=1000000000):Ints w v l:=cz.cR h hl
theorem Rows.cR {w:World} {base:Nat} {e:TypeId} {v:Value} {n:Nat} {us:List Value} {ll:List (List Int)} (h:w.ownsRow base e 1 v n us) (hl:n<=1000000000) (hu:us.length=ll.length)
  (hr:∀ i (h:i<us.length) (h2:i<ll.length),Ints w us[i] ll[i]):Rows w v ll:=⟨us,cz.cR h hl,hu,hr⟩
theorem Ints.fR {b:Nat} {t:TypeId} {f:Nat->Value} {l:List Int} (h:w.rowIs b t n f) (hn:n=l.length) (hl:n<=1000000000)
  (hf:∀ i (h:i<l.length),f i=.int .i64 l[i]):Ints w (.slice (some ⟨b,0,none⟩) n n) l:=by
 refine Ints.mk hn h.lt (by omega) (by unfold maxLen; omega) (by omega) (fun i hi=>?_);rw [Nat.zero_add,h.cell (by omega),hf i hi]
theorem sM {w1:World} (hb:Below W.heap.size W w1):(∀ b o,b<W.heap.size->w1.cell? ⟨b,o,none⟩=W.cell? ⟨b,o,none⟩)/\(∀ b o,b<W.heap.size->w1.frozen? ⟨b,o,none⟩=W.frozen? ⟨b,o,none⟩) :=
 ⟨fun b o h=>hb.cell (p:=⟨b,o,none⟩) h,fun b o h=>hb.frozen (p:=⟨b,o,none⟩) h⟩
theorem acc (hb:Below w0.heap.size w0 w) (h:Below w.heap.size w w'):Below w0.heap.size w0 w':=hb.trans (h.mono hb.size)
theorem gI {k:IntKind} {a b:Int} (h:a=b):Ending.returned (.int k a)=.returned (.int k b):=by rw [h]
theorem ja {a b:Bool} (h:a=b):Ending.returned (.bool a)=.returned (.bool b):=by rw [h]
theorem cZ.len {l:List Int} (h:cZ B w v l):∃ n a cap,l.length=n/\v=.slice a n cap/\n<=B:=by
 obtain ⟨a,cap,h1,h2,h3,h4,h5⟩:=cZ.shape h;exact ⟨_,a,cap,rfl,h1,h3⟩
theorem Ints.len {w:World} {v:Value} {l:List Int} (h:Ints w v l):∃ n a cap,l.length=n/\v=.slice a n cap/\n<=1000000000:=cZ.len h
def NP (w:World) (v:Value) (a:List Nat):Prop:=Ints w v (Ma.ag a)
theorem NP.shape {w:World} {v:Value} {l:List Nat} (h:NP w v l) :
  ∃ a cap,v=.slice a l.length cap/\l.length<=cap/\l.length<=1000000000/\cap<=maxLen /\
  (0<l.length->∃ b o,a=some ⟨b,o,none⟩/\b<w.heap.size/\∀ i (h:i<l.length),w.cell? ⟨b,o+i,none⟩=some (.int .i64 ((l[i]:Nat):Int))):=by
 obtain ⟨a,cap,h1,h2,h3,h4,h5⟩:=Ints.shape h;rw [Ma.ar] at h1 h2 h3;refine ⟨a,cap,h1,h2,h3,h4,fun h0=>?_⟩;obtain ⟨b,o,e1,e2,e3⟩:=h5 (by rw [Ma.ar]; exact h0);exact ⟨b,o,e1,e2,fun i hi=>(e3 i (by rw [Ma.ar]; exact hi)).trans (by rw [Ma.nO])⟩
theorem NP.jj {w w':World} {v:Value} {l:List Nat} (h:NP w v l) (hb:Below w.heap.size w w'):NP w' v l:=iy.jj h hb
theorem NP.fR {w:World} {b:Nat} {t:TypeId} {n:Nat} {f:Nat->Value} {l:List Nat} (h:w.rowIs b t n f) (hn:n=l.length) (hl:n<=1000000000)
  (hf:∀ i (h:i<l.length),f i=.int .i64 ((l[i]:Nat):Int)):NP w (.slice (some ⟨b,0,none⟩) n n) l :=
 Ints.fR h (by rw [Ma.ar]; exact hn) hl (fun i hi=>by rw [hf i (by rw [<- Ma.ar]; exact hi),Ma.nO])
theorem NP.cR {w:World} {base:Nat} {e:TypeId} {v:Value} {n:Nat} {l:List Nat} (h:w.ownsRow base e 1 v n (l.map fun (x:Nat)=>Value.int .i64 (x:Int))) (hl:n<=1000000000):NP w v l :=
 Ints.cR (base:=base) (e:=e) (n:=n) (by unfold Ma.ag; rw [List.map_map]; exact h) hl
theorem aI (w:World) (cs:Array Value) (t:TypeId) (j:Nat):(w.alloc (.cells cs t)).cell? ⟨w.heap.size,j,none⟩=cs[j]?:=by
 unfold World.cell? World.alloc;simp
theorem Rows.one {l:List Int} (t:TypeId) (h:Ints w v l):Rows (w.alloc (.cells #[v] t)) (.slice (some ⟨w.heap.size,0,none⟩) 1 1) [l]:=by
 refine ⟨[v],⟨_,1,rfl,by simp,by unfold maxLen; simp,by simp [uL],fun _=>⟨w.heap.size,0,rfl,by simp,fun i hi=>?_⟩⟩,rfl,fun i h1 h2=>?_⟩
 ·have nt:i=0:=by simpa using hi
  subst nt;rw [aI]; rfl
 ·have nt:i=0:=by simpa using h1
  subst nt;exact Ints.jj h ((Below.refl _ _).alloc (Nat.le_refl _) _)
theorem Rows.two {v':Value} {l l':List Int} (t:TypeId) (h:Ints w v l) (h':Ints w v' l'):Rows (w.alloc (.cells #[v,v'] t)) (.slice (some ⟨w.heap.size,0,none⟩) 2 2) [l,l']:=by
 refine ⟨[v,v'],⟨_,2,rfl,by simp,by unfold maxLen; simp,by simp [uL],fun _=>⟨w.heap.size,0,rfl,by simp,fun i hi=>?_⟩⟩,rfl,fun i h1 h2=>?_⟩
 ·have nt:i=0∨i=1:=by simp at hi; omega
  rcases nt with rfl | rfl
  all_goals
   rw [aI]; rfl
 ·have nt:i=0∨i=1:=by simp at h1; omega
  rcases nt with rfl | rfl
  ·exact Ints.jj h ((Below.refl _ _).alloc (Nat.le_refl _) _)
  ·exact Ints.jj h' ((Below.refl _ _).alloc (Nat.le_refl _) _)
def eW (B:Nat) (v:Value):Prop:=∀ a n c,v=.slice (some a) n c->B<=a.block
def px (w w':World) (v:Value) (a:List Nat):Prop:=NP w' v a/\eW w.heap.size v
theorem eW.mono {B':Nat} (h:eW B v) (hb:B'<=B):eW B' v:=fun a n c e=>Nat.le_trans hb (h a n c e)
theorem eW.mk (B o n c:Nat):eW B (.slice (some ⟨B,o,none⟩) n c):=fun a n c e=>by simp at e; obtain ⟨⟨rfl,_⟩,_⟩:=e; exact Nat.le_refl _
theorem eW.cR {e:TypeId} {size:Nat} (h:w.ownsRow base e size v n xs):eW base v:=fun a m c ev=>by
 subst ev;exact (h.lt a.block rfl).1
def py (u:Value) (k:Option Nat):Prop:=∀ a n c,u=.slice (some a) n c->0<n->some a.block≠k
theorem NP.lt {l:List Nat} (h:NP w v l) {a:Addr} {c:Nat} (e:v=.slice (some a) n c) (hn:0<n):a.block<w.heap.size:=by
 obtain ⟨a',cap,h1,_,_,_,h5⟩:=h.shape;rw [e] at h1;simp at h1;obtain ⟨rfl,rfl,rfl⟩:=h1;obtain ⟨b,o,e1,e2,_⟩:=h5 hn;simp at e1; subst e1; exact e2
theorem NP.grown {l:List Nat} {k:Option Nat} (h:NP w v l) (ho:py v k) (hg:w.grownBy w' k):NP w' v l:=by
 have hh:=h;obtain ⟨a,cap,h1,h2,h3,h4,h5⟩:=h;refine ⟨a,cap,h1,h2,h3,h4,fun h0=>?_⟩;obtain ⟨b,o,e1,e2,e3⟩:=h5 h0;subst e1;have hne:=ho _ _ _ h1 (by simpa using h0);exact ⟨b,o,rfl,Nat.lt_of_lt_of_le e2 hg.size,fun i hi=>hg.cell (e3 i hi) hne⟩
theorem py.next {l:List Nat} {k k':Option Nat} {g:Nat} (h:py v k) (hv:NP w v l) (hk:k'=k∨k'=some g) (hg:w.heap.size<=g):py v k':=fun a n c e hn=>by
 rcases hk with rfl | rfl
 ·exact h a n c e hn
 ·have:=hv.lt e hn
  simp; omega
theorem py.fresh {k:Option Nat} (h:eW B u) (hk:∀ b,k=some b->b<B):py u k:=fun a n c e _ he=>by
 have h1:=h a n c e;have h2:=hk _ he.symm;omega
theorem py.pz {l:List Nat} {k:Option Nat} (h:NP w v l) (hw:w.heap.size<=B) (hk:∀ b,k=some b->B<=b):py v k:=fun a n c e hn he=>by
 have h1:=h.lt e hn;have h2:=hk _ he.symm;omega

structure pV (P:Program) (t e:TypeId) (z:Value) (bytes:Nat):Prop where
 ty:P.underlying t=some (.slice e)
 info:(P.info? e).map (fun i=>(i.zero,i.size,i.bytes))=some (some z,1,bytes)
 zc:z.cells.size=1
 small:bytes<=64
theorem IQ {P:Program} {W0 wr:World} {ops:Array Oper} {rest:List Oper} {o:Oper} {a:Act} {Q:Exit->Act->World->Prop} (eJ:o.guard=none) (s x:Operand) (t:TypeId)
  (ho:o.op=.call { callee:=.builtin .append,args:=#[s,x],argTypes:=#[t,t] })
  {e e':TypeId} (T:pV P t e z bytes) (fo:wr.ownsRow W0.heap.size e 1 v n xs) (hb:Below W0.heap.size W0 wr)
  (u:Value) (hu:u.oneCell'=true) (hs:a.eval s=v) (hx:a.eval x=.slice (some ⟨wr.heap.size,0,none⟩) 1 1) (hn:n<1000000000)
  (h:∀ v' w',w'.ownsRow W0.heap.size e 1 v' (n+1) (xs++[u])->Below W0.heap.size W0 w'->(wr.alloc (.cells #[u] e')).grownBy w' v.ownBlock->(v'.ownBlock=v.ownBlock∨v'.ownBlock=some (wr.heap.size+1))->(∃ ad cap,v'=.slice ad (n+1) cap)->wpList P ops Q rest (a.put o.dst v') w') :
  wpList P ops Q (o :: rest) a (wr.alloc (.cells #[u] e')):=by
 obtain ⟨i0,hi,cN,bs,dI⟩:=info_parts T.info;have dR:=hb.size;refine wpList_append_own_at (wr.alloc (.cells #[u] e')) eJ s x t ho W0.heap.size e i0 z 1 bytes T.ty hi cN bs dI T.zc (by decide) v n xs hs (fo.alloc _) ⟨wr.heap.size,0,none⟩ 1 1 [u] hx rfl (cell_one_new _ _ _) (by simpa using hu) (by unfold maxLen; omega) ?_ (by simp; omega) ?_
 ·have:(n+1)*bytes<=1000000000*64:=Nat.mul_le_mul (by omega) T.small
  omega
 ·intro v' w' h1 h2 h3 h4
  refine h v' w' h1 ((hb.alloc dR _).grown h2 (by simp; omega) (fun k hk=>(fo.lt k hk).1)) h2 (by simpa using h4) ?_;obtain ⟨_,hv⟩:=h1
  rcases hv with ⟨hv,qK⟩ | ⟨g,cap,cur,hv,_⟩
  ·omega
  ·exact ⟨_,_,hv⟩
theorem drewN {B:Nat} {a w:World} (h:Below B a w) (k:Nat):Below B a (w.drewN k):=⟨h.os,h.tape,h.output,h.size,h.block⟩
theorem bE {e:TypeId} {size:Nat} (h:w.ownsRow base e size v n xs) (hb:Below w.heap.size w w'):w'.ownsRow base e size v n xs :=
 h.kept (row:=none) ⟨hb.os,hb.tape,hb.output,hb.size,fun i hi _=>hb.block i hi⟩ (by cases v.ownBlock <;> simp)
def gX (v1 v2:Value):Prop:=∀ b,v1.ownBlock=some b->v2.ownBlock≠some b
theorem gX.nil (v:Value):gX (.slice none 0 0) v:=fun b h=>by simp [Value.ownBlock] at h
theorem gX.symm (h:gX v1 v2):gX v2 v1:=fun b h1 h2=>h b h2 h1
theorem gX.grow {S_:Value} {e:TypeId} {size g:Nat} (h:gX v1 v2) (ho:w.ownsRow base e size v2 n xs) (hv:S_.ownBlock=v1.ownBlock∨S_.ownBlock=some g) (hg:w.heap.size<=g):gX S_ v2:=fun b h1 h2=>by
 rcases hv with hv | hv
 ·exact h b (hv▸h1) h2
 ·have:=(ho.lt b h2).2
  rw [hv] at h1; simp at h1; omega
theorem gX.keep {e:TypeId} {size:Nat} (h:gX v1 v2) (ho:w.ownsRow base e size v2 n xs) (hg:w.grownBy w' v1.ownBlock):w'.ownsRow base e size v2 n xs:=by
 refine ho.kept hg ?_
 cases hv:v2.ownBlock with
 | none=>exact .inl rfl
 | some b=>exact .inr (fun e=>h b e.symm hv)
def j1 (w:World) (us:List Value) (gs:List (List Nat)):Prop:=us.length=gs.length/\∀ i (h:i<us.length) (h2:i<gs.length),NP w us[i] gs[i]
theorem j1.nil (w:World):j1 w [] []:=⟨rfl,fun i h=>by simp at h⟩
theorem j1.jj {w w':World} {us:List Value} {gs:List (List Nat)} (h:j1 w us gs) (hb:Below w.heap.size w w'):j1 w' us gs:=⟨h.1,fun i a b=>(h.2 i a b).jj hb⟩
theorem j1.snoc {us:List Value} {g:List Nat} (h:j1 w us gs) (hu:NP w u g):j1 w (us++[u]) (gs++[g]):=by
 refine ⟨by simp [h.1],fun i a b=>?_⟩;have hl:=h.1
 by_cases hi:i<us.length
 ·rw [List.getElem_append_left hi,List.getElem_append_left (by omega)]; exact h.2 i hi (by omega)
 ·have jQ:i=us.length:=by simp at a; omega
  have e1:(us++[u])[i]=u:=by rw [List.getElem_append_right (by omega)]; simp
  have e2:(gs++[g])[i]=g:=by rw [List.getElem_append_right (by omega)]; simp
  rw [e1,e2]; exact hu
theorem j1.rows {us:List Value} (h:j1 w us gs) (hv:cz w v us):Rows w v (gs.map Ma.ag) :=
 ⟨us,hv,by simp [h.1],fun i a b=>by simp only [List.getElem_map]; exact h.2 i a (by simpa using b)⟩
def m_ (us:List Value) (k:Option Nat):Prop:=∀ u∈us,py u k
theorem m_.nil (k:Option Nat):m_ [] k:=fun u h=>by simp at h
theorem m_.snoc {us:List Value} {k:Option Nat} (h:m_ us k) (hu:py u k):m_ (us++[u]) k:=fun x hx=>by
 rcases List.mem_append.1 hx with hx | hx
 ·exact h x hx
 ·obtain rfl:x=u:=by simpa using hx
  exact hu
theorem j1.grown {w w':World} {us:List Value} {gs:List (List Nat)} {k:Option Nat} (h:j1 w us gs) (ho:m_ us k) (hg:w.grownBy w' k):j1 w' us gs :=
 ⟨h.1,fun i a b=>(h.2 i a b).grown (ho _ (List.getElem_mem a)) hg⟩
theorem m_.next {w:World} {us:List Value} {gs:List (List Nat)} {k k':Option Nat} {g:Nat} (h:m_ us k) (he:j1 w us gs) (hk:k'=k∨k'=some g) (hg:w.heap.size<=g):m_ us k':=fun u hu=>by
 obtain ⟨i,hi,rfl⟩:=List.getElem_of_mem hu;exact (h _ hu).next (he.2 i hi (by rw [<- he.1]; exact hi)) hk hg
def lq (w:World) (v:Value) (gs:List (List Nat)):Prop:=Rows w v (gs.map Ma.ag)
theorem lq.jj {w w':World} {v:Value} {gs:List (List Nat)} (h:lq w v gs) (hb:Below w.heap.size w w'):lq w' v gs:=Rows.jj h hb
theorem lq.shape {w:World} {v:Value} {gs:List (List Nat)} (h:lq w v gs) :
  ∃ a cap,v=.slice a gs.length cap/\gs.length<=cap/\gs.length<=1000000000/\cap<=maxLen /\
  (0<gs.length->∃ b o,a=some ⟨b,o,none⟩/\b<w.heap.size/\∀ i (h:i<gs.length),∃ u,w.cell? ⟨b,o+i,none⟩=some u/\NP w u gs[i]):=by
 obtain ⟨a,cap,h1,h2,h3,h4,h5⟩:=Rows.shape h;rw [List.length_map] at h1 h2 h3;refine ⟨a,cap,h1,h2,h3,h4,fun h0=>?_⟩;obtain ⟨b,o,e1,e2,e3⟩:=h5 (by simpa using h0);refine ⟨b,o,e1,e2,fun i hi=>?_⟩;obtain ⟨u,q1,q2⟩:=e3 i (by simpa using hi);exact ⟨u,q1,by rw [List.getElem_map] at q2; exact q2⟩
theorem NP.len {w:World} {v:Value} {l:List Nat} (h:NP w v l):∃ n a cap,l.length=n/\v=.slice a n cap/\n<=1000000000:=by
 obtain ⟨n,a,cap,h1,h2,h3⟩:=Ints.len h;exact ⟨n,a,cap,by rw [<- h1,Ma.ar],h2,h3⟩
theorem nP {P:Program} {ops:Array Oper} {Q:Exit->Act->World->Prop} {i:Nat} {o:Oper} {K:Act->World->Prop} {a:Act} (d:Option Tmp) (hi:ops[i]?=some o) (hd:o.dst=d) (hw:Region.wanted o (yielded ops a.tmps)=true)
  (hr:(execOp a.eval o).run P w=.ok (.value v) w') (h:K (a.put d v) w'):wpOp P ops Q i K a w:=by
 subst hd;unfold wpOp;simp only [hi,hw,if_true]
 left
 unfold Oper.wp;rw [hr];exact h
theorem vW {P:Program} {ops:Array Oper} {Q:Exit->Act->World->Prop} {i:Nat} {o:Oper} {K:Act->World->Prop} {a:Act} (d:Option Tmp) (hi:ops[i]?=some o) (hd:o.dst=d) (hw:Region.wanted o (yielded ops a.tmps)=true)
  (hr:(execOp a.eval o).run P w=.ok .skip w') (h:K (a.put d undef) w'):wpOp P ops Q i K a w:=by
 subst hd;unfold wpOp;simp only [hi,hw,if_true]
 left
 unfold Oper.wp;rw [hr];exact h
theorem aC {P:Program} {o:Oper} {a:Act} (t:TypeId) (n:Nat) (x:Operand) (ho:o.op=.buildSlice t n #[(0,x)]) (xv:Value) (hx:a.eval x=xv)
  (hr:(Instr.buildSlice t n #[(0,xv)]).run P w=.ok v w'):(execOp a.eval o).run P w=.ok (.value v) w':=by
 unfold execOp;simp [ho,hx,hr,Result.andThen]
theorem cw {P:Program} {o:Oper} {a:Act} (x:Operand) (ho:o.op=.assign x) (hx:a.eval x=v):(execOp a.eval o).run P w=.ok (.value v) w:=by
 unfold execOp;simp [ho,hx]
theorem cI {P:Program} {o:Oper} {a:Act} (x:Operand) (ho:o.op=.move x) (hx:a.eval x=v):(execOp a.eval o).run P w=.ok (.value v) w:=by
 unfold execOp;simp [ho,hx]
theorem bq {P:Program} {o:Oper} {a:Act} {cs:Array Value} (t:TypeId) (x:Operand) (ho:o.op=.box t x) (hx:a.eval x=.agg cs) :
  (execOp a.eval o).run P w=.ok (.value (.pointer (some ⟨w.heap.size,0,none⟩))) (w.alloc (.cells cs t)):=by
 unfold execOp;simp [ho,hx,Instr.box,newVar,newRow,Value.cells,Result.andThen]
theorem cn {e:TypeId} {size:Nat} (h:w.ownsRow base e size v n xs):∃ a cap,v=.slice a n cap:=by
 obtain ⟨_,hv⟩:=h
 rcases hv with ⟨hv,qK⟩ | ⟨g,cap,cur,hv,_⟩
 ·exact ⟨none,0,by rw [hv,qK]⟩
 ·exact ⟨_,_,hv⟩
end
section
theorem _root_.a7 (v : Value) {P : Program} {o : Oper} {a : Act} (x : Operand) (ho : o.op = .move x) (hx : a.eval x = v) : (execOp a.eval o).run P w = .ok (.value v) w := cI (v := v) x ho hx
theorem _root_.c6 (v : Value) {P : Program} {o : Oper} {a : Act} (x : Operand) (ho : o.op = .assign x) (hx : a.eval x = v) : (execOp a.eval o).run P w = .ok (.value v) w := cw (v := v) x ho hx
theorem _root_.d3 {P : Program} {ops : Array Oper} {Q : Exit -> Act -> World -> Prop} {a : Act} {id : Nat} (h : wpList P ops Q ops.toList a w) : (Code.region id ops false).wp P Q a w := wp_region_list h
end
end Go.Proofs.Rg
theorem U {p : Prop} (h : p) : Go.RowKit.Hid p := h
namespace Go.Proofs.Jm
open Go Go.RowKit
open Go.ChangeMaps
structure KT (P:Program) (t k e v:TypeId) (z:Value):Prop where
 ht:P.underlying t=some (.map k v)
 hk:P.underlying k=some (.array 2 e)
 he:P.underlying e=some (.int .i64)
 hs:∀ w,(sizeOf e).run P w=.ok 1 w
 hz:∀ w,(zeroValue v).run P w=.ok z w
section
variable {P:Program} {t k e v:TypeId} {z:Value}
end
end Go.Proofs.Jm
namespace Go.Proofs.Rg
section
open Go Go.RowKit
theorem fq {P:Program} {o:Oper} {a:Act} (t:TypeId) (x:Operand) (ho:o.op=.load t x) (ad:Addr) (hx:a.eval x=.pointer (some ad)) (hr:(loadVar t ad).run P w=.ok v w) :
  (execOp a.eval o).run P w=.ok (.value v) w:=by
 unfold execOp;simp only [ho,hx,Instr.loadAt,Instr.sureAddr,Sem.run_bind,Sem.run_pure,Result.andThen_ok,hr]
theorem sN {P:Program} {ops:Array Oper} {rest:List Oper} {o:Oper} {a:Act} {Q:Exit->Act->World->Prop} (d:Option Tmp) (hg:o.guard=none) (hd:o.dst=d)
  (hr:(execOp a.eval o).run P w=.ok (.value v) w') (h:wpList P ops Q rest (a.put d v) w'):wpList P ops Q (o :: rest) a w:=by
 subst hd;refine wpList_plain hg fun K hK=>?_;unfold Oper.wp;rw [hr];exact hK _ _ h
theorem aD {P:Program} {ops:Array Oper} {rest:List Oper} {o:Oper} {a:Act} {Q:Exit->Act->World->Prop} (d:Option Tmp) (hg:o.guard=none) (hd:o.dst=d)
  (hr:(execOp a.eval o).run P w=.ok .skip w') (h:wpList P ops Q rest (a.put d undef) w'):wpList P ops Q (o :: rest) a w:=by
 subst hd;refine wpList_plain hg fun K hK=>?_;unfold Oper.wp;rw [hr];exact hK _ _ h
end
section
open Go.RowKit
theorem _root_.d4 {P : Program} {ops : Array Oper} {rest : List Oper} {o : Oper} {a : Act} {Q : Exit -> Act -> World -> Prop} (d : Nat)
    (hr : (execOp a.eval o).run P w = .ok (.value v) w') (h : wpList P ops Q rest (a.put (some d) v) w') (hg : o.guard = none := by exact rfl) (hd : o.dst = some d := by exact rfl) : wpList P ops Q (o :: rest) a w := sN (some d) hg hd hr h
theorem _root_.d5 {P : Program} {ops : Array Oper} {rest : List Oper} {o : Oper} {a : Act} {Q : Exit -> Act -> World -> Prop} (d : Nat) (v : Value)
    (h : wpList P ops Q rest (a.put (some d) v) w) {x : Operand} (ho : o.op = .move x := by exact rfl) (hx : a.eval x = v := by exact rfl) (hg : o.guard = none := by exact rfl) (hd : o.dst = some d := by exact rfl) : wpList P ops Q (o :: rest) a w := sN (some d) hg hd (cI (v := v) x ho hx) h
theorem _root_.d6 {P : Program} {ops : Array Oper} {rest : List Oper} {o : Oper} {a : Act} {Q : Exit -> Act -> World -> Prop} (d : Nat) (v : Value)
    (h : wpList P ops Q rest (a.put (some d) v) w) {x : Operand} (ho : o.op = .assign x := by exact rfl) (hx : a.eval x = v := by exact rfl) (hg : o.guard = none := by exact rfl) (hd : o.dst = some d := by exact rfl) : wpList P ops Q (o :: rest) a w := sN (some d) hg hd (cw (v := v) x ho hx) h
end
section
open Go Go.RowKit
structure Kp (M:Nat->Prop) (w w':World):Prop where
 os:w'.os=w.os
 tape:w'.tape=w.tape
 output:w'.output=w.output
 size:w.heap.size<=w'.heap.size
 block:∀ k,k<w.heap.size->¬ M k->w'.heap[k]?=w.heap[k]?
theorem Kp.refl (M:Nat->Prop) (w:World):Kp M w w:=⟨rfl,rfl,rfl,Nat.le_refl _,fun _ _ _=>rfl⟩
theorem Kp.az (h:Below w.heap.size w w'):Kp M w w':=⟨h.os,h.tape,h.output,h.size,fun k hk _=>h.block k hk⟩
theorem Kp.cE {row:Option Nat} (h:w.grownBy w' row) (hM:∀ k,row=some k->M k):Kp M w w' :=
 ⟨h.os,h.tape,h.output,h.size,fun k hk hn=>h.block k hk (fun e=>hn (hM k e.symm))⟩
theorem Kp.aL {a:Addr} (hM:M a.block):Kp M w (w.setCell a v) :=
 ⟨rfl,rfl,rfl,by simp [World.setCell],fun k _ hn=>Below.heap_setCell _ _ _ _ (fun e=>hn (e▸hM))⟩
theorem Kp.trans {M M':Nat->Prop} {w w' w'':World} (h:Kp M w w') (h':Kp M' w' w'') (hM:∀ k,k<w.heap.size->M' k->M k):Kp M w w'' :=
 ⟨h'.os.trans h.os,h'.tape.trans h.tape,h'.output.trans h.output,Nat.le_trans h.size h'.size,
  fun k hk hn=>(h'.block k (Nat.lt_of_lt_of_le hk h.size) (fun e=>hn (hM k hk e))).trans (h.block k hk hn)⟩
theorem Kp.iR {M':Nat->Prop} (h:Kp M w w') (hM:∀ k,M k->M' k):Kp M' w w':=⟨h.os,h.tape,h.output,h.size,fun k hk hn=>h.block k hk (fun e=>hn (hM k e))⟩
theorem Kp.jj (hb:Below w0.heap.size w0 w) (h:Kp M w w') (hM:∀ k,M k->w0.heap.size<=k):Below w0.heap.size w0 w' :=
 hb.trans ⟨h.os,h.tape,h.output,h.size,fun k hk=>h.block k (Nat.lt_of_lt_of_le hk hb.size) (fun e=>by have:=hM k e; omega)⟩
def cB (F:Nat->Prop) (w:World) (v:Value) (us:List Value):Prop :=
 ∃ a cap,v=.slice a us.length cap/\us.length<=cap/\cap<=maxLen/\us.length<=1000000000 /\
  (0<us.length->∃ b o,a=some ⟨b,o,none⟩/\b<w.heap.size/\F b/\∀ i (h:i<us.length),w.cell? ⟨b,o+i,none⟩=some us[i])
def FI (F:Nat->Prop) (w:World) (v:Value) (l:List Int):Prop:=cB F w v (l.map (Value.int .i64))
def bx (F:Nat->Prop) (w:World) (us:List Value) (ll:List (List Int)):Prop:=us.length=ll.length/\∀ i (h:i<us.length) (h2:i<ll.length),FI F w us[i] ll[i]
def aH (F:Nat->Prop) (w:World) (v:Value) (ll:List (List Int)):Prop:=∃ us,cB F w v us/\bx F w us ll
def bG (F:Nat->Prop) (w:World) (us:List Value) (ll:List (List (List Int))):Prop:=us.length=ll.length/\∀ i (h:i<us.length) (h2:i<ll.length),aH F w us[i] ll[i]
theorem cB.kp {us:List Value} (h:cB F w v us) (hk:Kp M w w') (hM:∀ k,F k->¬ M k):cB F w' v us:=by
 obtain ⟨a,cap,h1,h2,h3,h4,h5⟩:=h;refine ⟨a,cap,h1,h2,h3,h4,fun h0=>?_⟩;obtain ⟨b,o,e1,e2,e3,e4⟩:=h5 h0;exact ⟨b,o,e1,Nat.lt_of_lt_of_le e2 hk.size,e3,fun i hi=>(World.cell?_of_block (w:=w) (a:=⟨b,o+i,none⟩) (hk.block b e2 (hM b e3))).trans (e4 i hi)⟩
theorem cB.mono {us:List Value} (h:cB F w v us) (hF:∀ k,F k->F' k):cB F' w v us:=by
 obtain ⟨a,cap,h1,h2,h3,h4,h5⟩:=h;refine ⟨a,cap,h1,h2,h3,h4,fun h0=>?_⟩;obtain ⟨b,o,e1,e2,e3,e4⟩:=h5 h0;exact ⟨b,o,e1,e2,hF b e3,e4⟩
theorem cB.zJ {us:List Value} (h:cB F w v us):cz w v us:=by
 obtain ⟨a,cap,h1,h2,h3,h4,h5⟩:=h;refine ⟨a,cap,h1,h2,h3,h4,fun h0=>?_⟩;obtain ⟨b,o,e1,e2,e3,e4⟩:=h5 h0;exact ⟨b,o,e1,e2,e4⟩
theorem cB.of {us:List Value} (h:cz w v us) (hF:∀ b,v.ownBlock=some b->F b):cB F w v us:=by
 obtain ⟨a,cap,h1,h2,h3,h4,h5⟩:=h;refine ⟨a,cap,h1,h2,h3,h4,fun h0=>?_⟩;obtain ⟨b,o,e1,e2,e4⟩:=h5 h0;exact ⟨b,o,e1,e2,hF b (by rw [h1,e1]; rfl),e4⟩
theorem cB.shape {us:List Value} (h:cB F w v us):∃ a cap,v=.slice a us.length cap:=by
 obtain ⟨a,cap,h1,_⟩:=h; exact ⟨a,cap,h1⟩
theorem FI.kp {F M:Nat->Prop} {w w':World} {v:Value} {l:List Int} (h:FI F w v l) (hk:Kp M w w') (hM:∀ k,F k->¬ M k):FI F w' v l:=cB.kp h hk hM
theorem FI.mono {F F':Nat->Prop} {w:World} {v:Value} {l:List Int} (h:FI F w v l) (hF:∀ k,F k->F' k):FI F' w v l:=cB.mono h hF
theorem FI.ints {l:List Int} (h:FI F w v l):Ints w v l:=cB.zJ h
theorem FI.len {F:Nat->Prop} {w:World} {v:Value} {l:List Int} (h:FI F w v l):∃ n a cap,l.length=n/\v=.slice a n cap/\n<=1000000000:=Ints.len h.ints
theorem bx.kp {F M:Nat->Prop} {w w':World} {us:List Value} {ll:List (List Int)} (h:bx F w us ll) (hk:Kp M w w') (hM:∀ k,F k->¬ M k):bx F w' us ll:=⟨h.1,fun i a b=>(h.2 i a b).kp hk hM⟩
theorem bx.mono {F F':Nat->Prop} {w:World} {us:List Value} {ll:List (List Int)} (h:bx F w us ll) (hF:∀ k,F k->F' k):bx F' w us ll:=⟨h.1,fun i a b=>(h.2 i a b).mono hF⟩
theorem bx.nil (F:Nat->Prop) (w:World):bx F w [] []:=⟨rfl,fun i h=>by simp at h⟩
theorem bx.app {us vs:List Value} {mm:List (List Int)} (h:bx F w us ll) (h':bx F w vs mm):bx F w (us++vs) (ll++mm):=by
 refine ⟨by simp [h.1,h'.1],fun i a b=>?_⟩;have hl:=h.1
 by_cases hi:i<us.length
 ·rw [List.getElem_append_left hi,List.getElem_append_left (by omega)]; exact h.2 i hi (by omega)
 ·have yF:¬ i<ll.length:=by omega
  rw [List.getElem_append_right (by omega),List.getElem_append_right (by omega)];have:=h'.2 (i - us.length) (by simp at a; omega) (by simp at b; omega);simp only [hl] at this ⊢;exact this
theorem bx.one {l:List Int} (h:FI F w u l):bx F w [u] [l]:=by
 refine ⟨rfl,fun i a b=>?_⟩
 have:i=0:=by simpa using a
 subst this; exact h
theorem bx.take {F:Nat->Prop} {w:World} {us:List Value} {ll:List (List Int)} (h:bx F w us ll) (k:Nat):bx F w (us.take k) (ll.take k):=by
 refine ⟨by simp [h.1],fun i a b=>?_⟩;rw [List.getElem_take,List.getElem_take];exact h.2 i (by simp at a; omega) (by simp at b; omega)
theorem bx.drop {F:Nat->Prop} {w:World} {us:List Value} {ll:List (List Int)} (h:bx F w us ll) (k:Nat):bx F w (us.drop k) (ll.drop k):=by
 refine ⟨by simp [h.1],fun i a b=>?_⟩;rw [List.getElem_drop,List.getElem_drop];exact h.2 (k+i) (by simp at a; omega) (by simp at b; omega)
theorem aH.kp {F M:Nat->Prop} {w w':World} {v:Value} {ll:List (List Int)} (h:aH F w v ll) (hk:Kp M w w') (hM:∀ k,F k->¬ M k):aH F w' v ll:=by
 obtain ⟨us,h1,h2⟩:=h; exact ⟨us,h1.kp hk hM,h2.kp hk hM⟩
theorem aH.mono {F F':Nat->Prop} {w:World} {v:Value} {ll:List (List Int)} (h:aH F w v ll) (hF:∀ k,F k->F' k):aH F' w v ll:=by
 obtain ⟨us,h1,h2⟩:=h; exact ⟨us,h1.mono hF,h2.mono hF⟩
theorem aH.rows (h:aH F w v ll):Rows w v ll:=by
 obtain ⟨us,h1,h2⟩:=h; exact ⟨us,h1.zJ,h2.1,fun i a b=>(h2.2 i a b).ints⟩
theorem aH.shape (h:aH F w v ll) :
  ∃ a cap,v=.slice a ll.length cap/\ll.length<=cap/\ll.length<=1000000000 /\
  (0<ll.length->∃ b o,a=some ⟨b,o,none⟩/\b<w.heap.size/\F b/\∀ i (h:i<ll.length),∃ u,w.cell? ⟨b,o+i,none⟩=some u/\FI F w u ll[i]):=by
 obtain ⟨us,⟨a,cap,h1,h2,h3,h4,h5⟩,hl,h6⟩:=h;rw [hl] at h1 h2 h4;refine ⟨a,cap,h1,h2,h4,fun h0=>?_⟩;obtain ⟨b,o,e1,e2,e3,e4⟩:=h5 (by omega);exact ⟨b,o,e1,e2,e3,fun i hi=>⟨us[i],e4 i (by omega),h6 i (by omega) hi⟩⟩
theorem bG.kp {F M:Nat->Prop} {w w':World} {us:List Value} {ll:List (List (List Int))} (h:bG F w us ll) (hk:Kp M w w') (hM:∀ k,F k->¬ M k):bG F w' us ll:=⟨h.1,fun i a b=>(h.2 i a b).kp hk hM⟩
theorem bG.mono {F F':Nat->Prop} {w:World} {us:List Value} {ll:List (List (List Int))} (h:bG F w us ll) (hF:∀ k,F k->F' k):bG F' w us ll:=⟨h.1,fun i a b=>(h.2 i a b).mono hF⟩
theorem bG.snoc {us:List Value} {ll:List (List (List Int))} {m:List (List Int)} (h:bG F w us ll) (hu:aH F w u m):bG F w (us++[u]) (ll++[m]):=by
 refine ⟨by simp [h.1],fun i a b=>?_⟩;have hl:=h.1
 by_cases hi:i<us.length
 ·rw [List.getElem_append_left hi,List.getElem_append_left (by omega)]; exact h.2 i hi (by omega)
 ·have jQ:i=us.length:=by simp at a; omega
  subst jQ
  have e1:(us++[u])[us.length]=u:=by rw [List.getElem_append_right (Nat.le_refl _)]; simp
  have e2:(ll++[m])[us.length]'b=m:=by
   have:us.length=ll.length:=hl;rw [List.getElem_append_right (by omega)]; simp
  rw [e1,e2]; exact hu
theorem FI.pz {l:List Int} (h:Ints w v l):FI (fun k=>k<w.heap.size) w v l:=by
 obtain ⟨a,cap,h1,h2,h3,h4,h5⟩:=h;refine ⟨a,cap,h1,h2,h3,h4,fun h0=>?_⟩;obtain ⟨b,o,e1,e2,e4⟩:=h5 h0;exact ⟨b,o,e1,e2,e2,e4⟩
theorem aH.pz {w:World} {v:Value} {ll:List (List Int)} (h:Rows w v ll):aH (fun k=>k<w.heap.size) w v ll:=by
 obtain ⟨us,⟨a,cap,h1,h2,h3,h4,h5⟩,h6,h7⟩:=h;refine ⟨us,⟨a,cap,h1,h2,h3,h4,fun h0=>?_⟩,h6,fun i p q=>FI.pz (h7 i p q)⟩;obtain ⟨b,o,e1,e2,e4⟩:=h5 h0;exact ⟨b,o,e1,e2,e2,e4⟩
theorem zK {e:TypeId} {us:List Value} {L:List (List Int)} (hr:w.ownsRow base e 1 v n us) (he:bx F w us L) :
  n=L.length/\∃ a cap,v=.slice a L.length cap/\L.length<=cap/\cap<=maxLen/\(0<L.length->∃ g,a=some ⟨g,0,none⟩/\g<w.heap.size/\∀ i (h:i<L.length),∃ u,w.cell? ⟨g,i,none⟩=some u/\FI F w u L[i]):=by
 have hh:=hr;obtain ⟨h1,h2⟩:=hr
 have hn:n=L.length:=by have:=he.1; omega
 refine ⟨hn,?_⟩;subst hn
 rcases h2 with ⟨rfl,h0⟩ | ⟨g,cap,cur,rfl,hg,hc,h3,h4,h5,h6⟩
 ·exact ⟨none,0,by rw [h0],by omega,by omega,fun h=>by omega⟩
 ·refine ⟨_,cap,rfl,h3,h4,fun _=>⟨g,rfl,(Array.getElem?_eq_some_iff.1 hc).1,fun i hi=>?_⟩⟩
  have jQ:i<us.length:=by have:=he.1; omega
  refine ⟨us[i],?_,he.2 i jQ hi⟩;have:=hh.cells (g:=g) rfl i us[i] (List.getElem?_eq_getElem jQ);unfold Addr.add at this
  split at this
  ·rename_i h0; subst h0; exact this
  ·simpa using this
theorem bx.LW {us:List Value} (h:bx F w us ll):∀ u∈us,u.oneCell'=true:=fun u hu=>by
 obtain ⟨i,hi,rfl⟩:=List.getElem_of_mem hu;obtain ⟨n,a,c,_,e,_⟩:=(h.2 i hi (by rw [<- h.1]; exact hi)).len;rw [e]; rfl
variable {P:Program} {md:Region.Mode} {ops:Array Oper} {Q:Exit->Act->World->Prop} {S:Array Bool->World->Prop}
def Any (P:Program) (md:Region.Mode) (ops:Array Oper) (Q:Exit->Act->World->Prop) (S:Array Bool->World->Prop):Nat->Array Bool->Act->World->Prop
 | 0,l,a,w=>Region.ready md ops l=[]/\Q .normal a w
 | n+1,l,a,w=>(Region.ready md ops l=[]->Q .normal a w) /\
   ∀ i,i∈Region.ready md ops l->wpOp P ops Q i (fun a' w'=>S (l.setIfInBounds i true) w'/\Any P md ops Q S n (l.setIfInBounds i true) a' w') a w
theorem Any.plain:∀ (n:Nat) (l:Array Bool) (a:Act) (w:World),Any P md ops Q S n l a w->wpAny P md ops Q n l a w
 | 0,_,_,_,h=>h
 | n+1,_,_,_,h=>⟨h.1,fun i hi=>wpOp_mono (fun a' w' q=>Any.plain n _ a' w' q.2) (h.2 i hi)⟩
theorem Any.begin {id:Nat} {a:Act} (hm:P.follows .mixedOrders=true) (h:Any P .any ops Q S ops.size (Array.replicate ops.size false) a w.drew):(Code.region id ops true).wp P Q a w :=
 wp_region_any hm (Any.plain _ _ _ _ h)
theorem Any.all {rs:List Nat} {l:Array Bool} {a:Act} (hr:Region.ready md ops l=rs) (hne:rs≠[])
  (h:∀ i∈rs,wpOp P ops Q i (fun a' w'=>S (l.setIfInBounds i true) w'/\Any P md ops Q S n (l.setIfInBounds i true) a' w') a w):Any P md ops Q S (n+1) l a w :=
 ⟨fun h0=>absurd (hr▸h0) hne,fun i hi=>h i (hr▸hi)⟩
theorem Any.one {i:Nat} {l:Array Bool} {a:Act} (hr:Region.ready md ops l=[i])
  (h:wpOp P ops Q i (fun a' w'=>S (l.setIfInBounds i true) w'/\Any P md ops Q S n (l.setIfInBounds i true) a' w') a w):Any P md ops Q S (n+1) l a w :=
 Any.all hr (by simp) (fun j hj=>by
  obtain rfl:j=i:=by simpa using hj
  exact h)
theorem Any.two {i:Nat} {l:Array Bool} {a:Act} (hr:Region.ready md ops l=[i,j])
  (h:wpOp P ops Q i (fun a' w'=>S (l.setIfInBounds i true) w'/\Any P md ops Q S n (l.setIfInBounds i true) a' w') a w)
  (h':wpOp P ops Q j (fun a' w'=>S (l.setIfInBounds j true) w'/\Any P md ops Q S n (l.setIfInBounds j true) a' w') a w):Any P md ops Q S (n+1) l a w :=
 Any.all hr (by simp) (fun k hk=>by
  rw [List.mem_cons,List.mem_singleton] at hk
  rcases hk with rfl | rfl
  ·exact h
  ·exact h')
theorem Any.done {l:Array Bool} {a:Act} (hr:Region.ready md ops l=[]) (h:Q .normal a w):∀ n,Any P md ops Q S n l a w
 | 0=>⟨hr,h⟩
 | n+1=>⟨fun _=>h,by rw [hr]; exact fun i hi=>by simp at hi⟩
def gA (t:Nat) (T:World->Prop) (l:Array Bool) (w:World):Prop:=l.getD t false=true∨T w
theorem Any.first {i t:Nat} {oi ot:Oper} {T:World->Prop} (hi:ops[i]?=some oi) (uh:∀ (j:Nat) (o:Oper) cs b,ops[j]?=some o->o.op≠.select cs b)
  (hQ:∀ c a w,Q (.panic c) (a.put oi.dst v) w->Q (.panic c) a w) (nu:t≠i) (ht:ops[t]?=some ot) (hw:∃ e∈ot.after,Region.binds md e=true/\e.on=i) :
  ∀ (n:Nat) (l:Array Bool) (a:Act) (w:World),l.getD t false=false ->
   (∀ j oj,ops[j]?=some oj->j≠i->l.getD j true=false->(∀ e∈oj.after,Region.binds md e=true->e.on≠i)->oi.apart ops oj=true) ->
   i∈Region.ready md ops l->YieldsIf P ops T oi v a->T w ->
   Any P md ops Q (gA t T) n (l.setIfInBounds i true) (a.put oi.dst v) w->Any P md ops Q (gA t T) (n+1) l a w:=by
 intro n
 induction n with
 | zero =>
  intro l a w _ _ hr hy hT H;refine ⟨fun h0=>absurd (h0▸hr) (by simp),fun j hj=>?_⟩
  by_cases jd:j=i
  ·subst jd; exact hy.wpOp hi hT ⟨.inr hT,H⟩
  ·have jC:=ready_mono hj jd
   rw [H.1] at jC;simp at jC
 | succ n ih =>
  intro l a w hl nQ hr hy hT H;refine ⟨fun h0=>absurd (h0▸hr) (by simp),fun j hj=>?_⟩
  by_cases jd:j=i
  ·subst jd; exact hy.wpOp hi hT ⟨.inr hT,H⟩
  obtain ⟨vX,oj,pW,qL⟩:=mem_ready.1 hj;have mi:=(mem_ready.1 hr).1
  have iN:∀ e∈oj.after,Region.binds md e=true->e.on≠i:=by
   intro e he hb heq;have h1:=qL e he hb;rw [heq] at h1
   by_cases aE:i<l.size
   ·simp [aE] at h1 mi; rw [mi] at h1; cases h1
   ·simp [Array.getElem?_eq_none (Nat.le_of_not_lt aE)] at h1
  have Ta:j≠t:=by
   rintro rfl;obtain ⟨e,he,hb,heq⟩:=hw;rw [ht] at pW; cases pW;exact iN e he hb heq
  have mj:=wpOp_putIf pW (nQ j oj pW jd vX iN) (fun cs b=>uh i oi cs b hi) (fun cs b=>uh j oj cs b pW) hQ hy (H.2 j (ready_mono hj jd));refine wpOp_mono (fun a' w' q=>?_) mj;obtain ⟨AB,Cv,Cw⟩:=q;rw [Array.setIfInBounds_comm _ _ (Ne.symm jd)] at Cv Cw
  have yF:(l.setIfInBounds j true).getD i true=false:=by rw [getD_set_ne true jd]; exact mi
  have lr:(l.setIfInBounds j true).getD t false=false:=by rw [getD_set_ne false Ta]; exact hl
  have Ws:T w':=by
   rcases Cv with h | h
   ·rw [getD_set_ne false (Ne.symm nu),lr] at h; cases h
   ·exact h
  refine ⟨.inr Ws,ih _ _ _ lr ?_ (ready_mono hr (Ne.symm jd)) AB Ws Cw⟩;intro k ok hk AD Cx Cy;refine nQ k ok hk AD ?_ Cy
  by_cases Cz:j=k
  ·rw [<- Cz]; exact vX
  ·rwa [getD_set_ne true Cz] at Cx
theorem Any.take {i t:Nat} {oi:Oper} {T:World->Prop} {l:Array Bool} {a:Act} (d:Option Tmp) (hi:ops[i]?=some oi) (hd:oi.dst=d)
  (hs:Region.noSelect ops=true) (hf:Region.free md ops l i=true) (hr:(Region.ready md ops l).contains i=true)
  (hQ:∀ c a w,Q (.panic c) (a.put d v) w->Q (.panic c) a w) (nu:(t == i)=false) (hw:Region.waitsFor md ops t i=true) (hl:l.getD t false=false)
  (hy:YieldsIf P ops T oi v a) (hT:T w)
  (h:Any P md ops Q (gA t T) n (l.setIfInBounds i true) (a.put d v) w):Any P md ops Q (gA t T) (n+1) l a w:=by
 subst hd;obtain ⟨ot,ht,hw⟩:=Region.waitsFor_spec hw;exact Any.first hi (Region.noSelect_spec hs) hQ (by simpa using nu) ht hw n l a w hl (Region.free_spec hi hf) (by simpa using hr) hy hT h
variable {P:Program} {md:Region.Mode} {ops:Array Oper} {Q:Exit->Act->World->Prop}
theorem gA.set {t i:Nat} {T:World->Prop} {l:Array Bool} (nu:t≠i):gA t T (l.setIfInBounds i true) w↔gA t T l w:=by
 unfold gA;rw [getD_set_ne false (Ne.symm nu)]
theorem Any.step {i t:Nat} {oi:Oper} {v:Value} {T:World->Prop} {n:Nat} {l:Array Bool} {a:Act} {w w':World} (d:Option Tmp) (hi:ops[i]?=some oi) (hd:oi.dst=d) (hw:Region.wanted oi (yielded ops a.tmps)=true)
  (hr:(execOp a.eval oi).run P w=.ok (.value v) w') (hT:gA t T (l.setIfInBounds i true) w') (h:Any P md ops Q (gA t T) n (l.setIfInBounds i true) (a.put d v) w') :
  wpOp P ops Q i (fun a' w'=>gA t T (l.setIfInBounds i true) w'/\Any P md ops Q (gA t T) n (l.setIfInBounds i true) a' w') a w:=nP d hi hd hw hr ⟨hT,h⟩
theorem Any.skip {i t:Nat} {oi:Oper} {T:World->Prop} {l:Array Bool} {a:Act} (d:Option Tmp) (hi:ops[i]?=some oi) (hd:oi.dst=d) (hw:Region.wanted oi (yielded ops a.tmps)=true)
  (hr:(execOp a.eval oi).run P w=.ok .skip w') (hT:gA t T (l.setIfInBounds i true) w') (h:Any P md ops Q (gA t T) n (l.setIfInBounds i true) (a.put d undef) w') :
  wpOp P ops Q i (fun a' w'=>gA t T (l.setIfInBounds i true) w'/\Any P md ops Q (gA t T) n (l.setIfInBounds i true) a' w') a w:=vW d hi hd hw hr ⟨hT,h⟩
theorem AE {o:Oper} {a:Act} {T:World->Prop} (t:TypeId) (x:Operand) (hg:Region.wanted o (yielded ops a.tmps)=true) (ho:o.op=.load t x) (ad:Addr) (hx:a.eval x=.pointer (some ad)) (hr:∀ w,T w->(loadVar t ad).run P w=.ok v w):YieldsIf P ops T o v a :=
 .inl ⟨hg,fun w hw=>fq t x ho ad hx (hr w hw)⟩
theorem bu {o:Oper} {a:Act} (s x:Operand) (t:TypeId) (ho:o.op=.call { callee:=.builtin .append,args:=#[s,x],argTypes:=#[t,t] }) {vs vx:Value} (hs:a.eval s=vs) (hx:a.eval x=vx)
  (hr:(Builtin.append_ #[t,t] o.type #[vs,vx]).run P w=.ok v w'):(execOp a.eval o).run P w=.ok (.value v) w':=by
 unfold execOp;simp only [ho,resolve,invoke,builtin,Sem.run_bind,Sem.run_pure,Result.andThen_ok,List.map_toArray,List.map_cons,List.map_nil,hs,hx,hr]
theorem ai {o:Oper} {a:Act} (t:TypeId) (x y:Operand) (ho:o.op=.store t x y) (ad:Addr) (hx:a.eval x=.pointer (some ad)) (v:Value) (hv:a.eval y=v) (hr:(storeVar t ad v).run P w=.ok () w') :
  (execOp a.eval o).run P w=.ok .skip w':=by
 unfold execOp;simp only [ho,hx,hv,Instr.storeAt,Instr.sureAddr,Sem.run_bind,Sem.run_pure,Result.andThen_ok,hr]
theorem qM {P:Program} (base:Nat) (t ty e:TypeId) (i:TypeInfo) (size c:Nat) (ht:P.underlying t=some (.slice e)) (hi:P.info? e=some i)
  (v:Value) (n:Nat) (xs:List Value) (fo:w.ownsRow base e size v n xs):(Builtin.append_ #[t,t] ty #[v,.slice none 0 c]).run P w=.ok v w:=by
 rcases fo.2 with ⟨rfl,rfl⟩ | ⟨g,cap,cur,rfl,_,_,Wt,_⟩
 ·simp [Builtin.append_,run_underlying ht,sizeOf,typeInfo,hi,Builtin.lenOf,Builtin.firstCells]
 ·simp [Builtin.append_,run_underlying ht,sizeOf,typeInfo,hi,Builtin.lenOf,Builtin.firstCells,Wt,storeCells]

theorem ae {P:Program} (t e:TypeId) (ht:P.underlying t=some (.slice e)) {ad:Addr} (h:w.cell? ad=some v):(loadVar t ad).run P w=.ok v w:=by
 simp [loadVar,isAgg,run_underlying ht,load];simp [Sem.run,h]
theorem bn {P:Program} (t:TypeId) {y:Nat} (hs:(P.info? t).map (fun i=>(i.zero,i.size,i.bytes))=some (some z,1,y)) {b o c:Nat} {a:Option Addr} (h:w.cell? ⟨b,o,none⟩=some u) (hf:w.frozen? ⟨b,o,none⟩=false) :
  (storeVar t ⟨b,o,none⟩ (.slice a n c)).run P w=.ok () (w.setCell ⟨b,o,none⟩ (.slice a n c)):=by
 obtain ⟨i0,hi,cN,bs,dI⟩:=info_parts hs
 have h0:(⟨b,o,none⟩:Addr).add 0=⟨b,o,none⟩:=by simp [Addr.add]
 simp [storeVar,sizeOf,typeInfo,hi,bs,Value.cells,storeCells,store,h0];simp [Sem.run,h,hf]
theorem qN {P:Program} {t e:TypeId} (T:pV P t e z bytes) (w:World) (b o len cap i:Nat) (hi:i<len):(Instr.indexAt t (.slice (some ⟨b,o,none⟩) len cap) (.int .i64 (i:Int))).run P w=.ok (.pointer (some ⟨b,o+i,none⟩)) w:=by
 obtain ⟨i0,mi,cN,bs,dI⟩:=info_parts T.info;have h1:(0:Int)<=(i:Int)/\(i:Int)<(len:Int):=⟨by omega,by omega⟩;simp [Instr.indexAt,asIntOf,run_underlying T.ty,sizeOf,typeInfo,mi,bs,h1,Addr.add];rw [if_pos hi]
 by_cases h0:i=0
 ·subst h0; simp
 ·rw [if_neg h0]
theorem aA {P:Program} {ops:Array Oper} {S:World->Prop} {o:Oper} {a:Act} {t e:TypeId} (T:pV P t e z bytes) (x y:Operand) (hg:Region.wanted o (yielded ops a.tmps)=true) (ho:o.op=.indexAddr t x y) (b of len cap i:Nat) (hx:a.eval x=.slice (some ⟨b,of,none⟩) len cap) (hy:a.eval y=.int .i64 (i:Int)) (hi:i<len) :
  YieldsIf P ops S o (.pointer (some ⟨b,of+i,none⟩)) a:=by
 refine .inl ⟨hg,fun w _=>?_⟩;have:=qN T w b of len cap i hi;unfold execOp;simp only [ho,hx,hy,Sem.run_bind,Sem.run_pure,Result.andThen_ok,this]
theorem qO {P:Program} {o:Oper} {a:Act} {t e:TypeId} (T:pV P t e z bytes) (ho:o.op=.buildSlice t 0 #[]) (X:World):(execOp a.eval o).run P X=.ok (.value (.slice (some ⟨X.heap.size,0,none⟩) 0 0)) (X.alloc (.cells #[] e)):=by
 obtain ⟨i0,hi,cN,bs,dI⟩:=info_parts T.info;have h0:Array.range (0*1)=#[]:=rfl;unfold execOp;simp [ho,Instr.buildSlice,run_underlying T.ty,sizeOf,typeInfo,hi,newRow,h0,Instr.fill,Result.andThen]
theorem sO {P:Program} {t e:TypeId} (T:pV P t e z bytes) (ty:TypeId) {us:List Value} (fo:X.ownsRow B e 1 v n xs) (hX:B<=X.heap.size)
  (uM:cz X xv us) (h1:∀ u∈us,u.oneCell'=true) (hn:n+us.length<1000000000) :
  ∃ v' X',(Builtin.append_ #[t,t] ty #[v,xv]).run P X=.ok v' X'/\X'.ownsRow B e 1 v' (n+us.length) (xs++us)/\X.grownBy X' v.ownBlock:=by
 obtain ⟨i0,hi,cN,bs,dI⟩:=info_parts T.info;obtain ⟨ad,cap,rfl,q2,q3,q4,q5⟩:=uM
 cases ad with
 | none =>
  have h0:us=[]:=by
   cases us with
   | nil=>rfl
   | cons u r=>obtain ⟨b,o,e1,_⟩:=q5 (by simp); cases e1
  subst h0;exact ⟨v,X,qM (P:=P) (w:=X) B t ty e i0 1 cap T.ty hi v n xs fo,by simpa using fo,⟨rfl,rfl,rfl,Nat.le_refl _,fun _ _ _=>rfl⟩⟩
 | some ad =>
  obtain ⟨v',w',hr,h2,h3,h4,h5⟩:=run_append_own_at (P:=P) X B t ty e i0 z 1 bytes T.ty hi cN bs dI T.zc (by decide) v n xs fo ad us.length cap us (by omega) (fun j u hu=>by
   have hj:=(List.getElem?_eq_some_iff.1 hu).1;obtain ⟨b,o,e1,e2,e3⟩:=q5 (by omega);simp at e1; subst e1
   rw [Addr.add_mid,e3 j hj,<- hu,List.getElem?_eq_getElem hj]) h1 (by unfold maxLen; omega) (by have:(n+us.length)*bytes<=1000000000*64:=Nat.mul_le_mul (by omega) T.small; omega) hX
  exact ⟨v',w',hr,h2,h3⟩
theorem Any.call {P:Program} {md:Region.Mode} {ops:Array Oper} {Q:Exit->Act->World->Prop} {i t:Nat} {oi:Oper} {T:World->Prop} {l:Array Bool} {a:Act} (d:Option Tmp) (hi:ops[i]?=some oi) (hd:oi.dst=d) (hw:Region.wanted oi (yielded ops a.tmps)=true) (f:FuncId) (args:Array Value)
  (hr:(execOp a.eval oi).run P w=.ok (.enter f args) w)
  (hc:Calls P f args w fun e w'=>∃ v,e=.returned v/\gA t T (l.setIfInBounds i true) w'/\Any P md ops Q (gA t T) n (l.setIfInBounds i true) (a.put d v) w') :
  wpOp P ops Q i (fun a' w'=>gA t T (l.setIfInBounds i true) w'/\Any P md ops Q (gA t T) n (l.setIfInBounds i true) a' w') a w:=by
 subst hd;unfold wpOp;simp only [hi,hw,if_true]
 left
 unfold Oper.wp;rw [hr,Oper.upon_enter];refine hc.mono fun e w' ⟨v,h1,h2,h3⟩=>?_;subst h1;exact ⟨h2,h3⟩
variable {P:Program} {md:Region.Mode} {ops:Array Oper} {Q:Exit->Act->World->Prop} {S:Array Bool->World->Prop}
theorem Any.PY {i t:Nat} {oi ot:Oper} {T:World->Prop} (hi:ops[i]?=some oi) (uh:∀ (j:Nat) (o:Oper) cs b,ops[j]?=some o->o.op≠.select cs b)
  (hQ:∀ c a w,Q (.panic c) (a.put oi.dst v) w->Q (.panic c) a w) (nu:t≠i) (ht:ops[t]?=some ot) (hw:∃ e∈ot.after,Region.binds md e=true/\e.on=i)
  (hS:∀ l w,S (l.setIfInBounds i true) w↔S l w) (LX:∀ l w,l.getD t false=false->S l w->T w) :
  ∀ (n:Nat) (l:Array Bool) (a:Act) (w:World),l.getD t false=false ->
   (∀ j oj,ops[j]?=some oj->j≠i->l.getD j true=false->(∀ e∈oj.after,Region.binds md e=true->e.on≠i)->oi.apart ops oj=true) ->
   i∈Region.ready md ops l->YieldsIf P ops T oi v a->S l w ->
   Any P md ops Q S n (l.setIfInBounds i true) (a.put oi.dst v) w->Any P md ops Q S (n+1) l a w:=by
 intro n
 induction n with
 | zero =>
  intro l a w hl _ hr hy hT H;refine ⟨fun h0=>absurd (h0▸hr) (by simp),fun j hj=>?_⟩
  by_cases jd:j=i
  ·subst jd; exact hy.wpOp hi (LX _ _ hl hT) ⟨(hS _ _).2 hT,H⟩
  ·have jC:=ready_mono hj jd
   rw [H.1] at jC;simp at jC
 | succ n ih =>
  intro l a w hl nQ hr hy hT H;refine ⟨fun h0=>absurd (h0▸hr) (by simp),fun j hj=>?_⟩
  by_cases jd:j=i
  ·subst jd; exact hy.wpOp hi (LX _ _ hl hT) ⟨(hS _ _).2 hT,H⟩
  obtain ⟨vX,oj,pW,qL⟩:=mem_ready.1 hj;have mi:=(mem_ready.1 hr).1
  have iN:∀ e∈oj.after,Region.binds md e=true->e.on≠i:=by
   intro e he hb heq;have h1:=qL e he hb;rw [heq] at h1
   by_cases aE:i<l.size
   ·simp [aE] at h1 mi; rw [mi] at h1; cases h1
   ·simp [Array.getElem?_eq_none (Nat.le_of_not_lt aE)] at h1
  have Ta:j≠t:=by
   rintro rfl;obtain ⟨e,he,hb,heq⟩:=hw;rw [ht] at pW; cases pW;exact iN e he hb heq
  have mj:=wpOp_putIf pW (nQ j oj pW jd vX iN) (fun cs b=>uh i oi cs b hi) (fun cs b=>uh j oj cs b pW) hQ hy (H.2 j (ready_mono hj jd));refine wpOp_mono (fun a' w' q=>?_) mj;obtain ⟨AB,Cv,Cw⟩:=q;rw [Array.setIfInBounds_comm _ _ (Ne.symm jd)] at Cv Cw
  have lr:(l.setIfInBounds j true).getD t false=false:=by rw [getD_set_ne false Ta]; exact hl
  have bW:=(hS _ _).1 Cv;refine ⟨bW,ih _ _ _ lr ?_ (ready_mono hr (Ne.symm jd)) AB bW Cw⟩;intro k ok hk AD Cx Cy;refine nQ k ok hk AD ?_ Cy
  by_cases Cz:j=k
  ·rw [<- Cz]; exact vX
  ·rwa [getD_set_ne true Cz] at Cx
theorem Any.PZ {i:Nat} {oi:Oper} {T:World->Prop} (hi:ops[i]?=some oi) (uh:∀ (j:Nat) (o:Oper) cs b,ops[j]?=some o->o.op≠.select cs b)
  (hQ:∀ c a w,Q (.panic c) (a.put oi.dst v) w->Q (.panic c) a w)
  (hS:∀ l w,S (l.setIfInBounds i true) w↔S l w) (LX:∀ l w,S l w->T w) :
  ∀ (n:Nat) (l:Array Bool) (a:Act) (w:World),
   (∀ j oj,ops[j]?=some oj->j≠i->l.getD j true=false->(∀ e∈oj.after,Region.binds md e=true->e.on≠i)->oi.apart ops oj=true) ->
   i∈Region.ready md ops l->YieldsIf P ops T oi v a->S l w ->
   Any P md ops Q S n (l.setIfInBounds i true) (a.put oi.dst v) w->Any P md ops Q S (n+1) l a w:=by
 intro n
 induction n with
 | zero =>
  intro l a w _ hr hy hT H;refine ⟨fun h0=>absurd (h0▸hr) (by simp),fun j hj=>?_⟩
  by_cases jd:j=i
  ·subst jd; exact hy.wpOp hi (LX _ _ hT) ⟨(hS _ _).2 hT,H⟩
  ·have jC:=ready_mono hj jd
   rw [H.1] at jC;simp at jC
 | succ n ih =>
  intro l a w nQ hr hy hT H;refine ⟨fun h0=>absurd (h0▸hr) (by simp),fun j hj=>?_⟩
  by_cases jd:j=i
  ·subst jd; exact hy.wpOp hi (LX _ _ hT) ⟨(hS _ _).2 hT,H⟩
  obtain ⟨vX,oj,pW,qL⟩:=mem_ready.1 hj;have mi:=(mem_ready.1 hr).1
  have iN:∀ e∈oj.after,Region.binds md e=true->e.on≠i:=by
   intro e he hb heq;have h1:=qL e he hb;rw [heq] at h1
   by_cases aE:i<l.size
   ·simp [aE] at h1 mi; rw [mi] at h1; cases h1
   ·simp [Array.getElem?_eq_none (Nat.le_of_not_lt aE)] at h1
  have mj:=wpOp_putIf pW (nQ j oj pW jd vX iN) (fun cs b=>uh i oi cs b hi) (fun cs b=>uh j oj cs b pW) hQ hy (H.2 j (ready_mono hj jd));refine wpOp_mono (fun a' w' q=>?_) mj;obtain ⟨AB,Cv,Cw⟩:=q;rw [Array.setIfInBounds_comm _ _ (Ne.symm jd)] at Cv Cw;have bW:=(hS _ _).1 Cv;refine ⟨bW,ih _ _ _ ?_ (ready_mono hr (Ne.symm jd)) AB bW Cw⟩;intro k ok hk AD Cx Cy;refine nQ k ok hk AD ?_ Cy
  by_cases Cz:j=k
  ·rw [<- Cz]; exact vX
  ·rwa [getD_set_ne true Cz] at Cx
def aG (t:Nat) (T T2:World->Prop) (l:Array Bool) (w:World):Prop:=gA t T l w/\T2 w
theorem aG.set {t i:Nat} {T T2:World->Prop} (nu:t≠i) (l:Array Bool) (w:World):aG t T T2 (l.setIfInBounds i true) w↔aG t T T2 l w:=by
 unfold aG; rw [gA.set nu]
theorem Any.Tb {i t:Nat} {oi:Oper} {T T2:World->Prop} {l:Array Bool} {a:Act} (d:Option Tmp) (hi:ops[i]?=some oi) (hd:oi.dst=d)
  (hs:Region.noSelect ops=true) (hf:Region.free md ops l i=true) (hr:(Region.ready md ops l).contains i=true)
  (hQ:∀ c a w,Q (.panic c) (a.put d v) w->Q (.panic c) a w) (nu:(t == i)=false) (hw:Region.waitsFor md ops t i=true) (hl:l.getD t false=false)
  (hy:YieldsIf P ops T oi v a) (hS:aG t T T2 l w)
  (h:Any P md ops Q (aG t T T2) n (l.setIfInBounds i true) (a.put d v) w):Any P md ops Q (aG t T T2) (n+1) l a w:=by
 subst hd;obtain ⟨ot,ht,hw⟩:=Region.waitsFor_spec hw
 have R8:t≠i:=by simpa using nu
 refine Any.PY hi (Region.noSelect_spec hs) hQ R8 ht hw (aG.set R8) (fun l w hl hh=>?_) n l a w hl (Region.free_spec hi hf) (by simpa using hr) hy hS h
 rcases hh.1 with h1 | h1
 ·rw [hl] at h1; cases h1
 ·exact h1
theorem Any.sP {i t:Nat} {oi:Oper} {T T2:World->Prop} {l:Array Bool} {a:Act} (d:Option Tmp) (hi:ops[i]?=some oi) (hd:oi.dst=d)
  (hs:Region.noSelect ops=true) (hf:Region.free md ops l i=true) (hr:(Region.ready md ops l).contains i=true)
  (hQ:∀ c a w,Q (.panic c) (a.put d v) w->Q (.panic c) a w) (nu:(t == i)=false)
  (hy:YieldsIf P ops T2 oi v a) (hS:aG t T T2 l w)
  (h:Any P md ops Q (aG t T T2) n (l.setIfInBounds i true) (a.put d v) w):Any P md ops Q (aG t T T2) (n+1) l a w:=by
 subst hd;exact Any.PZ hi (Region.noSelect_spec hs) hQ (aG.set (by simpa using nu)) (fun l w hh=>hh.2) n l a w (Region.free_spec hi hf) (by simpa using hr) hy hS h
theorem Any.run {i:Nat} {oi:Oper} {l:Array Bool} {a:Act} (d:Option Tmp) (hi:ops[i]?=some oi) (hd:oi.dst=d) (hw:Region.wanted oi (yielded ops a.tmps)=true)
  (hr:(execOp a.eval oi).run P w=.ok (.value v) w') (hS:S (l.setIfInBounds i true) w') (h:Any P md ops Q S n (l.setIfInBounds i true) (a.put d v) w') :
  wpOp P ops Q i (fun a' w'=>S (l.setIfInBounds i true) w'/\Any P md ops Q S n (l.setIfInBounds i true) a' w') a w:=nP d hi hd hw hr ⟨hS,h⟩
theorem Any.cA {i:Nat} {oi:Oper} {l:Array Bool} {a:Act} (d:Option Tmp) (hi:ops[i]?=some oi) (hd:oi.dst=d) (hw:Region.wanted oi (yielded ops a.tmps)=true)
  (hr:(execOp a.eval oi).run P w=.ok .skip w') (hS:S (l.setIfInBounds i true) w') (h:Any P md ops Q S n (l.setIfInBounds i true) (a.put d undef) w') :
  wpOp P ops Q i (fun a' w'=>S (l.setIfInBounds i true) w'/\Any P md ops Q S n (l.setIfInBounds i true) a' w') a w:=vW d hi hd hw hr ⟨hS,h⟩
theorem Any.ask {i:Nat} {oi:Oper} {l:Array Bool} {a:Act} (d:Option Tmp) (hi:ops[i]?=some oi) (hd:oi.dst=d) (hw:Region.wanted oi (yielded ops a.tmps)=true) (f:FuncId) (args:Array Value)
  (hr:(execOp a.eval oi).run P w=.ok (.enter f args) w)
  (hc:Calls P f args w fun e w'=>∃ v,e=.returned v/\S (l.setIfInBounds i true) w'/\Any P md ops Q S n (l.setIfInBounds i true) (a.put d v) w') :
  wpOp P ops Q i (fun a' w'=>S (l.setIfInBounds i true) w'/\Any P md ops Q S n (l.setIfInBounds i true) a' w') a w:=by
 subst hd;unfold wpOp;simp only [hi,hw,if_true]
 left
 unfold Oper.wp;rw [hr,Oper.upon_enter];refine hc.mono fun e w' ⟨v,h1,h2,h3⟩=>?_;subst h1;exact ⟨h2,h3⟩
theorem JN {P:Program} {t e:TypeId} (T:pV P t e z bytes) (ty:TypeId) (b o n:Nat) (us:List Value) (hl:us.length=n) (hc:∀ i (h:i<us.length),X.cell? ⟨b,o+i,none⟩=some us[i]) (p c:Nat)
  (hu:X.cell? ⟨p,0,none⟩=some u) (hn:n<1000000) :
  ∃ v' X',(Builtin.append_ #[t,t] ty #[.slice (some ⟨b,o,none⟩) n n,.slice (some ⟨p,0,none⟩) 1 c]).run P X=.ok v' X'/\X'.ownsRow X.heap.size e 1 v' (n+1) (us++[u])/\Below X.heap.size X X'/\∃ a c,v'=.slice a (n+1) c:=by
 obtain ⟨i0,hi,cN,bs,dI⟩:=info_parts T.info
 obtain ⟨v',w',hr,h2,h3⟩:=run_append_arg_grows (P:=P) X t ty e i0 z 1 bytes T.ty hi cN bs dI T.zc (by decide) ⟨b,o,none⟩ n n us (by omega) (fun j x hj=>by
  have CA:=(List.getElem?_eq_some_iff.1 hj).1
  rw [Addr.add_mid,hc j CA,<- hj,List.getElem?_eq_getElem CA]) ⟨p,0,none⟩ 1 c [u] rfl (fun j x hj=>by
  obtain rfl:j=0:=by have:=(List.getElem?_eq_some_iff.1 hj).1; simpa using this
  simp at hj; subst hj
  rw [show (⟨p,0,none⟩:Addr).add 0=⟨p,0,none⟩ from rfl]; exact hu) (by omega) (by unfold maxLen; omega) (by have:(n+1)*bytes<=1000000*64:=Nat.mul_le_mul (by omega) T.small; omega)
 exact ⟨v',w',hr,h2,(Below.refl _ _).grown h3 (Nat.le_refl _) (fun k hk=>by cases hk),cn h2⟩
end
section
open Go.RowKit
theorem _root_.d7 {P : Program} {md : Region.Mode} {ops : Array Oper} {Q : Exit -> Act -> World -> Prop} {T T2 : World -> Prop} {oi : Oper} {l : Array Bool} {a : Act} (i t : Nat) (v : Value) (d : Nat) (hi : ops[i]? = some oi) (hd : oi.dst = some d)
    (hy : YieldsIf P ops T2 oi v a) (hS : aG t T T2 l w) (h : Any P md ops Q (aG t T T2) n (l.setIfInBounds i true) (a.put (some d) v) w)
    (hs : Region.noSelect ops = true := by kernel_rfl) (hf : Region.free md ops l i = true := by kernel_rfl) (hr : (Region.ready md ops l).contains i = true := by kernel_rfl)
    (hQ : ∀ c a w, Q (.panic c) (a.put (some d) v) w -> Q (.panic c) a w := by exact fun _ _ _ h => h) (nu : (t == i) = false := by exact rfl) : Any P md ops Q (aG t T T2) (n + 1) l a w :=
  Any.sP (some d) hi hd hs hf hr hQ nu hy hS h
theorem _root_.d8 {P : Program} {md : Region.Mode} {ops : Array Oper} {Q : Exit -> Act -> World -> Prop} {T T2 : World -> Prop} {oi : Oper} {l : Array Bool} {a : Act} (i t : Nat) (v : Value) (d : Nat) (hS : aG t T T2 l w) (h : Any P md ops Q (aG t T T2) n (l.setIfInBounds i true) (a.put (some d) v) w)
    (hi : ops[i]? = some oi := by exact rfl) (hd : oi.dst = some d := by exact rfl) (hy : YieldsIf P ops T2 oi v a := by exact .inl ⟨rfl, fun w _ => Go.Proofs.Rg.cI (v := _) _ rfl rfl⟩)
    (hs : Region.noSelect ops = true := by kernel_rfl) (hf : Region.free md ops l i = true := by kernel_rfl) (hr : (Region.ready md ops l).contains i = true := by kernel_rfl)
    (hQ : ∀ c a w, Q (.panic c) (a.put (some d) v) w -> Q (.panic c) a w := by exact fun _ _ _ h => h) (nu : (t == i) = false := by exact rfl) : Any P md ops Q (aG t T T2) (n + 1) l a w :=
  Any.sP (some d) hi hd hs hf hr hQ nu hy hS h
end
section
open Go Go.RowKit
variable {P:Program} {md:Region.Mode} {ops:Array Oper} {Q:Exit->Act->World->Prop} {S:Array Bool->World->Prop}
theorem put_comm (a:Act) {d d':Tmp} (u v:Value) (h:d≠d'):(a.put (some d) u).put (some d') v=(a.put (some d') v).put (some d) u:=by
 unfold Act.put;simp only [Array.setIfInBounds_comm u v h]
def Does (P:Program) (ops:Array Oper) (Q:Exit->Act->World->Prop) (i d:Nat) (I:World->Prop) (R:Value->World->Prop) (K:World->World->Prop) (b:Act) (W:World):Prop :=
 wpOp P ops Q i (fun c W'=>∃ v,c=b.put (some d) v/\I W'/\R v W'/\K W W') b W

theorem Any.inv {J:Nat->Array Bool->Act->World->Prop} {k:Nat} (h0:∀ l a w,J 0 l a w->Any P md ops Q S k l a w)
  (hs:∀ m l a w,J (m+1) l a w->Region.ready md ops l≠[]/\∀ i∈Region.ready md ops l,wpOp P ops Q i (fun a' w'=>S (l.setIfInBounds i true) w'/\J m (l.setIfInBounds i true) a' w') a w) :
  ∀ m l a w,J m l a w->Any P md ops Q S (k+m) l a w
 | 0,l,a,w,h=>h0 l a w h
 | m+1,l,a,w,h=>by
  obtain ⟨h1,h2⟩:=hs m l a w h;exact Any.all rfl h1 fun i hi=>wpOp_mono (fun a' w' q=>⟨q.1,Any.inv h0 hs m _ a' w' q.2⟩) (h2 i hi)
end
end Go.Proofs.Rg
namespace Go.Proofs.YtpedbljnhnoohaaGreat
open Go.RowKit
open Go.Proofs
attribute [local irreducible] Go.Calls
theorem yG (v:Value) (l:List Int) (w:World) (h:Rg.Ints w v l) (h1:1<=l.length) (h2:l.length<=64) :
  Calls Tryz.prog 68 #[v] w fun e w'=>e=.returned (.int .i64 (Ma.bB l))/\Below w.heap.size w w':=by
 obtain ⟨a,cap,rfl,hc,hm,_,aO⟩:=h.shape;obtain ⟨b,o,rfl,hb,hr⟩:=aO (by omega);have Hr:=U hr;clear hr aO h
 have hz:∀ (cs:Array Value),cs=Array.replicate 64 (.bool false)->(w.alloc (.cells cs 132)).rowIs w.heap.size 132 64 (fun j=>.bool (decide ((j:Int)∈l.take 0))):=by
  rintro cs rfl;have:=World.rowIs_alloc w (Array.replicate 64 (.bool false)) 132 (fun j=>.bool (decide ((j:Int)∈l.take 0))) (fun i hi=>by simp at hi; simp [hi])
  simpa using this
 have HZ:=U hz;clear hz
 go_enter Tryz.func68,Tryz.ntmps68
 go_wp2
 go_loopw [16] (fun i wr=>∃ k:Nat,k<=l.length/\i=.int .i64 k/\Hid (Ma.vS l k)/\Hid (wr.rowIs w.heap.size 132 64 (fun j=>.bool (decide ((j:Int)∈l.take k))))/\Below w.heap.size w wr) (fun i _=>l.length - (intOf i).toNat)
 case atStart=>exact ⟨0,by omega,rfl,Ma.vT l,HZ.p _ rfl,(Below.refl _ _).alloc (Nat.le_refl _) _⟩
 case round =>
  obtain ⟨k,hk,rfl,hp,hs,bN⟩:=hrel;obtain ⟨hc,hf⟩:=Rg.sM bN
  by_cases aE:k<l.length
  ·have e0:wr.cell? ⟨b,o+k,none⟩=some (.int .i64 l[k]):=(hc b (o+k) hb).trans (Hr.p k aE)
   have hB:b<wr.heap.size:=Nat.lt_of_lt_of_le hb bN.size;generalize hx:l[k]=x at e0;have Hx:=U hx;clear hx hc hf
   by_cases h0:x<0
   ·go_wp2
    go_ret;exact ⟨Rg.gI (Ma.sI h1 h2 (Ma.PV aE (by rw [Hx.p]; exact h0))).symm,by assumption⟩
   by_cases h3:x<l.length
   ·obtain ⟨n,rfl⟩:=Int.eq_ofNat_of_zero_le (by omega:0<=x)
    have hn:n<64:=by omega
    have c1:=hs.p.cell hn;have f1:=hs.p.frozen n
    cases hd:decide ((n:Int)∈l.take k)
    ·rw [hd] at c1
     go_wp2
     go_roundw
     case rel =>
      refine ⟨k+1,by omega,by go_num,Ma.JI hp.p aE (by rw [Hx.p]; omega) (by rw [Hx.p]; omega) (by rw [Hx.p]; exact of_decide_eq_false hd),?_,bN.setCell (Nat.le_refl _) _⟩;refine (hs.p.set n _).congr fun i hi=>?_;rw [Ma.vU aE,Hx.p]
      by_cases e:i=n
      ·simp [e]
      ·rw [if_neg e,if_neg (by omega)]
     case measure=>simp [intOf]; omega
    ·rw [hd] at c1
     go_wp2;go_ret;exact ⟨Rg.gI (Ma.sI h1 h2 (Ma.LR aE (by rw [Hx.p]; exact of_decide_eq_true hd))).symm,by assumption⟩
   ·go_wp2
    go_ret;exact ⟨Rg.gI (Ma.sI h1 h2 (Ma.PX aE (by rw [Hx.p]; omega))).symm,by assumption⟩
  ·obtain rfl:k=l.length:=by omega
   go_wp2;go_ret;exact ⟨Rg.gI (Ma.km h1 h2 (Ma.LQ hp.p)).symm,by assumption⟩
theorem dp (v:Value) (l:List Int) (w:World) (h:Rg.Ints w v l) :
  Calls Tryz.prog 68 #[v] w fun e w'=>e=.returned (.int .i64 (Ma.bB l))/\Below w.heap.size w w':=by
 by_cases h1:1<=l.length
 ·by_cases h2:l.length<=64
  ·exact yG v l w h h1 h2
  ·have hp:=U (Ma.zD (l:=l) (by omega))
   obtain ⟨a,cap,rfl,hc,hm,_,aO⟩:=h.shape;clear aO h
   have LY:64<l.length:=by omega
   go_enter Tryz.func68,Tryz.ntmps68
   go_wp2;go_ret;exact ⟨Rg.gI hp.p.symm,Below.refl _ _⟩
 ·have hp:=U (Ma.zD (l:=l) (by omega))
  obtain ⟨a,cap,rfl,hc,hm,_,aO⟩:=h.shape;clear aO h
  have LY:l.length<1:=by omega
  go_enter Tryz.func68,Tryz.ntmps68
  go_wp2;go_ret;exact ⟨Rg.gI hp.p.symm,Below.refl _ _⟩

theorem qP:(Tryz.prog.info? 3).map (fun i=>(i.zero,i.size,i.bytes))=some (some (.int .i64 0),1,8):=by kernel_rfl
theorem kP (n:Nat) (hn:n<=1000000) (w:World):(Instr.makeSlice 27 (.int .i64 (n:Int)) (.int .i64 (n:Int))).run Tryz.prog w=.ok (.slice (some ⟨w.heap.size,0,none⟩) n n) (w.alloc (.cells (madeCells #[.int .i64 0] n) 3)) :=
 run_make_row' 27 3 (.int .i64 0) 8 Tryz.underlying27 qP rfl .i64 .i64 n (by omega) (by omega) w
theorem AG (n:Nat) (w:World) (hn:n<=1000) :
  Calls Tryz.prog 144 #[.int .i64 n] w fun e w'=>∃ v,e=.returned v/\Rg.px w w' v (Ma.bh n)/\Below w.heap.size w w':=by
 have gB:=kP n (by omega) w;have cr:=U (World.rowIs_made w (.int .i64 0) n 3)
 go_enter Tryz.func144,Tryz.ntmps144
 go_wp2;clear gB
 go_loopw [9] (fun i wr=>∃ k:Nat,k<=n/\i=.int .i64 k/\Hid (wr.rowIs w.heap.size 3 n (fun j=>.int .i64 (if j<k then (j:Int) else 0)))/\Below w.heap.size w wr) (fun i _=>n - (intOf i).toNat)
 case atStart=>exact ⟨0,by omega,rfl,cr.p.congr (fun i hi=>by simp),(Below.refl _ _).alloc (Nat.le_refl _) _⟩
 case round =>
  obtain ⟨k,hk,rfl,hs,bN⟩:=hrel
  by_cases aE:k<n
  ·have c1:=hs.p.cell aE
   have f1:=hs.p.frozen k;simp only [Nat.lt_irrefl,if_false] at c1;go_wp2
   go_roundw
   case rel =>
    refine ⟨k+1,by omega,by go_num,?_,bN.setCell (Nat.le_refl _) _⟩;refine (hs.p.set k _).congr fun i hi=>?_
    by_cases e:i=k
    ·subst e; simp
    ·rw [if_neg e]
     by_cases e2:i<k
     ·rw [if_pos e2,if_pos (by omega)]
     ·rw [if_neg e2,if_neg (by omega)]
   case measure=>simp [intOf]; omega
  ·obtain rfl:k=n:=by omega
   go_wp2;go_ret;refine ⟨_,rfl,⟨Rg.NP.fR hs.p (by rw [Ma.eC]) (by omega) (fun i hi=>?_),Rg.eW.mk _ _ _ _⟩,by assumption⟩;rw [Ma.sK];rw [Ma.eC] at hi;rw [if_pos hi]
theorem AH (v:Value) (a:List Nat) (w:World) (h:Rg.NP w v a) (ha:Ma.iZ a) (hn:a.length<=1000) (h1:1<=a.length) :
  Calls Tryz.prog 203 #[v] w fun e w'=>∃ v,e=.returned v/\Rg.px w w' v (Ma.aS a)/\Below w.heap.size w w':=by
 obtain ⟨ad,cap,rfl,hc,_,_,aO⟩:=h.shape;obtain ⟨b,o,rfl,hb,hr⟩:=aO (by omega);have Hr:=U hr;clear hr aO h;have gB:=kP a.length (by omega) w;have cr:=U (World.rowIs_made w (.int .i64 0) a.length 3)
 go_enter Tryz.func203,Tryz.ntmps203
 go_wp2;clear gB
 go_loopw [11] (fun i wr=>∃ k:Nat,k<=a.length/\i=.int .i64 k/\Hid (wr.rowIs w.heap.size 3 a.length (fun j=>.int .i64 (if j∈a.take k then ((a.idxOf j:Nat):Int) else 0)))/\Below w.heap.size w wr) (fun i _=>a.length - (intOf i).toNat)
 case atStart=>exact ⟨0,by omega,rfl,cr.p.congr (fun i hi=>by simp),(Below.refl _ _).alloc (Nat.le_refl _) _⟩
 case round =>
  obtain ⟨k,hk,rfl,hs,bN⟩:=hrel;obtain ⟨hc,hf⟩:=Rg.sM bN
  by_cases aE:k<a.length
  ·have lL:k<a.length:=aE
   have e0:wr.cell? ⟨b,o+k,none⟩=some (.int .i64 ((a[k]:Nat):Int)):=(hc b (o+k) hb).trans (Hr.p k lL);have uN:a[k]<a.length:=Ma.qI ha lL;have vY:=Ma.lK ha lL
   have jC:∀ i,i∈a.take (k+1)↔(i∈a.take k∨i=a[k]):=fun i=>by rw [List.take_succ_eq_append_getElem lL,List.mem_append,List.mem_singleton]
   generalize hx:a[k]=x at *;have Hx:=U hx;have LZ:=U vY;have nR:=U jC;clear hx hc hf vY jC;have c1:=hs.p.cell uN;have f1:=hs.p.frozen x;generalize (Value.int .i64 (if x∈a.take k then ((a.idxOf x:Nat):Int) else 0))=u0 at c1;go_wp2
   go_roundw
   case rel =>
    refine ⟨k+1,by omega,by go_num,?_,bN.setCell (Nat.le_refl _) _⟩;refine (hs.p.set x _).congr fun i hi=>?_
    by_cases e:i=x
    ·subst e; rw [if_pos rfl,if_pos ((nR.p i).2 (.inr rfl)),LZ.p]
    ·rw [if_neg e]
     by_cases e2:i∈a.take k
     ·rw [if_pos e2,if_pos ((nR.p i).2 (.inl e2))]
     ·rw [if_neg e2,if_neg (fun e3=>((nR.p i).1 e3).elim e2 e)]
   case measure=>simp [intOf]; omega
  ·obtain rfl:k=a.length:=by omega
   go_wp2;go_ret;refine ⟨_,rfl,⟨Rg.NP.fR hs.p (by rw [Ma.cM]) (by omega) (fun i hi=>?_),Rg.eW.mk _ _ _ _⟩,by assumption⟩;rw [Ma.o5];rw [Ma.cM] at hi;rw [List.take_of_length_le (Nat.le_refl _),if_pos (Ma.qJ ha hi)]

theorem CC (n:Nat) (w:World) (h1:1<=n) (hn:n<=64) :
  Calls Tryz.prog 114 #[.int .i64 n] w fun e w'=>∃ v,e=.returned (.tuple #[v,.int .i64 0])/\Rg.px w w' v (Ma.bh n)/\Below w.heap.size w w':=by
 go_enter Tryz.func114,Tryz.ntmps114
 go_wp2_with (go_at_call 144; refine (AG _ _ (by omega)).mono ?_; rintro e w1 ⟨v,rfl,hv,hb⟩)
 go_ret2
 exact ⟨_,rfl,hv,hb⟩
theorem ml {k:IntKind} {a b:Int} (h:b=a):Ending.returned (.int k a)=.returned (.int k b):=by rw [h]
theorem sQ {l:List Int} (h:Rg.Ints w v l) (hb:Below w0.heap.size w0 w) :
  Calls Tryz.prog 68 #[v] w fun e w'=>e=.returned (.int .i64 (Ma.bB l))/\Below w0.heap.size w0 w' :=
 (dp v l w h).mono fun _ _ ⟨a,b⟩=>⟨a,Rg.acc hb b⟩
theorem vZ (v:Value) (ll:List (List Int)) (w:World) (h:Rg.Rows w v ll) (h1:1<=ll.length) :
  Calls Tryz.prog 142 #[v] w fun e w'=>e=.returned (.int .i64 (Ma.ug ll))/\Below w.heap.size w w':=by
 obtain ⟨ad,cap,rfl,hc,hm,_,aO⟩:=h.shape;obtain ⟨b,o,rfl,hb,hr⟩:=aO (by omega);obtain ⟨u0,Wu,JO⟩:=hr 0 (by omega);obtain ⟨n0,a0,c0,qK,rfl,hl0⟩:=JO.len;have Hr:=U hr;clear hr aO h JO;have ZY:=U qK;clear qK
 have hn:(ll.headD []).length=n0:=by rw [<- ZY.p]; cases ll with | nil=>simp at h1 | cons x r=>rfl
 have HN:=U hn;clear hn
 go_enter Tryz.func142,Tryz.ntmps142
 go_wp2
 go_loopw [10] (fun i wr=>∃ k:Nat,k<=ll.length/\i=.int .i64 k/\Hid (Ma.dn (ll.drop k)=Ma.dn ll)/\Below w.heap.size w wr) (fun i _=>ll.length - (intOf i).toNat)
 case atStart=>exact ⟨0,by omega,rfl,rfl,Below.refl _ _⟩
 case round =>
  obtain ⟨k,hk,rfl,hp,bN⟩:=hrel
  by_cases aE:k<ll.length
  ·obtain ⟨u,eu,hu⟩:=Hr.p k aE
   have e0:wr.cell? ⟨b,o+k,none⟩=some u:=(bN.cell (p:=⟨b,o+k,none⟩) hb).trans eu;have eB:=hu.jj bN
   by_cases hz:Ma.bB ll[k]=0
   ·have Hz:=U hz
    have nw:((Ma.bB ll[k]) != 0)=false:=by rw [hz]; rfl
    clear hz eu hu
    go_wp2_with (go_at_call 68; refine (sQ eB bN).mono ?_; rintro e w1 ⟨rfl,ko⟩)
    go_roundw
    case rel=>exact ⟨k+1,by omega,by go_num,(Ma.vV aE Hz.p).symm.trans hp.p,ko⟩
    case measure=>simp [intOf]; omega
   ·have Hz:=U hz
    have nw:((Ma.bB ll[k]) != 0)=true:=by rw [bne_iff_ne]; exact hz
    clear hz eu hu
    go_wp2_with (go_at_call 68; refine (sQ eB bN).mono ?_; rintro e w1 ⟨rfl,ko⟩)
    go_ret;have hh:=(Ma.zF aE Hz.p).symm.trans hp.p;exact ⟨ml (by rw [Ma.JM (by rw [<- hh]; exact Hz.p),<- hh]),ko⟩
  ·obtain rfl:k=ll.length:=by omega
   have nx:Ma.dn ll=0:=hp.p.symm.trans (Ma.JJ (Nat.le_refl _));have Hf:=U ((Ma.LU nx).trans (by rw [HN.p]));clear nx hp;go_wp2
   go_loopw [22] (fun i wr=>∃ k:Nat,k<=ll.length/\i=.int .i64 k/\Hid (Ma.mZ n0 (ll.drop k)=Ma.mZ n0 ll)/\Below w.heap.size w wr) (fun i _=>ll.length - (intOf i).toNat)
   case atStart=>exact ⟨0,by omega,rfl,rfl,bN⟩
   case round =>
    obtain ⟨k,hk,rfl,hp,v7⟩:=hrel;have Wv:=(v7.cell (p:=⟨b,o+0,none⟩) hb).trans Wu
    by_cases pJ:k<ll.length
    ·obtain ⟨u,eu,hu⟩:=Hr.p k pJ
     have e0:=(v7.cell (p:=⟨b,o+k,none⟩) hb).trans eu;obtain ⟨n2,a2,c2,cC,rfl,v8⟩:=hu.len;rw [Nat.add_zero] at Wv;clear eu hu Wu;have Ww:=U cC;clear cC
     by_cases hz:n2=n0
     ·have nw:((n2:Int) != (n0:Int))=false:=by rw [hz]; simp
      have Hz:=U hz;clear hz;go_wp2
      go_roundw
      case rel=>exact ⟨k+1,by omega,by go_num,(Ma.FE pJ (by rw [Ww.p,Hz.p])).symm.trans hp.p,v7⟩
      case measure=>simp [intOf]; omega
     ·have nw:((n2:Int) != (n0:Int))=true:=by rw [bne_iff_ne]; omega
      have Hz:=U hz;clear hz;go_wp2;go_ret;exact ⟨ml (by rw [Hf.p,<- hp.p]; exact Ma.JK pJ (by rw [Ww.p]; exact Hz.p)),v7⟩
    ·clear Wv
     go_wp2;go_ret;exact ⟨ml (by rw [Hf.p,<- hp.p]; exact Ma.JL (by omega)),v7⟩

theorem zL {z:Int} (h:Rg.Rows w v ll) (h1:1<=ll.length) (hz:Hid (Ma.ug ll=z)) (hb:Below w0.heap.size w0 w) :
  Calls Tryz.prog 142 #[v] w fun e w'=>e=.returned (.int .i64 z)/\Below w0.heap.size w0 w' :=
 (vZ v ll w h h1).mono fun _ _ ⟨a,b⟩=>⟨by rw [a,hz.p],Rg.acc hb b⟩
theorem zM {a:List Nat} (ha:Ma.iZ a) (h1:1<=a.length) (h2:a.length<=64):Ma.bB (Ma.ag a)=0 :=
 Ma.km (by rw [Ma.ar]; exact h1) (by rw [Ma.ar]; exact h2) (Ma.lJ ha)
theorem v_ (gv:Value) (d:Int) (ll:List (List Int)) (w:World) (h:Rg.Rows w gv ll) (h1:1<=d) (h2:d<=64) (h3:ll.length<=16) :
  Calls Tryz.prog 88 #[.agg #[.int .i64 d,gv]] w fun e w'=>e=.returned (.int .i64 (Ma.iY d ll))/\Below w.heap.size w w':=by
 obtain ⟨ad,cap,rfl,hc,hm,_,aO⟩:=h.shape;have Hr:=U aO;clear aO h
 go_enter Tryz.func88,Tryz.ntmps88
 go_wp2
 go_loopw [21] (fun i wr=>∃ k:Nat,k<=ll.length/\i=.int .i64 k/\Hid (Ma.iY d (ll.drop k)=Ma.iY d ll)/\Hid (Below (w.heap.size+1) (w.alloc (.cells #[.int .i64 d,.slice ad ll.length cap] 43)) wr)) (fun i _=>ll.length - (intOf i).toNat)
 case atStart=>exact ⟨0,by omega,rfl,rfl,Below.refl _ _⟩
 case round =>
  obtain ⟨k,hk,rfl,hp,bN⟩:=hrel;have kq:Below w.heap.size w wr:=((Below.refl _ w).alloc (Nat.le_refl _) _).trans (bN.p.mono (by omega))
  have cd:wr.cell? ⟨w.heap.size,0,none⟩=some (.int .i64 d):=by
   rw [bN.p.cell (by show w.heap.size<_; omega)]; rw [Rg.aI]; rfl
  have dR:w.heap.size<wr.heap.size:=by have:=bN.p.size; simp at this; omega
  by_cases aE:k<ll.length
  ·obtain ⟨b,o,rfl,hb,hr⟩:=Hr.p (by omega)
   obtain ⟨u,eu,hu⟩:=hr k aE;have e0:wr.cell? ⟨b,o+k,none⟩=some u:=(kq.cell (p:=⟨b,o+k,none⟩) hb).trans eu;have eB:=hu.jj kq;obtain ⟨n,a1,c1,hn,rfl,hl⟩:=hu.len;have Hn:=U hn;clear hr eu hu hn
   by_cases hz:Ma.bB ll[k]=0
   ·have Hz:=U hz
    have nw:((Ma.bB ll[k]) != 0)=false:=by rw [hz]; rfl
    clear hz;have JP:∀ {e:Ending} {w':World},Below wr.heap.size wr w'->w'.cell? ⟨w.heap.size,0,none⟩=some (.int .i64 d):=fun hw=>(hw.cell (p:=⟨w.heap.size,0,none⟩) dR).trans cd
    by_cases hd:(n:Int)=d
    ·have hdd:((n:Int) != d)=false:=by rw [hd]; simp
     have Hd:=U hd;clear hd
     go_wp2_with (go_at_call 68; refine (dp _ _ _ eB).mono ?_; rintro e w1 ⟨rfl,ko⟩; have ZZ:=(ko.cell (p:=⟨w.heap.size,0,none⟩) dR).trans cd)
     go_roundw
     case rel=>exact ⟨k+1,by omega,by go_num,(Ma.zE aE Hz.p (by rw [Hn.p]; exact Hd.p)).symm.trans hp.p,bN.p.trans (ko.mono dR)⟩
     case measure=>simp [intOf]; omega
    ·have hdd:((n:Int) != d)=true:=by rw [bne_iff_ne]; exact hd
     have Hd:=U hd;clear hd
     go_wp2_with (go_at_call 68; refine (dp _ _ _ eB).mono ?_; rintro e w1 ⟨rfl,ko⟩; have ZZ:=(ko.cell (p:=⟨w.heap.size,0,none⟩) dR).trans cd)
     go_ret;exact ⟨ml (by rw [<- hp.p]; exact Ma.Cs aE Hz.p (by rw [Hn.p]; exact Hd.p)),Rg.acc kq ko⟩
   ·have Hz:=U hz
    have nw:((Ma.bB ll[k]) != 0)=true:=by rw [bne_iff_ne]; exact hz
    clear hz
    go_wp2_with (go_at_call 68; refine (sQ eB kq).mono ?_; rintro e w1 ⟨rfl,ko⟩)
    go_ret;exact ⟨ml (by rw [<- hp.p]; exact Ma.Cr aE Hz.p),ko⟩
  ·go_wp2
   go_ret;exact ⟨ml (by rw [<- hp.p]; exact Ma.Ct (by omega)),kq⟩
theorem uO (gv:Value) (d:Int) (ll:List (List Int)) (w:World) (h:Rg.Rows w gv ll) :
  Calls Tryz.prog 88 #[.agg #[.int .i64 d,gv]] w fun e w'=>e=.returned (.int .i64 (Ma.fa d ll))/\Below w.heap.size w w':=by
 by_cases h1:1<=d
 ·by_cases h2:d<=64
  ·by_cases h3:ll.length<=16
   ·rw [Ma.LS h1 h2 h3]; exact v_ gv d ll w h h1 h2 h3
   ·have hg:=U (Ma.FD h1 h2 h3)
    obtain ⟨ad,cap,rfl,hc,hm,_,aO⟩:=h.shape;clear aO h
    have h3':16<ll.length:=by omega
    clear h3
    go_enter Tryz.func88,Tryz.ntmps88
    go_wp2;go_ret;exact ⟨ml hg.p,(Below.refl _ _).alloc (Nat.le_refl _) _⟩
  ·have hg:=U (Ma.uf (d:=d) (ll:=ll) (by omega))
   have L0:64<d:=by omega
   clear h2 h
   go_enter Tryz.func88,Tryz.ntmps88
   go_wp2;go_ret;exact ⟨ml hg.p,(Below.refl _ _).alloc (Nat.le_refl _) _⟩
 ·have hg:=U (Ma.uf (d:=d) (ll:=ll) (by omega))
  have Wx:d<1:=by omega
  clear h1 h
  go_enter Tryz.func88,Tryz.ntmps88
  go_wp2;go_ret;exact ⟨ml hg.p,(Below.refl _ _).alloc (Nat.le_refl _) _⟩

theorem cj:Rg.pV Tryz.prog 27 3 (.int .i64 0) 8:=⟨Tryz.underlying27,qP,rfl,by decide⟩
def JQ (l:List Nat):List Value:=l.map fun (x:Nat)=>Value.int .i64 (x:Int)
theorem zN (l:List Nat) (x:Nat):JQ (l++[x])=JQ l++[.int .i64 (x:Int)]:=by simp [JQ]
theorem uP {a b:List Nat} {k:Nat} (hk:k<a.length):Ma.aj (a.take (k+1)) b=Ma.aj (a.take k) b++[b.getD a[k] 0]:=by
 rw [List.take_succ_eq_append_getElem hk]; unfold Ma.aj; rw [List.map_append]; rfl
theorem nS (va vb:Value) (a b:List Nat) (w:World) (h:Rg.NP w va a) (h':Rg.NP w vb b) (eX:∀ x∈a,x<b.length) (hn:a.length<=1000) :
  Calls Tryz.prog 34 #[va,vb] w fun e w'=>∃ v,e=.returned v/\Rg.px w w' v (Ma.aj a b)/\Below w.heap.size w w':=by
 obtain ⟨ad,cap,rfl,hc,_,_,aO⟩:=h.shape;obtain ⟨nT,cS,rfl,eD,CD,_,cT⟩:=h'.shape;have H1:=U aO;have H2:=U cT;clear aO cT h h'
 go_enter Tryz.func34,Tryz.ntmps34
 go_wp2
 go_loopw [5,6] (fun v i wr=>∃ k:Nat,k<=a.length/\i=.int .i64 k/\Hid (wr.ownsRow w.heap.size 3 1 v k (JQ (Ma.aj (a.take k) b)))/\Hid (Below w.heap.size w wr)) (fun _ i _=>a.length - (intOf i).toNat)
 case atStart=>exact ⟨0,by omega,rfl,World.ownsRow_nil _ _ _ _,Below.refl _ _⟩
 case round =>
  obtain ⟨k,hk,rfl,hs,bN⟩:=hrel
  by_cases aE:k<a.length
  ·obtain ⟨b1,o1,rfl,cX,cY⟩:=H1.p (by omega)
   have e1:=(bN.p.cell (p:=⟨b1,o1+k,none⟩) cX).trans (cY k aE);have hx:=eX _ (List.getElem_mem aE);have mj:=uP (b:=b) aE;have hg:=Ma.getD_lt hx;generalize a[k]=x at e1 hx mj hg;have Tc:=U mj;obtain ⟨b2,o2,rfl,dG,nU⟩:=H2.p (by omega);have e2:=(bN.p.cell (p:=⟨b2,o2+x,none⟩) dG).trans (nU x hx);generalize b[x]=y at e2 hg;have Hg:=U hg;clear hg mj cY nU
   go_wp2_with (at_builtin; refine Rg.IQ rfl _ _ 27 rfl cj hs.p bN.p _ (by simp [Value.oneCell']) rfl rfl (by omega) ?_; intro v' w1 mq cX _ _ _)
   go_roundw
   case rel=>exact ⟨k+1,by omega,by go_num,by rw [Tc.p,Hg.p,zN]; exact mq,cX⟩
   case measure=>simp [intOf]; omega
  ·obtain rfl:k=a.length:=by omega
   go_wp2;go_ret;exact ⟨_,rfl,⟨Rg.NP.cR (n:=a.length) (by have:=hs.p; rwa [List.take_length] at this) (by omega),Rg.eW.cR hs.p⟩,bN.p⟩
theorem CM (v:Value) (a:List Nat) (w:World) (h:Rg.NP w v a) (ha:Ma.iZ a) (hn:a.length<=1000) :
  Calls Tryz.prog 35 #[v] w fun e w'=>∃ v,e=.returned v/\Rg.px w w' v (Ma.aS a)/\Below w.heap.size w w':=by
 obtain ⟨ad,cap,rfl,hc,_,_,aO⟩:=h.shape;have Hr:=U aO;clear aO h;have gB:=kP a.length (by omega) w;have cr:=U (World.rowIs_made w (.int .i64 0) a.length 3)
 go_enter Tryz.func35,Tryz.ntmps35
 go_wp2;clear gB
 go_loopw [4] (fun i wr=>∃ k:Nat,k<=a.length/\i=.int .i64 k/\Hid (wr.rowIs w.heap.size 3 a.length (fun j=>.int .i64 (if j∈a.take k then ((a.idxOf j:Nat):Int) else 0)))/\Below w.heap.size w wr) (fun i _=>a.length - (intOf i).toNat)
 case atStart=>exact ⟨0,by omega,rfl,cr.p.congr (fun i hi=>by simp),(Below.refl _ _).alloc (Nat.le_refl _) _⟩
 case round =>
  obtain ⟨k,hk,rfl,hs,bN⟩:=hrel;obtain ⟨hc,hf⟩:=Rg.sM bN
  by_cases aE:k<a.length
  ·obtain ⟨b,o,rfl,hb,hr⟩:=Hr.p (by omega)
   have e0:wr.cell? ⟨b,o+k,none⟩=some (.int .i64 ((a[k]:Nat):Int)):=(hc b (o+k) hb).trans (hr k aE);have uN:a[k]<a.length:=Ma.qI ha aE;have vY:=Ma.lK ha aE
   have jC:∀ i,i∈a.take (k+1)↔(i∈a.take k∨i=a[k]):=fun i=>by rw [List.take_succ_eq_append_getElem aE,List.mem_append,List.mem_singleton]
   generalize hx:a[k]=x at *;have LZ:=U vY;have nR:=U jC;clear hx hc hf vY jC hr;have c1:=hs.p.cell uN;have f1:=hs.p.frozen x;generalize (Value.int .i64 (if x∈a.take k then ((a.idxOf x:Nat):Int) else 0))=u0 at c1;go_wp2
   go_roundw
   case rel =>
    refine ⟨k+1,by omega,by go_num,?_,bN.setCell (Nat.le_refl _) _⟩;refine (hs.p.set x _).congr fun i hi=>?_
    by_cases e:i=x
    ·subst e; rw [if_pos rfl,if_pos ((nR.p i).2 (.inr rfl)),LZ.p]
    ·rw [if_neg e]
     by_cases e2:i∈a.take k
     ·rw [if_pos e2,if_pos ((nR.p i).2 (.inl e2))]
     ·rw [if_neg e2,if_neg (fun e3=>((nR.p i).1 e3).elim e2 e)]
   case measure=>simp [intOf]; omega
  ·obtain rfl:k=a.length:=by omega
   go_wp2;go_ret;refine ⟨_,rfl,⟨Rg.NP.fR hs.p (by rw [Ma.cM]) (by omega) (fun i hi=>?_),Rg.eW.mk _ _ _ _⟩,by assumption⟩;rw [Ma.o5];rw [Ma.cM] at hi;rw [List.take_of_length_le (Nat.le_refl _),if_pos (Ma.qJ ha hi)]

theorem NP.ints {l:List Nat} (h:Rg.NP w v l):Rg.Ints w v (Ma.ag l):=h

theorem bK:Rg.pV Tryz.prog 26 3 (.int .i64 0) 8:=⟨Tryz.underlying26,qP,rfl,by decide⟩
theorem cU:(Tryz.prog.info? 27).map (fun i=>(i.zero,i.size,i.bytes))=some (some (.slice none 0 0),1,24):=by kernel_rfl
theorem bP:Rg.pV Tryz.prog 41 27 (.slice none 0 0) 24:=⟨Tryz.underlying41,cU,rfl,by decide⟩
theorem ah {ad:Addr} (h:w.cell? ad=some v):(loadVar 3 ad).run Tryz.prog w=.ok v w:=by
 simp [loadVar,isAgg,run_underlying Tryz.underlying3,load];simp [Sem.run,h]
theorem qQ (X:World) (u v:Value) (hu:∃ a n c,u=.slice a n c) (hv:∃ a n c,v=.slice a n c):(Instr.buildSlice 41 2 #[(0,u),(1,v)]).run Tryz.prog X=.ok (.slice (some ⟨X.heap.size,0,none⟩) 2 2) (X.alloc (.cells #[u,v] 27)):=by
 obtain ⟨i0,hi,cN,bs,dI⟩:=info_parts cU;obtain ⟨a,n,c,rfl⟩:=hu;obtain ⟨a',n',c',rfl⟩:=hv;refine run_buildSlice X 41 27 2 _ _ i0 _ Tryz.underlying41 hi cN (by rw [bs]; decide) (by rw [bs]; decide) ?_;generalize (fun x=>((Value.slice none 0 0).cells)[x % (Value.slice none 0 0).cells.size]!)=f;rw [bs];have h1:Array.range (2*1)=#[0,1]:=rfl;simp [Instr.fill,Value.cells,h1]
theorem pX:(Tryz.prog.info? 43).map (fun i=>(i.zero,i.size,i.bytes))=some (some (.agg #[.int .i64 0,.slice none 0 0]),2,32):=by kernel_rfl
theorem im {b:Nat} (d:Int) (a:Option Addr) (n c:Nat) (h1:w.cell? ⟨b,0,none⟩=some u1) (h2:w.cell? ⟨b,1,none⟩=some u2) (f1:w.frozen? ⟨b,0,none⟩=false) (f2:w.frozen? ⟨b,1,none⟩=false) :
  (storeVar 43 ⟨b,0,none⟩ (.agg #[.int .i64 d,.slice a n c])).run Tryz.prog w=.ok () ((w.setCell ⟨b,0,none⟩ (.int .i64 d)).setCell ⟨b,1,none⟩ (.slice a n c)):=by
 obtain ⟨i0,hi,cN,bs,dI⟩:=info_parts pX
 have g2:(w.setCell ⟨b,0,none⟩ (.int .i64 d)).cell? ⟨b,1,none⟩=some u2:=by
  rw [World.cell?_setCell_other (h:=by intro e; injection e with e1 e2; omega) ..]
  exact h2
 have gf:(w.setCell ⟨b,0,none⟩ (.int .i64 d)).frozen? ⟨b,1,none⟩=false:=by rw [World.frozen?_setCell]; exact f2
 have pY:(⟨b,0,none⟩:Addr).add 0=⟨b,0,none⟩:=by simp [Addr.add]
 have mr:(⟨b,0,none⟩:Addr).add 1=⟨b,1,none⟩:=by simp [Addr.add]
 simp [storeVar,sizeOf,typeInfo,hi,bs,Value.cells,storeCells,store,pY,mr];simp [Sem.run,h1,f1,g2,gf]
theorem je {b:Nat} {x y:Value} (h1:w.cell? ⟨b,0,none⟩=some x) (h2:w.cell? ⟨b,1,none⟩=some y):(loadVar 43 ⟨b,0,none⟩).run Tryz.prog w=.ok (.agg #[x,y]) w:=by
 obtain ⟨i0,hi,cN,bs,dI⟩:=info_parts pX
 have pY:(⟨b,0,none⟩:Addr).add 0=⟨b,0,none⟩:=by simp [Addr.add]
 have mr:(⟨b,0,none⟩:Addr).add 1=⟨b,1,none⟩:=by simp [Addr.add]
 have hg:(isAgg 43).run Tryz.prog w=.ok true w:=by kernel_rfl
 simp [loadVar,hg,sizeOf,typeInfo,hi,bs,loadCells,loadCellsFrom,load,pY,mr];simp [Sem.run,h1,h2]
theorem wj {fn:Func} {p:Tmp} (h:fn.results=#[.cell p 43]) (tmps:Array Value) {b:Nat} {x y:Value} (hp:tmps.getD p undef=.pointer (some ⟨b,0,none⟩)) (h1:w.cell? ⟨b,0,none⟩=some x) (h2:w.cell? ⟨b,1,none⟩=some y) :
  (results fn tmps).run Tryz.prog w=.ok (.agg #[x,y]) w:=by
 have sR:tmps[p]?.getD undef=.pointer (some ⟨b,0,none⟩):=by simpa using hp
 simp [results,h,sR,asAddr,je h1 h2]
theorem qR {o:Oper} {a:Act} (x y:Operand) (ho:o.op=.buildSlice 41 2 #[(0,x),(1,y)]) (hx:a.eval x=u1) (hy:a.eval y=u2)
  (hr:(Instr.buildSlice 41 2 #[(0,u1),(1,u2)]).run Tryz.prog w=.ok v w'):(execOp a.eval o).run Tryz.prog w=.ok (.value v) w':=by
 subst hx hy;unfold execOp;simp only [ho,Sem.run_bind,Sem.run_pure];simp only [List.map_toArray,List.map_cons,List.map_nil];rw [hr];rfl
theorem wm {b:Nat} (x y:Value) (h1:W.cell? ⟨b,0,none⟩=some u1) (h2:W.cell? ⟨b,1,none⟩=some u2) (hb:Below B w W) (hB:B<=b:=by omega) :
  ((W.setCell ⟨b,0,none⟩ x).setCell ⟨b,1,none⟩ y).cell? ⟨b,0,none⟩=some x/\((W.setCell ⟨b,0,none⟩ x).setCell ⟨b,1,none⟩ y).cell? ⟨b,1,none⟩=some y/\Below B w ((W.setCell ⟨b,0,none⟩ x).setCell ⟨b,1,none⟩ y):=by
 have g2:(W.setCell ⟨b,0,none⟩ x).cell? ⟨b,1,none⟩=some u2:=by
  rw [World.cell?_setCell_other (h:=by intro e; injection e with e1 e2; omega) ..]
  exact h2
 refine ⟨?_,World.cell?_setCell_same (h:=g2) ..,(hb.setCell hB _).setCell hB _⟩
 rw [World.cell?_setCell_other (h:=by intro e; injection e with e1 e2; omega) ..]
 exact World.cell?_setCell_same (h:=h1) ..
theorem cp (w:World) (cs:Array Value) (t:TypeId) (n j:Nat):((w.alloc (.cells cs t)).drewN n).frozen? ⟨w.heap.size,j,none⟩=false:=by
 have h:(w.alloc (.cells cs t)).frozen? ⟨w.heap.size,j,none⟩=false:=by simp
 exact h
theorem JR {P:Program} {ops:Array Oper} {rest:List Oper} {o:Oper} {a:Act} {Q:Exit->Act->World->Prop} (d:Option Tmp) (hg:o.guard=none) (hd:o.dst=d) (f:FuncId) (args:Array Value)
  (hr:(execOp a.eval o).run P w=.ok (.enter f args) w) (hc:Calls P f args w fun e w'=>∃ v,e=.returned v/\wpList P ops Q rest (a.put d v) w'):wpList P ops Q (o :: rest) a w:=by
 subst hd;refine wpList_plain hg fun K hK=>?_;unfold Oper.wp;rw [hr,Oper.upon_enter];refine hc.mono fun e w' ⟨v,h1,h2⟩=>?_;subst h1;exact hK _ _ h2
theorem iz {o:Oper} {a:Act} (ho:o.op=.alloc 43):(execOp a.eval o).run Tryz.prog w=.ok (.value (.pointer (some ⟨w.heap.size,0,none⟩))) (w.alloc (.cells #[.int .i64 0,.slice none 0 0] 43)):=by
 obtain ⟨i0,hi,cN,bs,dI⟩:=info_parts pX;unfold execOp;simp [ho,Instr.alloc,typeInfo,zeroValue,hi,cN,newVar,Value.cells,Result.andThen];rfl
theorem sS:(Tryz.prog.info? 3).map (fun i=>(i.zero,i.size,i.bytes))=some (some (.int .i64 0),1,8):=by kernel_rfl
theorem aw {o:Oper} {a:Act} (F:FuncId) (x y:Operand) (nV:Array TypeId) (ho:o.op=.call { callee:=.value (.func F),args:=#[x,y],argTypes:=nV }) (hx:a.eval x=u1) (hy:a.eval y=u2)
  (hF:(callFunc F #[u1,u2]).run Tryz.prog w=.ok (.enter F #[u1,u2]) w):(execOp a.eval o).run Tryz.prog w=.ok (.enter F #[u1,u2]) w:=by
 unfold execOp;have hf:a.eval (.func F)=.func (.func F) #[] #[]:=rfl;simp [ho,hx,hy,hf,resolve,invoke,Deferred.ofValue,hF]
theorem aX {o:Oper} {a:Act} (x:Operand) (i:Nat) (ho:o.op=.extract x i) {vs:Array Value} (hx:a.eval x=.tuple vs) (hv:vs[i]?=some v):(execOp a.eval o).run Tryz.prog w=.ok (.value v) w:=by
 unfold execOp;simp [ho,hx,hv,Instr.extract]
theorem ft {o:Oper} {a:Act} (t e:TypeId) (len:Nat) (parts:Array (Nat × Operand)) (ho:o.op=.buildSlice t len parts) (zs:List Int)
  (hu:Tryz.prog.underlying t=some (.slice e)) (dR:(Tryz.prog.info? e).map (·.size)=some 1) (hz:((Tryz.prog.info? e).bind (·.zero)).isSome=true)
  (hlen:len=zs.length) (L1:0<len) (ZX:len<=2 ^ 24)
  (P0:parts.toList=(zs.zipIdx 0).map fun x=>(x.2,Operand.const (Value.int .i64 x.1))) :
  (execOp a.eval o).run Tryz.prog w=.ok (.value (.slice (some ⟨w.heap.size,0,none⟩) len len)) (w.alloc (.cells (zs.map (Value.int .i64)).toArray e)):=by
 cases FF:Tryz.prog.info? e with
 | none=>simp [FF] at dR
 | some ie =>
  simp only [FF,Option.map_some,Option.some.injEq,Option.bind_some] at dR hz;obtain ⟨z,Z0⟩:=Option.isSome_iff_exists.1 hz
  have h1:=run_buildSlice w t e len (parts.map fun (i,x)=>(i,a.eval x)) ((zs.map (Value.int .i64)).toArray) ie z hu FF Z0 (by rw [dR]; omega) (by rw [dR]; omega) (by
   rw [parts_eval a parts .i64 zs P0,dR]
   exact Great.fill_flat _ _ (fun v hv=>by obtain ⟨n,_,rfl⟩:=List.mem_map.1 hv; rfl) (by simp [hlen]))
  unfold execOp;simp only [ho,Sem.run_bind,h1,Result.andThen_ok,Sem.run_pure]
theorem fS (w:World) (t:TypeId) (zs:List Int) (hl:zs.length<=1000):Rg.Ints (w.alloc (.cells (zs.map (Value.int .i64)).toArray t)) (.slice (some ⟨w.heap.size,0,none⟩) zs.length zs.length) zs:=by
 refine ⟨_,zs.length,by simp,by simp,by unfold maxLen; omega,by simp [Rg.uL]; omega,fun _=>⟨w.heap.size,0,rfl,by simp,fun i hi=>?_⟩⟩;rw [Nat.zero_add,Rg.aI];simp only [List.getElem?_toArray];exact List.getElem?_eq_getElem hi
theorem nW:(Tryz.prog.info? 3).map (·.size)=some 1:=by kernel_rfl
theorem ui:((Tryz.prog.info? 3).bind (·.zero)).isSome=true:=by kernel_rfl
theorem sT {o:Oper} {a:Act} (F:FuncId) (nV:Array TypeId) (ho:o.op=.call { callee:=.value (.func F),args:=#[],argTypes:=nV })
  (hF:(callFunc F #[]).run Tryz.prog w=.ok (.enter F #[]) w):(execOp a.eval o).run Tryz.prog w=.ok (.enter F #[]) w:=by
 unfold execOp;have hf:a.eval (.func F)=.func (.func F) #[] #[]:=rfl;simp [ho,hf,resolve,invoke,Deferred.ofValue,hF]
theorem dH {o:Oper} {a:Act} (F:FuncId) (x y z:Operand) (nV:Array TypeId) (ho:o.op=.call { callee:=.value (.func F),args:=#[x,y,z],argTypes:=nV }) (hx:a.eval x=u1) (hy:a.eval y=u2) (hz:a.eval z=u3)
  (hF:(callFunc F #[u1,u2,u3]).run Tryz.prog w=.ok (.enter F #[u1,u2,u3]) w):(execOp a.eval o).run Tryz.prog w=.ok (.enter F #[u1,u2,u3]) w:=by
 unfold execOp;have hf:a.eval (.func F)=.func (.func F) #[] #[]:=rfl;simp [ho,hx,hy,hz,hf,resolve,invoke,Deferred.ofValue,hF]
theorem ec {o:Oper} {a:Act} (x y z:Operand) (ho:o.op=.pick x y z) (hx:a.eval x=.bool true) (hy:a.eval y=v):(execOp a.eval o).run Tryz.prog w=.ok (.value v) w:=by
 unfold execOp;simp [ho,hx,hy,asBool]
theorem aF {o:Oper} {a:Act} (F:FuncId) (x:Operand) (nV:Array TypeId) (ho:o.op=.call { callee:=.value (.func F),args:=#[x],argTypes:=nV }) (hx:a.eval x=u1)
  (hF:(callFunc F #[u1]).run Tryz.prog w=.ok (.enter F #[u1]) w):(execOp a.eval o).run Tryz.prog w=.ok (.enter F #[u1]) w:=by
 unfold execOp;have hf:a.eval (.func F)=.func (.func F) #[] #[]:=rfl;simp [ho,hx,hf,resolve,invoke,Deferred.ofValue,hF]
theorem yH {o:Oper} {a:Act} {d:Int} (x:Operand) (ho:o.op=.build 43 #[(0,x)]) (hx:a.eval x=.int .i64 d) :
  (execOp a.eval o).run Tryz.prog w=.ok (.value (.agg #[.int .i64 d,.slice none 0 0])) w:=by
 unfold execOp;simp only [ho,Sem.run_bind,Sem.run_pure];simp only [List.map_toArray,List.map_cons,List.map_nil,hx]
 have h:(Instr.build 43 #[(0,.int .i64 d)]).run Tryz.prog w=.ok (.agg #[.int .i64 d,.slice none 0 0]) w:=by kernel_rfl
 first | (rw [h]; rfl) | (erw [h]; rfl)
theorem dg {o:Oper} {a:Act} {b:Nat} (x:Operand) (ho:o.op=.fieldAddr 43 x 1) (hx:a.eval x=.pointer (some ⟨b,0,none⟩)) :
  (execOp a.eval o).run Tryz.prog w=.ok (.value (.pointer (some ⟨b,1,none⟩))) w:=by
 have h:(Instr.fieldAt 43 (.pointer (some ⟨b,0,none⟩)) 1).run Tryz.prog w=.ok (.pointer (some ⟨b,1,none⟩)) w:=by kernel_rfl
 unfold execOp;simp only [ho,hx,Sem.run_bind,Sem.run_pure,h,Result.andThen_ok]
theorem FG {P:Program} {ops:Array Oper} {rest:List Oper} {o:Oper} {a:Act} {Q:Exit->Act->World->Prop} (d:Option Tmp) (hw:Region.wanted o (yielded ops a.tmps)=true) (hd:o.dst=d)
  (hr:(execOp a.eval o).run P w=.ok (.value v) w') (h:wpList P ops Q rest (a.put d v) w'):wpList P ops Q (o :: rest) a w:=by
 subst hd;unfold wpList;rw [if_pos hw]
 left
 unfold Oper.wp;rw [hr];exact h
theorem kr {P:Program} {ops:Array Oper} {rest:List Oper} {o:Oper} {a:Act} {Q:Exit->Act->World->Prop} (d:Option Tmp) (hw:Region.wanted o (yielded ops a.tmps)=true) (hd:o.dst=d) (f:FuncId) (args:Array Value)
  (hr:(execOp a.eval o).run P w=.ok (.enter f args) w) (hc:Calls P f args w fun e w'=>∃ v,e=.returned v/\wpList P ops Q rest (a.put d v) w'):wpList P ops Q (o :: rest) a w:=by
 subst hd;unfold wpList;rw [if_pos hw]
 left
 unfold Oper.wp;rw [hr,Oper.upon_enter];refine hc.mono fun e w' ⟨v,h1,h2⟩=>?_;subst h1;exact h2
theorem JS {o:Oper} {a:Act} {u v:Int} (x y:Operand) (ho:o.op=.binOp .eql 30 x y 30) (hx:a.eval x=.int .i64 u) (hy:a.eval y=.int .i64 v) (h:u=v):(execOp a.eval o).run Tryz.prog w=.ok (.value (.bool true)) w:=by
 subst h
 have h:(binOp .eql 30 (.int .i64 u) (.int .i64 u)).run Tryz.prog w=.ok (.bool true) w:=by
  simp [binOp,Op.intCmp]
 have hg:(eqGuard .eql 30 x y (.int .i64 u) (.int .i64 u)).run Tryz.prog w=.ok () w:=by
  simp [eqGuard]
 unfold execOp;simp only [ho,hx,hy,Sem.run_bind,Sem.run_pure,hg,h,Result.andThen_ok]
theorem aT {o:Oper} {a:Act} {u v:Int} {R:Value} (op:BinOp) (t:TypeId) (x y:Operand) (ho:o.op=.binOp op t x y t) (hx:a.eval x=.int .i64 u) (hy:a.eval y=.int .i64 v) (h1:(binOp op t (.int .i64 u) (.int .i64 v)).run Tryz.prog w=.ok R w):(execOp a.eval o).run Tryz.prog w=.ok (.value R) w:=by
 have hg:(eqGuard op t x y (.int .i64 u) (.int .i64 v)).run Tryz.prog w=.ok () w:=by
  simp [eqGuard]
 unfold execOp;simp only [ho,hx,hy,Sem.run_bind,Sem.run_pure,hg,h1,Result.andThen_ok]
theorem FH {u v r:Int} (t:TypeId) (h:u*v=r) (hb:-9223372036854775808<=r/\r<=9223372036854775807):(binOp .mul t (.int .i64 u) (.int .i64 v)).run Tryz.prog w=.ok (.int .i64 r) w:=by
 simp [binOp,Op.intArith,h,IntWalk.i64_in r hb]
theorem bA {u v r:Int} (t:TypeId) (h:u+v=r) (hb:-9223372036854775808<=r/\r<=9223372036854775807):(binOp .add t (.int .i64 u) (.int .i64 v)).run Tryz.prog w=.ok (.int .i64 r) w:=by
 simp [binOp,Op.intArith,h,IntWalk.i64_in r hb]
theorem gC {u v r:Int} (t:TypeId) (h:u - v=r) (hb:-9223372036854775808<=r/\r<=9223372036854775807):(binOp .sub t (.int .i64 u) (.int .i64 v)).run Tryz.prog w=.ok (.int .i64 r) w:=by
 simp [binOp,Op.intArith,h,IntWalk.i64_in r hb]
theorem Td {u v r:Int} (t:TypeId) (hv:v≠0) (h:u.tdiv v=r) (hb:-9223372036854775808<=r/\r<=9223372036854775807):(binOp .quo t (.int .i64 u) (.int .i64 v)).run Tryz.prog w=.ok (.int .i64 r) w:=by
 simp [binOp,Op.intDiv,hv,h,IntWalk.i64_in r hb]
theorem fA {u v:Int} {b:Bool} (t:TypeId) (h:decide (u=v)=b):(binOp .eql t (.int .i64 u) (.int .i64 v)).run Tryz.prog w=.ok (.bool b) w:=by
 subst h;simp [binOp,Op.intCmp];rfl
theorem dV {u v:Int} {b:Bool} (t:TypeId) (h:decide (v<u)=b):(binOp .gtr t (.int .i64 u) (.int .i64 v)).run Tryz.prog w=.ok (.bool b) w:=by
 subst h;simp [binOp,Op.intCmp]
theorem bm {o:Oper} {a:Act} (x:Operand) (t:TypeId) (b:Bool) (ho:o.op=.unOp .not t x) (hx:a.eval x=.bool b):(execOp a.eval o).run Tryz.prog w=.ok (.value (.bool !b)) w:=by
 have h1:(Op.unary .not (.bool b)).run Tryz.prog w=.ok (.bool !b) w:=by
  simp [Op.unary]
 unfold execOp;simp only [ho,hx,Sem.run_bind,Sem.run_pure,h1,Result.andThen_ok]
theorem CV {o:Oper} {a:Act} (x y z:Operand) (ho:o.op=.pick x y z) (hx:a.eval x=.bool false) (hz:a.eval z=v):(execOp a.eval o).run Tryz.prog w=.ok (.value v) w:=by
 unfold execOp;simp [ho,hx,hz,asBool]
theorem kc {o:Oper} {a:Act} (e:TypeId) (x:Operand) (t:TypeId) (ho:o.op=.call { callee:=.builtin .len,args:=#[x],argTypes:=#[t] }) (ht:Tryz.prog.underlying t=some (.slice e)) (ad:Option Addr) (n c:Nat) (hx:a.eval x=.slice ad n c):(execOp a.eval o).run Tryz.prog w=.ok (.value (.int .i64 (n:Int))) w:=by
 have hw:goInt (n:Int)=.int .i64 (n:Int):=rfl;unfold execOp;simp [ho,hx,resolve,invoke,builtin,Builtin.len_,run_underlying ht,Result.andThen,hw]
theorem C6 {P:Program} {ops:Array Oper} {rest:List Oper} {o:Oper} {a:Act} {Q:Exit->Act->World->Prop} (d:Option Tmp) (hw:Region.wanted o (yielded ops a.tmps)=false) (hd:o.dst=d)
  (h:wpList P ops Q rest (a.put d undef) w):wpList P ops Q (o :: rest) a w:=by
 subst hd;unfold wpList;rw [if_neg (by rw [hw]; decide)];exact h
theorem FL {a:Addr} (h:w.cell? a=some v):a.spot=none:=by
 unfold World.cell? at h
 split at h
 ·split at h
  ·cases h
  ·rename_i hs; simpa using hs
 ·cases h
theorem JT {a:Addr} {b o:Nat} (h:a=⟨b,o,none⟩) (i:Nat):a.add i=⟨b,o+i,none⟩:=by
 subst h;unfold Addr.add
 split
 ·rename_i h0; subst h0; rfl
 ·rfl
theorem P1:Tryz.prog.cellsOf 3=1:=by kernel_rfl
theorem eH {a:Addr} (h:w.cell? a=some v):a.block<w.heap.size:=by
 unfold World.cell? at h
 split at h
 ·rename_i hh; exact (Array.getElem?_eq_some_iff.1 hh).1
 ·cases h
end Go.Proofs.YtpedbljnhnoohaaGreat
namespace Go.Proofs.Rg
section
open Go.RowKit
theorem _root_.d9 {P : Program} {ops : Array Oper} {rest : List Oper} {o : Oper} {a : Act} {Q : Exit -> Act -> World -> Prop} (d : Nat) (hr : (execOp a.eval o).run P w = .ok (.value v) w') (h : wpList P ops Q rest (a.put (some d) v) w') (hw : Region.wanted o (yielded ops a.tmps) = true := by exact rfl) (hd : o.dst = some d := by exact rfl) : wpList P ops Q (o :: rest) a w := Go.Proofs.YtpedbljnhnoohaaGreat.FG (some d) hw hd hr h
theorem _root_.f7 {P : Program} {ops : Array Oper} {rest : List Oper} {o : Oper} {a : Act} {Q : Exit -> Act -> World -> Prop} (d : Nat) {f : FuncId} {args : Array Value} (hr : (execOp a.eval o).run P w = .ok (.enter f args) w) (hc : Calls P f args w fun e w' => ∃ v, e = .returned v /\ wpList P ops Q rest (a.put (some d) v) w') (hg : o.guard = none := by exact rfl) (hd : o.dst = some d := by exact rfl) : wpList P ops Q (o :: rest) a w := Go.Proofs.YtpedbljnhnoohaaGreat.JR (some d) hg hd f args hr hc
theorem _root_.f8 {p : Prop} [Decidable p] (h : p := by omega) : decide p = true := decide_eq_true h
theorem _root_.f9 {p : Prop} [Decidable p] (h : ¬ p := by omega) : decide p = false := decide_eq_false h
end
section
open Go.RowKit Go.Proofs.YtpedbljnhnoohaaGreat
theorem _root_.g7 {P : Program} {ops : Array Oper} {rest : List Oper} {o : Oper} {a : Act} {Q : Exit -> Act -> World -> Prop} (d : Nat) (h : wpList P ops Q rest (a.put (some d) undef) w) (hw : Region.wanted o (yielded ops a.tmps) = false := by kernel_rfl) (hd : o.dst = some d := by exact rfl) : wpList P ops Q (o :: rest) a w := C6 (some d) hw hd h
theorem _root_.g8 (v : Value) (p : Addr) {P : Program} {o : Oper} {a : Act} {t : TypeId} {x : Operand} (hr : (loadVar t p).run P w = .ok v w) (ho : o.op = .load t x := by exact rfl) (hx : a.eval x = .pointer (some p) := by exact rfl) : (execOp a.eval o).run P w = .ok (.value v) w := fq (v := v) t x ho p hx hr
theorem _root_.g9 (R : Value) (op : BinOp) {o : Oper} {a : Act} {u v : Int} {t : TypeId} {x y : Operand} (ho : o.op = .binOp op t x y t := by exact rfl) (hx : a.eval x = .int .i64 u := by exact rfl) (hy : a.eval y = .int .i64 v := by exact rfl) (h : (binOp op t (.int .i64 u) (.int .i64 v)).run Tryz.prog w = .ok R w) : (execOp a.eval o).run Tryz.prog w = .ok (.value R) w := aT op t x y ho hx hy h
theorem _root_.i3 {o : Oper} {a : Act} {e : TypeId} {x : Operand} {t : TypeId} (ht : Tryz.prog.underlying t = some (.slice e)) {ad : Option Addr} {c:Nat} (ho : o.op = .call { callee := .builtin .len, args := #[x], argTypes := #[t] } := by exact rfl) (hx : a.eval x = .slice ad n c := by exact rfl) : (execOp a.eval o).run Tryz.prog w = .ok (.value (.int .i64 (n : Int))) w := kc e x t ho ht ad n c hx
theorem _root_.i4 (v : Value) {o : Oper} {a : Act} {x y z : Operand} (ho : o.op = .pick x y z := by exact rfl) (hx : a.eval x = .bool false := by exact rfl) (hz : a.eval z = v := by exact rfl) : (execOp a.eval o).run Tryz.prog w = .ok (.value v) w := CV x y z ho hx hz
theorem _root_.i5 (v : Value) {o : Oper} {a : Act} {x y z : Operand} (ho : o.op = .pick x y z := by exact rfl) (hx : a.eval x = .bool true := by exact rfl) (hy : a.eval y = v := by exact rfl) : (execOp a.eval o).run Tryz.prog w = .ok (.value v) w := ec x y z ho hx hy
theorem _root_.i6 (v : Value) {o : Oper} {a : Act} {x : Operand} {i : Nat} {vs : Array Value} (ho : o.op = .extract x i := by exact rfl) (hx : a.eval x = .tuple vs := by exact rfl) (hv : vs[i]? = some v := by exact rfl) : (execOp a.eval o).run Tryz.prog w = .ok (.value v) w := aX x i ho hx hv
theorem _root_.i7 {P : Program} {md : Region.Mode} {ops : Array Oper} {Q : Exit -> Act -> World -> Prop} {T T2 : World -> Prop} {oi : Oper} {l : Array Bool} {a : Act} (i t : Nat) (v : Value) (d : Nat) (hi : ops[i]? = some oi) (hd : oi.dst = some d) (hy : YieldsIf P ops T oi v a) (hS : aG t T T2 l w) (h : Any P md ops Q (aG t T T2) n (l.setIfInBounds i true) (a.put (some d) v) w)
    (hs : Region.noSelect ops = true := by kernel_rfl) (hf : Region.free md ops l i = true := by kernel_rfl) (hr : (Region.ready md ops l).contains i = true := by kernel_rfl) (hQ : ∀ c a w, Q (.panic c) (a.put (some d) v) w -> Q (.panic c) a w := by exact fun _ _ _ h => h) (nu : (t == i) = false := by exact rfl) (hw : Region.waitsFor md ops t i = true := by kernel_rfl) (hl : l.getD t false = false := by exact rfl) : Any P md ops Q (aG t T T2) (n + 1) l a w := Any.Tb (some d) hi hd hs hf hr hQ nu hw hl hy hS h
theorem _root_.i8 {P : Program} {md : Region.Mode} {ops : Array Oper} {Q : Exit -> Act -> World -> Prop} {S : Array Bool -> World -> Prop} {oi : Oper} {l : Array Bool} {a : Act} (i d : Nat) (hi : ops[i]? = some oi) (hd : oi.dst = some d) (hr : (execOp a.eval oi).run P w = .ok (.value v) w') (hS : S (l.setIfInBounds i true) w') (h : Any P md ops Q S n (l.setIfInBounds i true) (a.put (some d) v) w') (hw : Region.wanted oi (yielded ops a.tmps) = true := by exact rfl) (Z1 : Region.ready md ops l = [i] := by kernel_rfl) : Any P md ops Q S (n + 1) l a w := Any.one Z1 (Any.run (some d) hi hd hw hr hS h)
theorem _root_.i9 (ad : Addr) {P : Program} {ops : Array Oper} {o : Oper} {a : Act} {T : World -> Prop} {t : TypeId} {x : Operand} (hr : ∀ w, T w -> (loadVar t ad).run P w = .ok v w) (hg : Region.wanted o (yielded ops a.tmps) = true := by exact rfl) (ho : o.op = .load t x := by exact rfl) (hx : a.eval x = .pointer (some ad) := by exact rfl) : YieldsIf P ops T o v a := AE t x hg ho ad hx hr
end
end Go.Proofs.Rg
namespace Go.Proofs.Ob
abbrev En:=Nat × Int × Nat × List Nat
def Te (T:List En):List Nat:=T.map (·.1)
def C9 (gs:List (List Nat)) (s x:Nat):Nat:=(gs.getD s []).getD x 0
def fB (gs:List (List Nat)) (e:En) (T:List En) (s:Nat):List En :=
 if C9 gs s e.1∈Te T then T else T++[(C9 gs s e.1,(e.1:Int),s+1,e.2.2.2++[s+1])]
def Wy (gs:List (List Nat)) (e:En) (T:List En) (n:Nat):List En:=(List.range n).foldl (fB gs e) T
def P4 (gs:List (List Nat)) (p:Nat):Nat->List En
 | 0=>[(p,-1,0,[])]
 | k+1=>match (P4 gs p k)[k]? with
  | some e=>Wy gs e (P4 gs p k) gs.length
  | none=>P4 gs p k
def tree (gs:List (List Nat)) (D p:Nat):List En:=P4 gs p D
theorem gJ {e:En} {T:List En} {s:Nat} (h:C9 gs s e.1∈Te T):fB gs e T s=T:=by unfold fB; rw [if_pos h]
theorem dY {e:En} {T:List En} {s:Nat} (h:C9 gs s e.1∉Te T):fB gs e T s=T++[(C9 gs s e.1,(e.1:Int),s+1,e.2.2.2++[s+1])]:=by unfold fB; rw [if_neg h]
def Cl (D:Nat) (gs:List (List Nat)):Prop:=∀ s,s<gs.length->∀ x,x<D->C9 gs s x<D
def Tf (gs:List (List Nat)) (D:Nat) (w:List Nat):List Nat:=w.foldl (fun a g=>Ma.aj a (gs.getD (g - 1) [])) (Ma.bh D)
def wd (T:List En) (q:Nat):List Nat:=((T.find? fun e=>e.1 == q).map (·.2.2.2)).getD []

def pK:List Int->Int->List Int
 | [],x=>[x]
 | a :: r,x=>if a<x then a :: pK r x else x :: a :: r
def eK (l:List Int):List Int:=l.foldl pK []
def JU (x y:Int):Bool:=decide (x<=y)
theorem pZ:∀ (out:List Int) (x:Int),(pK out x).Perm (x :: out)
 | [],x=>List.Perm.refl _
 | a :: r,x=>by
  show (if a<x then a :: pK r x else x :: a :: r).Perm _
  split
  ·exact ((pZ r x).cons a).trans (List.Perm.swap x a r)
  ·exact List.Perm.refl _
theorem qT:∀ (out:List Int) (x:Int),out.Pairwise (·<=·)->(pK out x).Pairwise (·<=·)
 | [],x,_=>by simp [pK]
 | a :: r,x,h=>by
  rw [List.pairwise_cons] at h;show (if a<x then a :: pK r x else x :: a :: r).Pairwise _
  split
  ·rename_i Z2
   rw [List.pairwise_cons];refine ⟨fun y hy=>?_,qT r x h.2⟩
   rcases List.mem_cons.1 ((pZ r x).mem_iff.1 hy) with rfl | hy
   ·omega
   ·exact h.1 y hy
  ·rename_i Z2
   rw [List.pairwise_cons,List.pairwise_cons];refine ⟨fun y hy=>?_,h.1,h.2⟩
   rcases List.mem_cons.1 hy with rfl | hy
   ·omega
   ·have:=h.1 y hy; omega
theorem o6:∀ (l out:List Int),out.Pairwise (·<=·)->(l.foldl pK out).Perm (l++out)/\(l.foldl pK out).Pairwise (·<=·)
 | [],out,h=>⟨List.Perm.refl _,h⟩
 | x :: l,out,h=>by
  obtain ⟨h1,h2⟩:=o6 l (pK out x) (qT out x h);refine ⟨h1.trans ?_,h2⟩;exact ((pZ out x).append_left l).trans (List.perm_middle)
theorem qU:∀ {l l':List Int},l.Perm l'->l.Pairwise (·<=·)->l'.Pairwise (·<=·)->l=l'
 | [],l',h,_,_=>(List.nil_perm.1 h).symm▸rfl
 | a :: r,[],h,_,_=>by simp at h
 | a :: r,b :: r',h,h1,h2=>by
  rw [List.pairwise_cons] at h1 h2
  have e1:a<=b:=by
   rcases List.mem_cons.1 (h.mem_iff.2 (List.mem_cons_self ..):b∈a :: r) with e | hb
   ·omega
   ·exact h1.1 b hb
  have e2:b<=a:=by
   rcases List.mem_cons.1 (h.mem_iff.1 (List.mem_cons_self ..):a∈b :: r') with e | hb
   ·omega
   ·exact h2.1 a hb
  obtain rfl:a=b:=by omega
  rw [qU ((List.perm_cons a).1 h) h1.2 h2.2]
theorem lM (l:List Int):eK l=l.mergeSort JU:=by
 obtain ⟨h1,h2⟩:=o6 l [] List.Pairwise.nil;rw [List.append_nil] at h1;refine qU (h1.trans (List.mergeSort_perm l JU).symm) h2 ?_;have:=List.pairwise_mergeSort (le:=JU) (fun a b c h h'=>by unfold JU at *; rw [decide_eq_true_iff] at *; omega) (fun a b=>by unfold JU; simp; omega) l;exact this.imp (fun h=>of_decide_eq_true h)
end Go.Proofs.Ob
namespace Go.Proofs.YtpedbljnhnoohaaGreat
open Go.RowKit
open Go.Proofs
section
attribute [local irreducible] Go.Calls
theorem my (v1 v2:Value) (a c:List Nat) (w:World) (h:Rg.NP w v1 a) (h':Rg.NP w v2 c) (JP:∀ x∈a,x<c.length) (hn:a.length<=1000) (h1:1<=a.length) (h2:1<=c.length) :
  Calls Tryz.prog 143 #[v1,v2] w fun e w'=>∃ v,e=.returned v/\Rg.px w w' v (Ma.aj a c)/\Below w.heap.size w w':=by
 obtain ⟨ad,cap,rfl,hc,_,_,aO⟩:=h.shape;obtain ⟨b,o,rfl,hb,hr⟩:=aO (by omega);obtain ⟨nT,cS,rfl,eD,_,_,cT⟩:=h'.shape;obtain ⟨b2,o2,rfl,dG,nU⟩:=cT (by omega);have Hr:=U hr;have Tg:=U nU;have Th:=U JP;clear hr aO h nU cT h' JP;have gB:=kP a.length (by omega) w;have cr:=U (World.rowIs_made w (.int .i64 0) a.length 3)
 go_enter Tryz.func143,Tryz.ntmps143
 go_wp2;clear gB
 go_loopw [13] (fun i wr=>∃ k:Nat,k<=a.length/\i=.int .i64 k/\Hid (wr.rowIs w.heap.size 3 a.length (fun j=>.int .i64 (if j<k then ((c.getD (a.getD j 0) 0:Nat):Int) else 0)))/\Below w.heap.size w wr) (fun i _=>a.length - (intOf i).toNat)
 case atStart=>exact ⟨0,by omega,rfl,cr.p.congr (fun i hi=>by simp),(Below.refl _ _).alloc (Nat.le_refl _) _⟩
 case round =>
  obtain ⟨k,hk,rfl,hs,bN⟩:=hrel;obtain ⟨hc,hf⟩:=Rg.sM bN
  by_cases aE:k<a.length
  ·have e0:wr.cell? ⟨b,o+k,none⟩=some (.int .i64 ((a[k]:Nat):Int)):=(hc b (o+k) hb).trans (Hr.p k aE)
   have uN:a[k]<c.length:=Th.p _ (List.getElem_mem aE);have yI:a.getD k 0=a[k]:=Ma.getD_lt aE
   have e1:wr.cell? ⟨b2,o2+a[k],none⟩=some (.int .i64 ((c.getD (a.getD k 0) 0:Nat):Int)):=by
    rw [yI,Ma.getD_lt uN];exact (hc b2 (o2+a[k]) dG).trans (Tg.p a[k] uN)
   generalize a[k]=x at *;have Z3:=U yI;generalize hy:c.getD (a.getD k 0) 0=y at *;have Hy:=U hy;clear hc hf yI hy;have c1:=hs.p.cell aE;have f1:=hs.p.frozen k;simp only [Nat.lt_irrefl,if_false] at c1;go_wp2
   go_roundw
   case rel =>
    refine ⟨k+1,by omega,by go_num,?_,bN.setCell (Nat.le_refl _) _⟩;refine (hs.p.set k _).congr fun i hi=>?_
    by_cases e:i=k
    ·subst e; rw [if_pos rfl,if_pos (by omega),Hy.p]
    ·rw [if_neg e]
     by_cases e2:i<k
     ·rw [if_pos e2,if_pos (by omega)]
     ·rw [if_neg e2,if_neg (by omega)]
   case measure=>simp [intOf]; omega
  ·obtain rfl:k=a.length:=by omega
   go_wp2;go_ret;refine ⟨_,rfl,⟨Rg.NP.fR hs.p (by rw [Ma.cu]) (by omega) (fun i hi=>?_),Rg.eW.mk _ _ _ _⟩,by assumption⟩;rw [Ma.sL];rw [Ma.cu] at hi;rw [if_pos hi,Ma.getD_lt hi]
theorem zO {a c:List Nat} (ha:Ma.iZ a) (hc:Ma.iZ c) (h1:1<=a.length) (h2:a.length<=64) (hl:a.length=c.length):Ma.ug [Ma.ag a,Ma.ag c]=0:=by
 have e1:=zM ha h1 h2;have e2:=zM hc (by omega) (by omega)
 have e3:(Ma.ag c).length=(Ma.ag a).length:=by rw [Ma.ar,Ma.ar]; omega
 simp [Ma.ug,Ma.dn,Ma.mZ,e1,e2,e3]
theorem C_ (v1 v2:Value) (a c:List Nat) (w:World) (h:Rg.NP w v1 a) (h':Rg.NP w v2 c) (ha:Ma.iZ a) (hc:Ma.iZ c) (hl:a.length=c.length) (h1:1<=a.length) (h2:a.length<=64) :
  Calls Tryz.prog 113 #[v1,v2] w fun e w'=>∃ v,e=.returned (.tuple #[v,.int .i64 0])/\Rg.px w w' v (Ma.aj a c)/\Below w.heap.size w w':=by
 have hz:=U (zO ha hc h1 h2 hl);have HL:=U hl;clear hl;have hv:=h;have Wz:=h';obtain ⟨ad,cap,rfl,_⟩:=h.shape;obtain ⟨nT,cS,rfl,_⟩:=h'.shape;have ks:=qQ w (.slice ad a.length cap) (.slice nT c.length cS) ⟨_,_,_,rfl⟩ ⟨_,_,_,rfl⟩;have kq:Below w.heap.size w (w.alloc (.cells #[.slice ad a.length cap,.slice nT c.length cS] 27)):=(Below.refl _ _).alloc (Nat.le_refl _) _;have gY:=Rg.Rows.two 27 hv Wz
 go_enter Tryz.func113,Tryz.ntmps113
 go_upto_region 1 with (fail);refine d3 ?_;refine d5 7 (.slice ad a.length cap) ?_;go_frame;refine d5 8 (.slice nT c.length cS) ?_;go_frame;refine d4 9 (qR _ _ rfl rfl rfl ks) ?_;go_frame;refine f7 10 (aF 142 _ _ rfl rfl (by kernel_rfl)) ?_;refine (zL gY (Nat.le_succ 1) hz kq).mono ?_;rintro e w1 ⟨rfl,cX⟩;refine ⟨_,rfl,?_⟩;go_frame;refine d6 6 (.int .i64 0) ?_;go_frame;clear ks kq gY
 go_wp2_with (go_at_call 143; refine (my _ _ a c _ (hv.jj cX) (Wz.jj cX) (fun x hx=>by have:=ha.1 x hx; have:=HL.p; omega) (by omega) h1 (by have:=HL.p; omega)).mono ?_; rintro e w2 ⟨v2,rfl,P5,dG⟩)
 go_ret2
 exact ⟨_,rfl,⟨P5.1,P5.2.mono cX.size⟩,Rg.acc cX dG⟩
end
section
open Go.Proofs.Ob
attribute [local irreducible] Go.Calls
theorem aK {o:Oper} {a:Act} {ad:Addr} (x:Operand) (ho:o.op=.nilCheck x) (hx:a.eval x=.pointer (some ad)):(execOp a.eval o).run Tryz.prog w=.ok (.value (.pointer (some ad))) w:=by
 unfold execOp;simp only [ho,hx,Sem.run_pure]
theorem af {o:Oper} {a:Act} {t:TypeId} {i:Nat} {r:Value} (x:Operand) (ho:o.op=.fieldAddr t x i) (hx:a.eval x=v) (h:(Instr.fieldAt t v i).run Tryz.prog w=.ok r w):(execOp a.eval o).run Tryz.prog w=.ok (.value r) w:=by
 unfold execOp;simp only [ho,hx,Sem.run_bind,Sem.run_pure,h,Result.andThen_ok]
theorem bj {o:Oper} {a:Act} {t e:TypeId} (x y:Operand) (ho:o.op=.indexAddr t x y) (hu:Tryz.prog.underlying t=some (.array n e)) (dR:(Tryz.prog.info? e).map (·.size)=some 1) (b of i:Nat) (hx:a.eval x=.pointer (some ⟨b,of,none⟩)) (hy:a.eval y=.int .i64 (i:Int)) (hi:i<n) :
  (execOp a.eval o).run Tryz.prog w=.ok (.value (.pointer (some ⟨b,of+i,none⟩))) w:=by
 obtain ⟨ie,FF,hs⟩:=Option.map_eq_some_iff.1 dR;have h1:(0:Int)<=(i:Int)/\(i:Int)<(n:Int):=⟨by omega,by omega⟩
 have hr:(Instr.indexAt t (.pointer (some ⟨b,of,none⟩)) (.int .i64 (i:Int))).run Tryz.prog w=.ok (.pointer (some ⟨b,of+i,none⟩)) w:=by
  simp [Instr.indexAt,asIntOf,run_underlying hu,sizeOf,typeInfo,FF,hs,h1,Addr.add,Instr.sureAddr]
  first | done | rfl | (rw [if_pos hi]; split <;> simp_all)
 unfold execOp;simp only [ho,hx,hy,Sem.run_bind,Sem.run_pure,hr,Result.andThen_ok]

theorem j8 (X:World) (x:Int):(Instr.buildSlice 26 1 #[(0,.int .i64 x)]).run Tryz.prog X=.ok (.slice (some ⟨X.heap.size,0,none⟩) 1 1) (X.alloc (.cells #[.int .i64 x] 3)):=by
 obtain ⟨i0,hi,cN,bs,dI⟩:=info_parts sS;refine run_buildSlice X 26 3 1 _ _ i0 _ Tryz.underlying26 hi cN (by rw [bs]; decide) (by rw [bs]; decide) ?_;generalize (fun x=>((Value.int IntKind.i64 0).cells)[x % (Value.int IntKind.i64 0).cells.size]!)=f;rw [bs];have h1:Array.range (1*1)=#[0]:=rfl;simp [Instr.fill,Value.cells,h1]
theorem bI {b o:Nat} (v:Int) (h:w.cell? ⟨b,o,none⟩=some u) (hf:w.frozen? ⟨b,o,none⟩=false) :
  (storeVar 3 ⟨b,o,none⟩ (.int .i64 v)).run Tryz.prog w=.ok () (w.setCell ⟨b,o,none⟩ (.int .i64 v)):=by
 obtain ⟨i0,hi,cN,bs,dI⟩:=info_parts sS
 have h0:(⟨b,o,none⟩:Addr).add 0=⟨b,o,none⟩:=by simp [Addr.add]
 simp [storeVar,sizeOf,typeInfo,hi,bs,Value.cells,storeCells,store,h0];simp [Sem.run,h,hf]

theorem eE {P:Program} {t e:TypeId} (T:Rg.pV P t e z bytes) (ty:TypeId) (fo:X.ownsRow B e 1 v n xs) (hX:B<=X.heap.size) (p c:Nat)
  (hu:X.cell? ⟨p,0,none⟩=some u) (h1:u.oneCell'=true) (hn:n<1000000) :
  ∃ v' X',(Builtin.append_ #[t,t] ty #[v,.slice (some ⟨p,0,none⟩) 1 c]).run P X=.ok v' X'/\X'.ownsRow B e 1 v' (n+1) (xs++[u])/\X.grownBy X' v.ownBlock/\(v'.ownBlock=v.ownBlock∨v'.ownBlock=some X.heap.size)/\∃ a c,v'=.slice a (n+1) c:=by
 obtain ⟨i0,hi,cN,bs,dI⟩:=info_parts T.info
 obtain ⟨v',w',hr,h2,h3,h4,h5⟩:=run_append_own_at (P:=P) X B t ty e i0 z 1 bytes T.ty hi cN bs dI T.zc (by decide) v n xs fo ⟨p,0,none⟩ 1 c [u] rfl (fun j x hj=>by
  obtain rfl:j=0:=by have:=(List.getElem?_eq_some_iff.1 hj).1; simpa using this
  simp at hj; subst hj
  rw [show (⟨p,0,none⟩:Addr).add 0=⟨p,0,none⟩ from rfl]; exact hu) (by simpa using h1) (by unfold maxLen; omega) (by have:(n+1)*bytes<=1000000*64:=Nat.mul_le_mul (by omega) T.small; omega) hX
 exact ⟨v',w',hr,h2,h3,h5,Rg.cn h2⟩
theorem aB {o:Oper} {a:Act} {t e:TypeId} (T:Rg.pV Tryz.prog t e z bytes) (x y:Operand) (ho:o.op=.indexAddr t x y) (b of len cap i:Nat) (hx:a.eval x=.slice (some ⟨b,of,none⟩) len cap) (hy:a.eval y=.int .i64 (i:Int)) (hi:i<len) :
  (execOp a.eval o).run Tryz.prog w=.ok (.value (.pointer (some ⟨b,of+i,none⟩))) w:=by
 have:=Rg.qN T w b of len cap i hi;unfold execOp;simp only [ho,hx,hy,Sem.run_bind,Sem.run_pure,Result.andThen_ok,this]
theorem L2:(Tryz.prog.info? 3).map (·.size)=some 1:=by kernel_rfl

def GG (d:Nat) (gs:List (List Nat)):Prop:=∀ s∈gs,Ma.iZ s/\s.length=d
theorem L3 {s:Nat} (hs:s<gs.length):gs.getD s []=gs[s]:=by
 rw [List.getD_eq_getElem?_getD,List.getElem?_eq_getElem hs,Option.getD_some]
theorem L4 {s x:Nat} (hs:s<gs.length) (hx:x<gs[s].length):C9 gs s x=gs[s][x]:=by
 unfold C9;rw [L3 hs,Ma.getD_lt hx]
theorem GG.cl (h:GG D gs):Cl D gs:=fun s hs x hx=>by
 obtain ⟨h1,h2⟩:=h _ (List.getElem_mem hs);rw [L4 hs (by omega)];have:=h1.1 _ (List.getElem_mem (show x<gs[s].length by omega));omega
theorem mix:Tryz.prog.follows .mixedOrders=true:=by kernel_rfl

theorem L5 {d:Int} (h:Ma.fa d ll=0):∃ (D:Nat) (gs:List (List Nat)),d=D/\ll=gs.map Ma.ag/\GG D gs/\1<=D/\D<=64/\gs.length<=16:=by
 unfold Ma.fa at h
 split at h
 ·rename_i h1
  split at h
  ·rename_i h2
   have hz:=Ma.sJ h;obtain ⟨D,rfl⟩:∃ D:Nat,d=D:=⟨d.toNat,by omega⟩
   have hex:∀ l∈ll,∃ p,l=Ma.ag p/\Ma.iZ p/\p.length=D:=fun l hl=>by
    obtain ⟨a,b⟩:=hz l hl;obtain ⟨_,_,c⟩:=Ma.gW a;obtain ⟨p,rfl,hp⟩:=Ma.kn c;rw [Ma.ar] at b;exact ⟨p,rfl,hp,by omega⟩
   clear h hz
   have:∃ gs:List (List Nat),ll=gs.map Ma.ag/\GG D gs:=by
    clear h2
    induction ll with
    | nil=>exact ⟨[],rfl,fun s hs=>by simp at hs⟩
    | cons l r ih =>
     obtain ⟨gs,rfl,hg⟩:=ih (fun x hx=>hex x (List.mem_cons_of_mem _ hx));obtain ⟨p,rfl,h3,h4⟩:=hex l (List.mem_cons_self ..)
     exact ⟨p :: gs,rfl,fun s hs=>by
      rcases List.mem_cons.1 hs with rfl | hs
      ·exact ⟨h3,h4⟩
      ·exact hg s hs⟩
   obtain ⟨gs,rfl,hg⟩:=this;exact ⟨D,gs,rfl,rfl,hg,by omega,by omega,by simpa using h2⟩
  ·simp at h
 ·simp at h

theorem JV {P:Program} {t e:TypeId} (T:Rg.pV P t e z bytes) (ty:TypeId) (fo:X.ownsRow B e 1 v n xs) (hX:B<=X.heap.size) (p c:Nat)
  (hu:X.cell? ⟨p,0,none⟩=some u) (h1:u.oneCell'=true) (hn:n<1000000) :
  ∃ v' X',(Builtin.append_ #[t,t] ty #[v,.slice (some ⟨p,0,none⟩) 1 c]).run P X=.ok v' X'/\X'.ownsRow B e 1 v' (n+1) (xs++[u])/\X.grownBy X' v.ownBlock/\(v'.ownBlock=v.ownBlock∨v'.ownBlock=some X.heap.size)/\(∃ a c,v'=.slice a (n+1) c) /\
   (∀ g,v.ownBlock=some g->∀ i,i<n->X'.cell? ⟨g,i,none⟩=X.cell? ⟨g,i,none⟩):=by
 obtain ⟨v',X',r1,r2,r3,r4,r5⟩:=eE T ty fo hX p c hu h1 hn;refine ⟨v',X',r1,r2,r3,r4,r5,fun g hg i hi=>?_⟩;obtain ⟨i0,mi,cN,bs,dI⟩:=info_parts T.info;have ho:=fo
 obtain ⟨hl,⟨rfl,_⟩ | ⟨g',cap,cur,rfl,hB,hh,Wt,Ti,ku,ht⟩⟩:=fo
 ·simp [Value.ownBlock] at hg
 ·have uQ:g'=g:=by simpa [Value.ownBlock] using hg
  subst uQ
  by_cases Tj:n+1<=cap
  ·have hR:=run_append_room (P:=P) X t ty e i0 T.ty mi g' n cap cur hh ⟨p,0,none⟩ 1 c [u] (by rw [bs]; rfl) (fun j x hj=>by
    obtain rfl:j=0:=by have:=(List.getElem?_eq_some_iff.1 hj).1; simpa using this
    simp at hj; subst hj
    rw [show (⟨p,0,none⟩:Addr).add 0=⟨p,0,none⟩ from rfl]; exact hu) (by simpa using h1) Tj (by rw [bs,ku]; simp; omega)
   rw [r1] at hR
   injection hR with e1 e2
   subst e1;have c1:=r2.cellAt (j:=i) (by omega);have c2:=ho.cellAt (j:=i) (by omega);rw [c1,c2,List.getElem?_append_left (by omega)]
  ·obtain rfl:n=cap:=by omega
   have hR:=Rg.JN (P:=P) T ty g' 0 n xs (by omega) (fun j hj=>by
    have c2:=ho.cellAt (j:=j) (by omega)
    rw [Nat.zero_add,c2,List.getElem?_eq_getElem hj]) p c hu hn
   obtain ⟨v2,X2,q1,_,q3,_⟩:=hR;rw [r1] at q1
   injection q1 with e1 e2
   subst e2;exact q3.cell (p:=⟨g',i,none⟩) (Array.getElem?_eq_some_iff.1 hh).1
def JW (l:List Int):List Value:=l.map (Value.int .i64)
theorem JX (l:List Int) (x:Int):JW (l++[x])=JW l++[.int .i64 x]:=by simp [JW]
structure T3 (B:Nat) (w:World) (v1 v2 v3:Value) (l1 l2 l3:List Int):Prop where
 o1:w.ownsRow B 3 1 v1 l1.length (JW l1)
 o2:w.ownsRow B 3 1 v2 l2.length (JW l2)
 o3:w.ownsRow B 3 1 v3 l3.length (JW l3)
 a12:Rg.gX v1 v2
 Tl:Rg.gX v1 v3
 WA:Rg.gX v2 v3
def Tmp (w:World) (p:Nat) (x:Int) (v1 v2 v3:Value):Prop:=p<w.heap.size/\w.cell? ⟨p,0,none⟩=some (.int .i64 x)/\v1.ownBlock≠some p/\v2.ownBlock≠some p/\v3.ownBlock≠some p
theorem T3.jj {v3:Value} {l1 l2 l3:List Int} (h:T3 B w v1 v2 v3 l1 l2 l3) (hb:Below w.heap.size w w'):T3 B w' v1 v2 v3 l1 l2 l3 :=
 ⟨Rg.bE h.o1 hb,Rg.bE h.o2 hb,Rg.bE h.o3 hb,h.a12,h.Tl,h.WA⟩
theorem Tmp.jj {p:Nat} {x:Int} {v3:Value} (h:Tmp w p x v1 v2 v3) (hb:Below w.heap.size w w'):Tmp w' p x v1 v2 v3 :=
 ⟨Nat.lt_of_lt_of_le h.1 hb.size,(hb.cell (p:=⟨p,0,none⟩) h.1).trans h.2.1,h.2.2⟩
theorem T3.tmp {v3:Value} {l1 l2 l3:List Int} (h:T3 B w v1 v2 v3 l1 l2 l3) (x:Int):Tmp (w.alloc (.cells #[.int .i64 x] 3)) w.heap.size x v1 v2 v3 :=
 ⟨by simp,by rw [Rg.aI]; rfl,fun e=>by have:=(h.o1.lt _ e).2; omega,fun e=>by have:=(h.o2.lt _ e).2; omega,fun e=>by have:=(h.o3.lt _ e).2; omega⟩
theorem P6 {v':Value} {s p:Nat} (h:v'.ownBlock=v.ownBlock∨v'.ownBlock=some s) (h1:v.ownBlock≠some p) (hp:p<s):v'.ownBlock≠some p:=by
 rcases h with h | h
 ·rw [h]; exact h1
 ·rw [h]; simp; omega
theorem T3.IQ {v3:Value} {l1 l2 l3:List Int} (h:T3 B w v1 v2 v3 l1 l2 l3) (hB:B<=w.heap.size) {p:Nat} {x:Int} (hp:Tmp w p x v1 v2 v3) (hl:l1.length<1000000) (ty:TypeId) :
  ∃ a c X,(Builtin.append_ #[26,26] ty #[v1,.slice (some ⟨p,0,none⟩) 1 1]).run Tryz.prog w=.ok (.slice a (l1.length+1) c) X/\T3 B X (.slice a (l1.length+1) c) v2 v3 (l1++[x]) l2 l3/\w.heap.size<=X.heap.size /\
   (∀ p' x',Tmp w p' x' v1 v2 v3->Tmp X p' x' (.slice a (l1.length+1) c) v2 v3)/\(∀ g,v1.ownBlock=some g->∀ i,i<l1.length->X.cell? ⟨g,i,none⟩=w.cell? ⟨g,i,none⟩)/\(∀ {B0:Nat} {W0:World},B0<=B->Below B0 W0 w->Below B0 W0 X):=by
 obtain ⟨v',X,r1,r2,r3,r4,⟨a,c,rfl⟩,r6⟩:=JV (P:=Tryz.prog) bK ty h.o1 hB p 1 hp.2.1 rfl hl;refine ⟨a,c,X,r1,⟨by rw [JX,List.length_append]; exact r2,h.a12.keep h.o2 r3,h.Tl.keep h.o3 r3,h.a12.grow h.o2 r4 (Nat.le_refl _),h.Tl.grow h.o3 r4 (Nat.le_refl _),h.WA⟩,r3.size,fun p' x' ht=>?_,r6,fun h0 hb=>hb.grown r3 (by omega) (fun j hj=>by have:=(h.o1.lt j hj).1; omega)⟩;exact ⟨Nat.lt_of_lt_of_le ht.1 r3.size,r3.cell ht.2.1 (fun e=>ht.2.2.1 e.symm),P6 r4 ht.2.2.1 ht.1,ht.2.2.2⟩

def Gd (d:Nat) (p:List Nat):Prop:=Ma.iZ p/\p.length=d
theorem Gd.mul {p:List Nat} (h:Gd d p) (h':Gd d q):Gd d (Ma.aj p q):=⟨Ma.zI h.1 h'.1 (h.2.trans h'.2.symm),by rw [Ma.cu]; exact h.2⟩
theorem Gd.one (D:Nat):Gd D (Ma.bh D):=⟨Ma.zG D,Ma.eC D⟩
theorem Gd.inv {s:List Nat} (hs:Gd D s):Gd D (Ma.aS s):=⟨Ma.zH hs.1,by rw [Ma.cM]; exact hs.2⟩
theorem Gd.lt {a b:List Nat} (ha:Gd D a) (hb:Gd D b):∀ x∈a,x<b.length:=fun x hx=>by
 have:=ha.1.1 x hx; have:=ha.2; have:=hb.2; omega
theorem dh {o:Oper} {a:Act} {b:Nat} (x:Operand) (ho:o.op=.fieldAddr 43 x 0) (hx:a.eval x=.pointer (some ⟨b,0,none⟩)) :
  (execOp a.eval o).run Tryz.prog w=.ok (.value (.pointer (some ⟨b,0,none⟩))) w:=by
 have h:(Instr.fieldAt 43 (.pointer (some ⟨b,0,none⟩)) 0).run Tryz.prog w=.ok (.pointer (some ⟨b,0,none⟩)) w:=by kernel_rfl
 unfold execOp;simp only [ho,hx,Sem.run_bind,Sem.run_pure,h,Result.andThen_ok]
end
end Go.Proofs.YtpedbljnhnoohaaGreat
namespace Go.Proofs.Cm
open Go.Proofs
def Gd (n:Nat) (p:List Nat):Prop:=Ma.iZ p/\p.length=n
def ap (x:List Nat) (i:Nat):Nat:=x.getD i 0
theorem jf {x:List Nat} {i:Nat} (h:i<x.length):ap x i=x[i]:=by simp [ap,List.getD,List.getElem?_eq_getElem h]
theorem cy {x:List Nat} (h:Gd n x) {i:Nat} (hi:i<n):ap x i<n:=by
 have hl:i<x.length:=by rw [h.2]; exact hi
 rw [jf hl,<- h.2];exact h.1.1 _ (List.getElem_mem hl)
theorem jz {x:List Nat} (h:Gd n x) {i:Nat} (hi:i<n) (hj:j<n) (e:ap x i=ap x j):i=j:=by
 have h1:i<x.length:=by rw [h.2]; exact hi
 have h2:j<x.length:=by rw [h.2]; exact hj
 rw [jf h1,jf h2] at e;exact (List.getElem_inj h.1.2).1 e
theorem gT {a b:List Nat} (ha:a.length=n) (hb:b.length=n) (h:∀ i,i<n->ap a i=ap b i):a=b:=by
 apply List.ext_getElem (by omega)
 intro i h1 h2;have:=h i (by omega)
 rwa [jf h1,jf h2] at this
theorem eL (n:Nat):Gd n (Ma.bh n):=⟨Ma.zG n,Ma.eC n⟩
theorem aV {a b:List Nat} (ha:Gd n a) (hb:Gd n b):Gd n (Ma.aj a b):=⟨Ma.zI ha.1 hb.1 (ha.2.trans hb.2.symm),by rw [Ma.cu]; exact ha.2⟩
theorem aN {a:List Nat} (ha:Gd n a):Gd n (Ma.aS a):=⟨Ma.zH ha.1,by rw [Ma.cM]; exact ha.2⟩
theorem cF {i:Nat} (h:i<n):ap (Ma.bh n) i=i:=by
 rw [jf (by rw [Ma.eC]; exact h),Ma.sK]
theorem br {a b:List Nat} (ha:Gd n a) {i:Nat} (h:i<n):ap (Ma.aj a b) i=ap b (ap a i):=by
 have hl:i<a.length:=by rw [ha.2]; exact h
 rw [jf (by rw [Ma.cu]; exact hl),Ma.sL,jf hl]; rfl
theorem ee {s:List Nat} (hs:Gd n s) {i:Nat} (h:i<n):ap (Ma.aS s) (ap s i)=i:=by
 have hl:i<s.length:=by rw [hs.2]; exact h
 have h2:=cy hs h;rw [jf (x:=Ma.aS s) (by rw [Ma.cM,hs.2]; exact h2),Ma.o5,jf hl];exact Ma.lK hs.1 hl
theorem fC {s:List Nat} (hs:Gd n s) {i:Nat} (h:i<n):ap s (ap (Ma.aS s) i)=i:=by
 have h1:=cy (aN hs) h;have h2:=ee (aN hs) h;refine jz (aN hs) (cy hs h1) h ?_;rw [ee hs h1]
theorem mul_assoc {a b c:List Nat} (ha:Gd n a) (hb:Gd n b):Ma.aj (Ma.aj a b) c=Ma.aj a (Ma.aj b c):=by
 refine gT (n:=n) (by rw [Ma.cu,Ma.cu]; exact ha.2) (by rw [Ma.cu]; exact ha.2) fun i hi=>?_;rw [br (aV ha hb) hi,br ha hi,br ha hi,br hb (cy ha hi)]
theorem one_mul {x:List Nat} (hx:Gd n x):Ma.aj (Ma.bh n) x=x :=
 gT (n:=n) (by rw [Ma.cu,Ma.eC]) hx.2 fun i hi=>by rw [br (eL n) hi,cF hi]
theorem mul_one {x:List Nat} (hx:Gd n x):Ma.aj x (Ma.bh n)=x :=
 gT (n:=n) (by rw [Ma.cu]; exact hx.2) hx.2 fun i hi=>by rw [br hx hi,cF (cy hx hi)]
theorem nX {x:List Nat} (hx:Gd n x):Ma.aj x (Ma.aS x)=Ma.bh n :=
 gT (n:=n) (by rw [Ma.cu]; exact hx.2) (Ma.eC n) fun i hi=>by rw [br hx hi,ee hx hi,cF hi]
theorem inv_mul {x:List Nat} (hx:Gd n x):Ma.aj (Ma.aS x) x=Ma.bh n :=
 gT (n:=n) (by rw [Ma.cu,Ma.cM]; exact hx.2) (Ma.eC n) fun i hi=>by rw [br (aN hx) hi,fC hx hi,cF hi]
theorem inv_one (n:Nat):Ma.aS (Ma.bh n)=Ma.bh n:=by
 have:=nX (eL n)
 rwa [one_mul (aN (eL n))] at this
theorem mul_inv_cancel {x u:List Nat} (hx:Gd n x) (hu:Gd n u):Ma.aj (Ma.aj x (Ma.aS u)) u=x:=by
 rw [mul_assoc hx (aN hu),inv_mul hu,mul_one hx]
theorem dZ {x u:List Nat} (hx:Gd n x) (hu:Gd n u):Ma.aj (Ma.aj x u) (Ma.aS u)=x:=by
 rw [mul_assoc hx hu,nX hu,mul_one hx]
structure bT (n:Nat) (H:List Nat->Prop):Prop where
 gd:∀ x,H x->Gd n x
 one:H (Ma.bh n)
 mul:∀ x y,H x->H y->H (Ma.aj x y)
 inv:∀ x,H x->H (Ma.aS x)
inductive Gr (n:Nat) (gs:List Nat->Prop):List Nat->Prop
 | one:Gr n gs (Ma.bh n)
 | gen (s:List Nat) (h:gs s):Gr n gs s
 | mul (x y:List Nat) (hx:Gr n gs x) (hy:Gr n gs y):Gr n gs (Ma.aj x y)
 | inv (x:List Nat) (hx:Gr n gs x):Gr n gs (Ma.aS x)
theorem Gr.dC {gs:List Nat->Prop} (h:∀ s,gs s->Gd n s):bT n (Gr n gs):=by
 refine ⟨fun x hx=>?_,.one,fun x y=>.mul x y,fun x=>.inv x⟩
 induction hx with
 | one=>exact eL n
 | gen s hs=>exact h s hs
 | mul x y _ _ i1 i2=>exact aV i1 i2
 | inv x _ i1=>exact aN i1
theorem Gr.sub {gs:List Nat->Prop} (hH:bT n H) (h:∀ s,gs s->H s) {x:List Nat} (hx:Gr n gs x):H x:=by
 induction hx with
 | one=>exact hH.one
 | gen s hs=>exact h s hs
 | mul x y _ _ i1 i2=>exact hH.mul _ _ i1 i2
 | inv x _ i1=>exact hH.inv _ i1
theorem Gr.mono {gs gs':List Nat->Prop} (h:∀ s,gs s->gs' s) {x:List Nat} (hx:Gr n gs x):Gr n gs' x:=by
 induction hx with
 | one=>exact .one
 | gen s hs=>exact .gen s (h s hs)
 | mul x y _ _ i1 i2=>exact .mul _ _ i1 i2
 | inv x _ i1=>exact .inv _ i1
def Fx (i:Nat) (x:List Nat):Prop:=∀ j,j<i->ap x j=j
theorem Fx.mono {i:Nat} {x:List Nat} (h:Fx i x) (p6:j<=i):Fx j x:=fun k hk=>h k (Nat.lt_of_lt_of_le hk p6)
theorem Fx.one {i:Nat} (hi:i<=n):Fx i (Ma.bh n):=fun _ hj=>cF (Nat.lt_of_lt_of_le hj hi)
theorem Fx.mul {i:Nat} {x y:List Nat} (gx:Gd n x) (hi:i<=n) (hx:Fx i x) (hy:Fx i y):Fx i (Ma.aj x y):=fun j hj=>by
 rw [br gx (Nat.lt_of_lt_of_le hj hi),hx j hj,hy j hj]
theorem Fx.inv {i:Nat} {x:List Nat} (gx:Gd n x) (hi:i<=n) (hx:Fx i x):Fx i (Ma.aS x):=fun j hj=>by
 have:=ee gx (Nat.lt_of_lt_of_le hj hi)
 rwa [hx j hj] at this
theorem Fx.all {x:List Nat} (gx:Gd n x) (hx:Fx n x):x=Ma.bh n :=
 gT gx.2 (Ma.eC n) fun i hi=>by rw [hx i hi,cF hi]
def St (H:List Nat->Prop) (i:Nat) (x:List Nat):Prop:=H x/\Fx i x
abbrev Tr:=Nat->Nat->Option (List Nat)
def Sd (n:Nat) (tr:Tr):Nat->List Nat->Prop
 | 0,x=>x=Ma.bh n
 | d+1,x=>∃ u,tr (n - (d+1)) (ap x (n - (d+1)))=some u/\Sd n tr d (Ma.aj x (Ma.aS u))
structure Rp (n lo:Nat) (tr:Tr):Prop where
 gd:∀ i p u,lo<=i->i<n->tr i p=some u->Gd n u
 fx:∀ i p u,lo<=i->i<n->tr i p=some u->Fx i u
 at_:∀ i p u,lo<=i->i<n->tr i p=some u->ap u i=p
 self:∀ i,lo<=i->i<n->tr i i=some (Ma.bh n)
theorem Sd.fx {n lo:Nat} {tr:Tr} (hr:Rp n lo tr):∀ {d:Nat} {x:List Nat},d<=n->lo<=n - d->Gd n x->Sd n tr d x->Fx (n - d) x
 | 0,x,hd,_,gx,h=>by
  cases h
  exact Fx.one (by omega)
 | d+1,x,hd,hl,gx,⟨u,hu,h⟩=>by
  have gu:=hr.gd _ _ _ hl (by omega) hu;have h1:=Sd.fx hr (by omega) (by omega) (aV gx (aN gu)) h;have h2:=mul_inv_cancel gx gu;have h3:=Fx.mul (i:=n - (d+1)) (aV gx (aN gu)) (by omega) (h1.mono (by omega)) (hr.fx _ _ _ hl (by omega) hu)
  rwa [h2] at h3
theorem Sd.one {n lo:Nat} {tr:Tr} (hr:Rp n lo tr):∀ {d:Nat},d<=n->lo<=n - d->Sd n tr d (Ma.bh n)
 | 0,_,_=>rfl
 | d+1,hd,hl=>⟨Ma.bh n,by rw [cF (by omega)]; exact hr.self _ hl (by omega),by rw [inv_one,one_mul (eL n)]; exact Sd.one hr (by omega) (by omega)⟩
theorem Sd.next {lo:Nat} {tr:Tr} (hr:Rp n lo tr) (hd:d+1<=n) (hl:lo<=n - (d+1)) {x:List Nat} (gx:Gd n x) (hx:ap x (n - (d+1))=n - (d+1)):Sd n tr (d+1) x↔Sd n tr d x:=by
 have e:tr (n - (d+1)) (ap x (n - (d+1)))=some (Ma.bh n):=by rw [hx]; exact hr.self _ hl (by omega)
 constructor
 ·rintro ⟨u,hu,h⟩
  rw [e] at hu
  cases hu
  rwa [inv_one,mul_one gx] at h
 ·intro h
  exact ⟨_,e,by rw [inv_one,mul_one gx]; exact h⟩
theorem Sd.up {n lo:Nat} {tr:Tr} (hr:Rp n lo tr):∀ {k d:Nat},d+k<=n->lo<=n - (d+k)->∀ {x:List Nat},Gd n x->Fx (n - d) x->(Sd n tr (d+k) x↔Sd n tr d x)
 | 0,d,_,_,x,_,_=>Iff.rfl
 | k+1,d,h,hl,x,gx,hx=>by
  have h1:=Sd.next hr (d:=d+k) (by omega) hl gx (hx _ (by omega));exact h1.trans (Sd.up hr (by omega) (by omega) gx hx)
theorem Sd.cons {lo:Nat} {tr:Tr} (hr:Rp n lo tr) {p:Nat} (hd:d+1<=n) (hl:lo<=n - (d+1)) {y u:List Nat} (gy:Gd n y) (hy:Sd n tr d y) (hu:tr (n - (d+1)) p=some u):Sd n tr (d+1) (Ma.aj y u):=by
 have gu:=hr.gd _ _ _ hl (by omega) hu;have fy:=Sd.fx hr (by omega) (by omega) gy hy
 have e:ap (Ma.aj y u) (n - (d+1))=p:=by
  rw [br gy (by omega),fy _ (by omega),hr.at_ _ _ _ hl (by omega) hu]
 exact ⟨u,by rw [e]; exact hu,by rw [dZ gy gu]; exact hy⟩
theorem Sd.mono {n:Nat} {tr Da:Tr}:∀ {d:Nat},(∀ i p u,n - d<=i->tr i p=some u->Da i p=some u)->∀ {x:List Nat},Sd n tr d x->Sd n Da d x
 | 0,_,_,e=>e
 | d+1,h,_,⟨u,hu,hs⟩=>⟨u,h _ _ _ (Nat.le_refl _) hu,Sd.mono (fun i p u hi=>h i p u (by omega)) hs⟩
structure sU (n lo:Nat) (gn:Nat->List Nat->Prop) (tr:Tr):Prop where
 rp:Rp n lo tr
 gd:∀ i s,lo<=i->i<n->gn i s->Gd n s
 low:∀ i s,lo<=i->i+1<n->gn (i+1) s->Gr n (gn i) s
 mem:∀ i p u,lo<=i->i<n->tr i p=some u->Gr n (gn i) u
 cl:∀ i p u s,lo<=i->i<n->tr i p=some u->gn i s->∃ v,tr i (ap s p)=some v/\Sd n tr (n - (i+1)) (Ma.aj (Ma.aj u s) (Ma.aS v))
theorem sU.sub {n lo:Nat} {gn:Nat->List Nat->Prop} {tr:Tr} (h:sU n lo gn tr) {i:Nat} (hl:lo<=i):∀ {k:Nat},i+k<n->∀ {x:List Nat},Gr n (gn (i+k)) x->Gr n (gn i) x
 | 0,_,x,hx=>hx
 | k+1,hk,x,hx=>h.sub hl (k:=k) (by omega) (Gr.sub (Gr.dC (fun s hs=>h.gd _ s (by omega) (by omega) hs)) (fun s hs=>h.low (i+k) s (by omega) (by omega) hs) hx)
theorem sU.gr {n lo:Nat} {gn:Nat->List Nat->Prop} {tr:Tr} (h:sU n lo gn tr) {i:Nat} (hl:lo<=i) (hi:i<n):∀ {d:Nat},i+d<=n->∀ {x:List Nat},Gd n x->Sd n tr d x->n - d≥i->Gr n (gn i) x
 | 0,_,x,_,e,_=>by cases e; exact .one
 | d+1,hd,x,gx,⟨u,hu,hs⟩,AI=>by
  have gu:=h.rp.gd _ _ _ (by omega) (by omega) hu;have h1:=sU.gr h hl hi (d:=d) (by omega) (aV gx (aN gu)) hs (by omega)
  have h2:Gr n (gn i) u:=by
   have:=h.mem _ _ _ (by omega) (by omega) hu;exact h.sub hl (i:=i) (k:=n - (d+1) - i) (by omega) (by rwa [show i+(n - (d+1) - i)=n - (d+1) by omega])
  have:=Gr.mul _ _ h1 h2
  rwa [mul_inv_cancel gx gu] at this
def pw (n:Nat) (s:List Nat):Nat->List Nat
 | 0=>Ma.bh n
 | k+1=>Ma.aj (pw n s k) s
theorem jR {n:Nat} {s:List Nat} (hs:Gd n s):∀ k,Gd n (pw n s k)
 | 0=>eL n
 | k+1=>aV (jR hs k) hs
theorem IU {n:Nat} {s:List Nat} (hs:Gd n s) (i:Nat):∀ j,pw n s (i+j)=Ma.aj (pw n s i) (pw n s j)
 | 0=>(mul_one (jR hs i)).symm
 | j+1=>by
  show Ma.aj (pw n s (i+j)) s=Ma.aj (pw n s i) (Ma.aj (pw n s j) s);rw [IU hs i j,mul_assoc (jR hs i) (jR hs j)]
def uj (n:Nat):Nat->List (List Nat)
 | 0=>[[]]
 | k+1=>(uj n k).flatMap fun l=>(List.range n).map fun x=>x :: l
theorem zP {n:Nat}:∀ {l:List Nat},(∀ x∈l,x<n)->l∈uj n l.length
 | [],_=>by simp [uj]
 | x :: l,h=>by
  have h1:=zP (l:=l) (fun y hy=>h y (List.mem_cons_of_mem _ hy));have h2:=h x (List.mem_cons_self ..);rw [List.length_cons,uj,List.mem_flatMap];exact ⟨l,h1,List.mem_map.2 ⟨x,List.mem_range.2 h2,rfl⟩⟩
theorem P7 {s:List Nat} (hs:Gd n s) (k:Nat):pw n s k∈uj n n:=by
 have h:=jR hs k;have:=zP (n:=n) (l:=pw n s k) (fun x hx=>by rw [<- h.2]; exact h.1.1 x hx)
 rwa [h.2] at this
theorem Tm {s:List Nat} (hs:Gd n s):∃ i j,i<j/\pw n s i=pw n s j:=by
 by_cases h:∃ i j,i<j/\pw n s i=pw n s j
 ·exact h
 exfalso
 have hn:((List.range ((uj n n).length+1)).map (pw n s)).Nodup:=by
  rw [List.Nodup,List.pairwise_iff_getElem];intro i j hi hj p6 e;simp at e;exact h ⟨i,j,p6,e⟩
 have:=List.Nodup.length_le_of_subset hn (l₂:=uj n n) (fun x hx=>by
  obtain ⟨k,_,rfl⟩:=List.mem_map.1 hx
  exact P7 hs k)
 simp at this;omega
theorem P8 {s:List Nat} (hs:Gd n s):∃ k,Ma.aS s=pw n s k:=by
 obtain ⟨i,j,p6,e⟩:=Tm hs;obtain ⟨k,rfl⟩:∃ k,j=i+(k+1):=⟨j - i - 1,by omega⟩;refine ⟨k,?_⟩
 have h1:pw n s (k+1)=Ma.bh n:=by
  rw [IU hs] at e
  have e2:Ma.aj (Ma.aS (pw n s i)) (pw n s i)=Ma.aj (Ma.aS (pw n s i)) (Ma.aj (pw n s i) (pw n s (k+1))):=by rw [<- e]
  rw [inv_mul (jR hs i),<- mul_assoc (aN (jR hs i)) (jR hs i),inv_mul (jR hs i),one_mul (jR hs (k+1))] at e2;exact e2.symm
 have h2:Ma.aj (Ma.aj (pw n s k) s) (Ma.aS s)=Ma.aj (Ma.bh n) (Ma.aS s):=by rw [<- h1]; rfl
 rw [dZ (jR hs k) hs,one_mul (aN hs)] at h2;exact h2.symm
theorem JY {gs:List Nat->Prop} (hg:∀ s,gs s->Gd n s) {P:List Nat->Prop} (hs:∀ x s,Gr n gs x->P x->gs s->P (Ma.aj x s)) :
  ∀ {x:List Nat},Gr n gs x->∀ y,Gr n gs y->P y->P (Ma.aj y x)/\P (Ma.aj y (Ma.aS x)):=by
 have G:=Gr.dC (n:=n) hg;intro x hx
 induction hx with
 | one=>intro y gy hy; rw [inv_one,mul_one (G.gd y gy)]; exact ⟨hy,hy⟩
 | gen s h =>
  intro y gy hy;refine ⟨hs y s gy hy h,?_⟩;obtain ⟨k,hk⟩:=P8 (hg s h);rw [hk]
  have:∀ k,Gr n gs (Ma.aj y (pw n s k))/\P (Ma.aj y (pw n s k)):=by
   intro k
   induction k with
   | zero=>show Gr n gs (Ma.aj y (Ma.bh n))/\P (Ma.aj y (Ma.bh n)); rw [mul_one (G.gd y gy)]; exact ⟨gy,hy⟩
   | succ k ih =>
    show Gr n gs (Ma.aj y (Ma.aj (pw n s k) s))/\P (Ma.aj y (Ma.aj (pw n s k) s));rw [<- mul_assoc (G.gd y gy) (jR (hg s h) k)];exact ⟨.mul _ _ ih.1 (.gen s h),hs _ s ih.1 ih.2 h⟩
  exact (this k).2
 | mul a b ha hb ia ib =>
  intro y gy hy
  have e:Ma.aS (Ma.aj a b)=Ma.aj (Ma.aS b) (Ma.aS a):=by
   have ga:=G.gd a ha;have gb:=G.gd b hb;refine gT (n:=n) (aN (aV ga gb)).2 (aV (aN gb) (aN ga)).2 fun i hi=>?_;rw [br (aN gb) hi];have h1:=cy (aN gb) hi;have h2:=cy (aN ga) h1;refine jz (aV ga gb) (cy (aN (aV ga gb)) hi) h2 ?_;rw [fC (aV ga gb) hi,br ga h2,fC ga h1,fC gb hi]
  refine ⟨?_,?_⟩
  ·have:=(ib (Ma.aj y a) (.mul _ _ gy ha) (ia y gy hy).1).1
   rwa [mul_assoc (G.gd y gy) (G.gd a ha)] at this
  ·have:=(ia (Ma.aj y (Ma.aS b)) (.mul _ _ gy (.inv _ hb)) (ib y gy hy).2).2
   rwa [mul_assoc (G.gd y gy) (aN (G.gd b hb)),<- e] at this
 | inv a ha ia =>
  intro y gy hy
  have e:Ma.aS (Ma.aS a)=a:=by
   have ga:=G.gd a ha;refine gT (n:=n) (aN (aN ga)).2 ga.2 fun i hi=>?_;refine jz (aN ga) (cy (aN (aN ga)) hi) (cy ga hi) ?_;rw [fC (aN ga) hi,ee ga hi]
  rw [e];exact ⟨(ia y gy hy).2,(ia y gy hy).1⟩
theorem IW {gs:List Nat->Prop} (hg:∀ s,gs s->Gd n s) {P:List Nat->Prop} (h1:P (Ma.bh n)) (hs:∀ x s,Gr n gs x->P x->gs s->P (Ma.aj x s)) {x:List Nat} (hx:Gr n gs x):P x:=by
 have:=(JY hg hs hx _ .one h1).1
 rwa [one_mul ((Gr.dC hg).gd x hx)] at this
structure pL (n:Nat) (H:List Nat->Prop) (tr:Tr):Prop where
 rp:Rp n 0 tr
 mem:∀ i p u,i<n->tr i p=some u->H u
 all:∀ i x,i<n->St H i x->∃ u,tr i (ap x i)=some u
theorem sU.L6 {n lo:Nat} {gn:Nat->List Nat->Prop} {tr:Tr} (h:sU n lo gn tr):∀ {d:Nat},d<=n->lo<=n - d->(∀ y z,Gd n y->Gd n z->Sd n tr d y->Sd n tr d z->Sd n tr d (Ma.aj y z))/\(0<d->∀ x,Gr n (gn (n - d)) x->Sd n tr d x)
 | 0,_,_=>⟨fun y z _ gz hy hz=>by
   have AB:y=Ma.bh n:=hy;have uR:z=Ma.bh n:=hz;show Ma.aj y z=Ma.bh n
   rw [AB,uR,one_mul (eL n)],fun h=>by omega⟩
 | d+1,hd,hl=>by
  obtain ⟨ih,_⟩:=sU.L6 h (d:=d) (by omega) (by omega)
  have hi:n - (d+1)<n:=by omega
  have eJ:∀ s,gn (n - (d+1)) s->Gd n s:=fun s hs=>h.gd _ s hl hi hs
  have key:∀ x,Gr n (gn (n - (d+1))) x->Sd n tr (d+1) x:=by
   intro x hx;refine IW eJ (P:=Sd n tr (d+1)) (Sd.one h.rp hd hl) ?_ hx;intro x s gx ⟨u,hu,hy⟩ hs;have Gx:=(Gr.dC eJ).gd x gx;have gu:=h.rp.gd _ _ _ hl hi hu;have gs:=eJ s hs;obtain ⟨v,hv,hq⟩:=h.cl _ _ _ _ hl hi hu hs;have gv:=h.rp.gd _ _ _ hl hi hv;rw [show n - (n - (d+1)+1)=d by omega] at hq;have gy:=aV Gx (aN gu);have gq:=aV (aV gu gs) (aN gv);have h1:=Sd.cons h.rp hd hl (aV gy gq) (ih _ _ gy gq hy hq) hv
   have e:Ma.aj (Ma.aj (Ma.aj x (Ma.aS u)) (Ma.aj (Ma.aj u s) (Ma.aS v))) v=Ma.aj x s:=by
    rw [mul_assoc gy gq,mul_inv_cancel (aV gu gs) gv,<- mul_assoc gy gu,mul_inv_cancel Gx gu]
   rwa [e] at h1
  refine ⟨fun y z gy gz hy hz=>key _ (.mul _ _ (h.gr hl hi (by omega) gy hy (Nat.le_refl _)) (h.gr hl hi (by omega) gz hz (Nat.le_refl _))),fun _=>key⟩
theorem sU.Db {gn:Nat->List Nat->Prop} {tr:Tr} (h:sU n 0 gn tr) (hn:0<n):pL n (Gr n (gn 0)) tr:=by
 have eJ:∀ s,gn 0 s->Gd n s:=fun s hs=>h.gd _ s (Nat.zero_le _) hn hs;refine ⟨h.rp,fun i p u hi hu=>?_,fun i x hi hx=>?_⟩
 ·have:=h.mem i p u (Nat.zero_le _) hi hu
  exact h.sub (i:=0) (Nat.le_refl _) (k:=i) (by omega) (by rwa [Nat.zero_add])
 ·have gx:=(Gr.dC eJ).gd x hx.1
  have h1:=(h.L6 (d:=n) (Nat.le_refl _) (Nat.zero_le _)).2 hn x (by rw [Nat.sub_self]; exact hx.1);have h2:=(Sd.up h.rp (d:=n - i) (k:=i) (by omega) (Nat.zero_le _) gx (by rw [show n - (n - i)=i by omega]; exact hx.2)).1 (by rw [show n - i+i=n by omega]; exact h1);rw [show n - i=(n - i - 1)+1 by omega] at h2;obtain ⟨u,hu,_⟩:=h2;rw [show n - (n - i - 1+1)=i by omega] at hu;exact ⟨u,hu⟩
def lexLt (n:Nat) (y z:List Nat):Prop:=∃ j,j<n/\(∀ m,m<j->ap y m=ap z m)/\ap y j<ap z j
def lu (n:Nat) (P:List Nat->Prop) (y:List Nat):Prop:=P y/\∀ z,P z->z=y∨lexLt n y z
theorem lexLt.asymm {m:Nat} {y z:List Nat} (h:lexLt n y z) (h':lexLt m z y):False:=by
 obtain ⟨j,_,h2,h3⟩:=h;obtain ⟨k,_,h5,h6⟩:=h'
 rcases Nat.lt_trichotomy j k with e | e | e
 ·have:=h5 j e; omega
 ·subst e; omega
 ·have:=h2 k e; omega
theorem lu.uniq {P:List Nat->Prop} {y z:List Nat} (h:lu n P y) (h':lu n P z):y=z:=by
 rcases h.2 z h'.1 with e | e
 ·exact e.symm
 ·rcases h'.2 y h.1 with e' | e'
  ·exact e'
  ·exact (e.asymm e').elim
def LI (H:List Nat->Prop) (i k:Nat) (x y:List Nat):Prop :=
 (∃ h,St H (i+1) h/\y=Ma.aj h x)/\∀ h,St H (i+1) h->(∀ m,m<k->ap y m=ap (Ma.aj h x) m)∨∃ j,j<k/\(∀ m,m<j->ap y m=ap (Ma.aj h x) m)/\ap y j<ap (Ma.aj h x) j
theorem LI.start (hH:bT n H) {i:Nat} (hi:i<n) {x:List Nat} (gx:Gd n x):LI H i (i+1) x x:=by
 refine ⟨⟨Ma.bh n,⟨hH.one,Fx.one (by omega)⟩,(one_mul gx).symm⟩,fun h hh=>.inl fun m hm=>?_⟩;rw [br (hH.gd h hh.1) (by omega),hh.2 m hm]
theorem LI.step {n:Nat} {H:List Nat->Prop} (hH:bT n H) {tr:Tr} (ht:pL n H tr) {i k q:Nat} {x y u:List Nat} (gx:Gd n x) (hik:i<k) (hk:k<n) (h:LI H i k x y) (hu:tr k q=some u)
  (hq:∀ q',tr k q'≠none->ap y q<=ap y q'):LI H i (k+1) x (Ma.aj u y):=by
 obtain ⟨⟨h0,AJ,rfl⟩,h2⟩:=h;have gu:=ht.rp.gd _ _ _ (Nat.zero_le _) hk hu;have fu:=ht.rp.fx _ _ _ (Nat.zero_le _) hk hu;have g0:=hH.gd h0 AJ.1;have gy:=aV g0 gx
 have ng:∀ m,m<k->ap (Ma.aj u (Ma.aj h0 x)) m=ap (Ma.aj h0 x) m:=fun m hm=>by rw [br gu (by omega),fu m hm]
 refine ⟨⟨Ma.aj u h0,⟨hH.mul _ _ (ht.mem _ _ _ hk hu) AJ.1,Fx.mul gu (by omega) (fu.mono (by omega)) AJ.2⟩,(mul_assoc gu g0).symm⟩,fun h hh=>?_⟩
 rcases h2 h hh with h3 | ⟨j,hj,h4,h5⟩
 ·have gh:=hH.gd h hh.1
  have gz:=aV gh gx
  have fg:Fx k (Ma.aj (Ma.aj h x) (Ma.aS (Ma.aj h0 x))):=fun m hm=>by
   rw [br gz (by omega),<- h3 m hm,ee gy (by omega)]
  have eg:Ma.aj (Ma.aj h x) (Ma.aS (Ma.aj h0 x))=Ma.aj h (Ma.aS h0):=by
   refine gT (n:=n) (aV gz (aN gy)).2 (aV gh (aN g0)).2 fun m hm=>?_;rw [br gz hm,br gh hm,br gh hm];have h1:=cy gh hm;have L0:=cy (aN g0) h1
   have e:ap x (ap h m)=ap (Ma.aj h0 x) (ap (Ma.aS h0) (ap h m)):=by rw [br g0 L0,fC g0 h1]
   rw [e,ee gy L0]
  have Z4:St H k (Ma.aj (Ma.aj h x) (Ma.aS (Ma.aj h0 x))):=⟨by rw [eg]; exact hH.mul _ _ hh.1 (hH.inv _ AJ.1),fg⟩;obtain ⟨v,hv⟩:=ht.all k _ hk Z4;have hle:=hq _ (by rw [hv]; simp)
  have ez:ap (Ma.aj h0 x) (ap (Ma.aj (Ma.aj h x) (Ma.aS (Ma.aj h0 x))) k)=ap (Ma.aj h x) k:=by
   rw [br gz hk,fC gy (cy gz hk)]
  rw [ez] at hle
  have ey:ap (Ma.aj u (Ma.aj h0 x)) k=ap (Ma.aj h0 x) q:=by rw [br gu hk,ht.rp.at_ _ _ _ (Nat.zero_le _) hk hu]
  rcases Nat.lt_or_eq_of_le hle with aE | heq
  ·exact .inr ⟨k,by omega,fun m hm=>by rw [ng m hm]; exact h3 m hm,by rw [ey]; exact aE⟩
  ·exact .inl fun m hm=>by
    by_cases e:m=k
    ·subst e; rw [ey,heq]
    ·rw [ng m (by omega)]; exact h3 m (by omega)
 ·exact .inr ⟨j,by omega,fun m hm=>by rw [ng m (by omega)]; exact h4 m hm,by rw [ng j hj]; exact h5⟩
theorem LI.done (hH:bT n H) {i:Nat} (hi:i<n) {x y:List Nat} (hx:St H i x) (h:LI H i n x y):lu n (fun z=>St H i z/\ap z i=ap x i) y:=by
 obtain ⟨⟨h0,AJ,rfl⟩,h2⟩:=h;have gx:=hH.gd x hx.1;have g0:=hH.gd h0 AJ.1;refine ⟨⟨⟨hH.mul _ _ AJ.1 hx.1,Fx.mul g0 (by omega) (AJ.2.mono (by omega)) hx.2⟩,by rw [br g0 hi,AJ.2 i (by omega)]⟩,fun z ⟨hz,Z5⟩=>?_⟩;have gz:=hH.gd z hz.1
 have hf:Fx (i+1) (Ma.aj z (Ma.aS x)):=fun m hm=>by
  rw [br gz (by omega)]
  by_cases e:m=i
  ·subst e; rw [Z5,ee gx hi]
  ·rw [hz.2 m (by omega)]
   have:=ee gx (show m<n by omega)
   rwa [hx.2 m (by omega)] at this
 have e:=mul_inv_cancel gz gx
 rcases h2 _ ⟨hH.mul _ _ hz.1 (hH.inv _ hx.1),hf⟩ with h3 | h3
 ·rw [e] at h3
  exact .inl (gT (n:=n) gz.2 (aV g0 gx).2 fun m hm=>(h3 m hm).symm)
 ·rw [e] at h3
  obtain ⟨j,hj,h4,h5⟩:=h3;exact .inr ⟨j,hj,h4,h5⟩
structure ak (n:Nat) (H:List Nat->Prop) (O:List (List Nat)) (R:List (List (List Nat))):Prop where
 gK:O.length=n
 iq:R.length=n
 eK:∀ i,i<n->(O.getD i []).Pairwise (· < ·)
 orb:∀ i p,i<n->(p∈O.getD i []↔∃ x,St H i x/\ap x i=p)
 len:∀ i,i<n->(R.getD i []).length=(O.getD i []).length
 rep:∀ i k,i<n->k<(O.getD i []).length->lu n (fun z=>St H i z/\ap z i=(O.getD i []).getD k 0) ((R.getD i []).getD k [])
theorem zQ:∀ {l l':List Nat},l.Pairwise (· < ·)->l'.Pairwise (· < ·)->(∀ x,x∈l↔x∈l')->l=l'
 | [],[],_,_,_=>rfl
 | [],y :: l',_,_,h=>by have:=(h y).2 (List.mem_cons_self ..); simp at this
 | x :: l,[],_,_,h=>by have:=(h x).1 (List.mem_cons_self ..); simp at this
 | x :: l,y :: l',h1,h2,h=>by
  rw [List.pairwise_cons] at h1 h2;have hx:=(h x).1 (List.mem_cons_self ..);have hy:=(h y).2 (List.mem_cons_self ..)
  have e:x=y:=by
   rcases List.mem_cons.1 hx with e | e
   ·exact e
   ·rcases List.mem_cons.1 hy with e' | e'
    ·exact e'.symm
    ·have:=h1.1 y e'; have:=h2.1 x e; omega
  subst e
  rw [zQ h1.2 h2.2 fun z=>⟨fun hz=>by
   rcases List.mem_cons.1 ((h z).1 (List.mem_cons_of_mem _ hz)) with e | e
   ·subst e; have:=h1.1 z hz; omega
   ·exact e,fun hz=>by
   rcases List.mem_cons.1 ((h z).2 (List.mem_cons_of_mem _ hz)) with e | e
   ·subst e; have:=h2.1 z hz; omega
   ·exact e⟩]
theorem getD_in {α:Type} {l:List α} {i:Nat} (h:i<l.length) (d:α):l.getD i d=l[i]:=by rw [List.getD,List.getElem?_eq_getElem h]; rfl
theorem ak.uniq {n:Nat} {H:List Nat->Prop} {O O':List (List Nat)} {R R':List (List (List Nat))} (h:ak n H O R) (h':ak n H O' R'):O=O'/\R=R':=by
 have hO:O=O':=by
  apply List.ext_getElem (by rw [h.gK,h'.gK])
  intro i h1 h2
  have hi:i<n:=by rw [<- h.gK]; exact h1
  have e1:O.getD i []=O[i]:=by simp [List.getD,List.getElem?_eq_getElem h1]
  have e2:O'.getD i []=O'[i]:=by simp [List.getD,List.getElem?_eq_getElem h2]
  rw [<- e1,<- e2];exact zQ (h.eK i hi) (h'.eK i hi) fun p=>(h.orb i p hi).trans (h'.orb i p hi).symm
 subst hO;refine ⟨rfl,?_⟩
 apply List.ext_getElem (by rw [h.iq,h'.iq])
 intro i h1 h2
 have hi:i<n:=by rw [<- h.iq]; exact h1
 have e1:R.getD i []=R[i]:=by simp [List.getD,List.getElem?_eq_getElem h1]
 have e2:R'.getD i []=R'[i]:=by simp [List.getD,List.getElem?_eq_getElem h2]
 rw [<- e1,<- e2]
 apply List.ext_getElem (by rw [h.len i hi,h'.len i hi])
 intro k k1 k2
 have hk:k<(O.getD i []).length:=by rw [<- h.len i hi]; exact k1
 have f1:(R.getD i []).getD k []=(R.getD i [])[k]:=getD_in k1 _;have f2:(R'.getD i []).getD k []=(R'.getD i [])[k]:=getD_in k2 _;rw [<- f1,<- f2];exact (h.rep i k hi hk).uniq (h'.rep i k hi hk)

def dS (n:Nat) (tr:Tr):Nat->List Nat->Nat × List Nat
 | 0,x=>(n,x)
 | d+1,x=>match tr (n - (d+1)) (ap x (n - (d+1))) with
  | none=>(n - (d+1),x)
  | some u=>dS n tr d (Ma.aj x (Ma.aS u))
theorem kd {tr:Tr} {x:List Nat} (h:tr (n - (d+1)) (ap x (n - (d+1)))=none):dS n tr (d+1) x=(n - (d+1),x):=by
 unfold dS; rw [h]
theorem jg {tr:Tr} {x u:List Nat} (h:tr (n - (d+1)) (ap x (n - (d+1)))=some u):dS n tr (d+1) x=dS n tr d (Ma.aj x (Ma.aS u)):=by
 conv=>lhs; unfold dS
 rw [h]
theorem wo {lo:Nat} {tr:Tr} (hr:Rp n lo tr) {i:Nat} (hl:lo<=i) (hi:i<n) {x u:List Nat} (gx:Gd n x) (fx:Fx i x) (hu:tr i (ap x i)=some u):Gd n (Ma.aj x (Ma.aS u))/\Fx (i+1) (Ma.aj x (Ma.aS u)):=by
 have gu:=hr.gd _ _ _ hl hi hu;have fu:=hr.fx _ _ _ hl hi hu;have au:=hr.at_ _ _ _ hl hi hu;refine ⟨aV gx (aN gu),fun j hj=>?_⟩;rw [br gx (by omega)]
 by_cases e:j=i
 ·subst e; rw [<- au]; exact ee gu hi
 ·rw [fx j (by omega)]
  exact Fx.inv gu (by omega) fu j (by omega)
theorem nY {n lo:Nat} {tr:Tr} (hr:Rp n lo tr):∀ {d:Nat} {x:List Nat},d<=n->lo<=n - d->Gd n x->Fx (n - d) x ->
  (dS n tr d x).1<=n/\n - d<=(dS n tr d x).1/\Gd n (dS n tr d x).2/\Fx (dS n tr d x).1 (dS n tr d x).2/\((dS n tr d x).1<n->tr (dS n tr d x).1 (ap (dS n tr d x).2 (dS n tr d x).1)=none)
 | 0,x,_,_,gx,fx=>⟨Nat.le_refl _,by show n - 0<=n; omega,gx,fx,fun h=>absurd h (Nat.lt_irrefl _)⟩
 | d+1,x,hd,hl,gx,fx=>by
  cases h:tr (n - (d+1)) (ap x (n - (d+1))) with
  | none =>
   rw [kd h];exact ⟨by show n - (d+1)<=n; omega,Nat.le_refl _,gx,fx,fun _=>h⟩
  | some u =>
   rw [jg h];obtain ⟨g1,f1⟩:=wo hr hl (by omega) gx fx h;rw [show n - (d+1)+1=n - d by omega] at f1;obtain ⟨a,b,c⟩:=nY hr (d:=d) (by omega) (by omega) g1 f1;exact ⟨a,by omega,c⟩
theorem sV {n:Nat} {tr Da:Tr}:∀ {d:Nat} {x:List Nat},d<=n->(∀ i p u,n - d<=i->tr i p=some u->Da i p=some u)->Sd n Da (n - (dS n tr d x).1) (dS n tr d x).2->Sd n Da d x
 | 0,x,_,_,h=>by
  have:Sd n Da (n - n) x:=h
  rwa [Nat.sub_self] at this
 | d+1,x,hd,hm,hs=>by
  cases h:tr (n - (d+1)) (ap x (n - (d+1))) with
  | none =>
   rw [kd h] at hs;have:Sd n Da (n - (n - (d+1))) x:=hs
   rwa [show n - (n - (d+1))=d+1 by omega] at this
  | some u =>
   rw [jg h] at hs;exact ⟨u,hm _ _ _ (Nat.le_refl _) h,sV (by omega) (fun i p u hi=>hm i p u (by omega)) hs⟩
theorem Dc {n:Nat} {tr:Tr} {H:List Nat->Prop} (hH:bT n H):∀ {d:Nat} {x:List Nat},d<=n->(∀ i p u,n - d<=i->i<n->tr i p=some u->H u)->H x->H (dS n tr d x).2
 | 0,_,_,_,h=>h
 | d+1,x,hd,hm,hx=>by
  cases h:tr (n - (d+1)) (ap x (n - (d+1))) with
  | none=>rw [kd h]; exact hx
  | some u =>
   rw [jg h];exact Dc hH (by omega) (fun i p u hi=>hm i p u (by omega)) (hH.mul _ _ hx (hH.inv _ (hm _ _ _ (Nat.le_refl _) (by omega) h)))
structure Lv where
 gens:List (List Nat)
 orb:List Nat
 rep:Nat->Option (List Nat)
 tried:Nat->Nat
abbrev aY:=Nat->Lv
def bJ (T:aY):Tr:=fun i p=>(T i).rep p
structure eF (n:Nat) (T:aY) (i:Nat):Prop where
 yJ:∀ s∈(T i).gens,Gd n s
 JZ:∀ s∈(T i).gens,Fx i s
 low:i+1<n->∀ s∈(T (i+1)).gens,Gr n (·∈(T i).gens) s
 self:(T i).rep i=some (Ma.bh n)
 wu:∀ p u,(T i).rep p=some u->Gd n u
 Dd:∀ p u,(T i).rep p=some u->Fx i u
 AK:∀ p u,(T i).rep p=some u->ap u i=p
 AL:∀ p u,(T i).rep p=some u->p<n
 De:∀ p u,(T i).rep p=some u->Gr n (·∈(T i).gens) u
 nd:(T i).orb.Nodup
 orb:∀ p,p∈(T i).orb↔∃ u,(T i).rep p=some u
 le:∀ q,(T i).tried q<=(T i).gens.length
 L7:∀ p,(T i).rep p=none->(T i).tried p=0
 pr:∀ q u k (hk:k<(T i).gens.length),(T i).rep q=some u->k<(T i).tried q->∃ v,(T i).rep (ap (T i).gens[k] q)=some v/\Sd n (bJ T) (n - (i+1)) (Ma.aj (Ma.aj u (T i).gens[k]) (Ma.aS v))
def yK (T:aY) (i:Nat):Prop:=∀ q u,(T i).rep q=some u->(T i).tried q=(T i).gens.length
theorem eF.rp {lo:Nat} {T:aY} (h:∀ j,lo<=j->j<n->eF n T j):Rp n lo (bJ T) :=
 ⟨fun i p u hl hi hu=>(h i hl hi).wu p u hu,fun i p u hl hi hu=>(h i hl hi).Dd p u hu,fun i p u hl hi hu=>(h i hl hi).AK p u hu,fun i hl hi=>(h i hl hi).self⟩
theorem eF.Tn {lo:Nat} {T:aY} (h:∀ j,lo<=j->j<n->eF n T j/\yK T j):sU n lo (fun i s=>s∈(T i).gens) (bJ T):=by
 refine ⟨eF.rp fun j a b=>(h j a b).1,fun i s a b=>(h i a b).1.yJ s,fun i s a b=>(h i a (by omega)).1.low b s,fun i p u a b hu=>(h i a b).1.De p u hu,fun i p u s a b hu hs=>?_⟩;obtain ⟨k,hk,rfl⟩:=List.getElem_of_mem hs;exact (h i a b).1.pr p u k hk hu (by rw [(h i a b).2 p u hu]; exact hk)
theorem eF.sd {lo:Nat} {T:aY} (h:∀ j,lo<=j->j<n->eF n T j/\yK T j) (hl:lo<n) {x:List Nat} (hx:Gr n (·∈(T lo).gens) x):Sd n (bJ T) (n - lo) x:=by
 have:=((eF.Tn h).L6 (d:=n - lo) (by omega) (by omega)).2 (by omega) x;rw [show n - (n - lo)=lo by omega] at this;exact this hx
structure Ext (T T':aY):Prop where
 rep:∀ j p u,(T j).rep p=some u->(T' j).rep p=some u
 orb:∀ j,(T j).orb.length<=(T' j).orb.length
 gens:∀ j s,s∈(T j).gens->s∈(T' j).gens
theorem Ext.refl (T:aY):Ext T T:=⟨fun _ _ _ h=>h,fun _=>Nat.le_refl _,fun _ _ h=>h⟩
theorem Ext.trans {T T' WB:aY} (h:Ext T T') (h':Ext T' WB):Ext T WB:=⟨fun j p u e=>h'.rep j p u (h.rep j p u e),fun j=>Nat.le_trans (h.orb j) (h'.orb j),fun j s e=>h'.gens j s (h.gens j s e)⟩
theorem eF.R9 {i:Nat} {T T':aY} (h:eF n T i) (he:T' i=T i) (hx:∀ j p u,(T j).rep p=some u->(T' j).rep p=some u) (ng:i+1<n->∀ s∈(T' (i+1)).gens,Gr n (·∈(T i).gens) s):eF n T' i:=by
 refine ⟨by rw [he]; exact h.yJ,by rw [he]; exact h.JZ,by rw [he]; exact ng,by rw [he]; exact h.self,by rw [he]; exact h.wu,by rw [he]; exact h.Dd,by rw [he]; exact h.AK,by rw [he]; exact h.AL,by rw [he]; exact h.De,by rw [he]; exact h.nd,by rw [he]; exact h.orb,by rw [he]; exact h.le,by rw [he]; exact h.L7,?_⟩;simp only [he];intro q u k hk hu hq;obtain ⟨v,h1,h2⟩:=h.pr q u k hk hu hq;exact ⟨v,h1,Sd.mono (fun j p u _ e=>hx j p u e) h2⟩
theorem eF.ext {i:Nat} {T T':aY} (h:eF n T i) (he:T' i=T i) (hx:Ext T T') (ng:i+1<n->∀ s∈(T' (i+1)).gens,Gr n (·∈(T i).gens) s):eF n T' i:=h.R9 he hx.rep ng
theorem yK.ext {i:Nat} {T T':aY} (h:yK T i) (he:T' i=T i):yK T' i:=by
 unfold yK at *; rw [he]; exact h
def nZ (n:Nat) (T:aY):Nat->Nat
 | 0=>0
 | d+1=>(T (n - (d+1))).orb.length+nZ n T d
def AM (n:Nat) (T:aY) (i:Nat):Nat:=nZ n T (n - i)
theorem p7 {n:Nat} {T T':aY} (h:Ext T T'):∀ d,nZ n T d<=nZ n T' d
 | 0=>Nat.le_refl _
 | d+1=>Nat.add_le_add (h.orb _) (p7 h d)
theorem wx {n:Nat} {T T':aY} (h:Ext T T') {i:Nat} (hi:i<n) (aE:(T i).orb.length<(T' i).orb.length):∀ d,d<=n->n - i<=d->nZ n T d<nZ n T' d
 | 0,_,hd=>by omega
 | d+1,WC,hd=>by
  by_cases e:n - i=d+1
  ·have:n - (d+1)=i:=by omega
   show (T (n - (d+1))).orb.length+nZ n T d<(T' (n - (d+1))).orb.length+nZ n T' d;rw [this];exact Nat.add_lt_add_of_lt_of_le aE (p7 h d)
  ·exact Nat.add_lt_add_of_le_of_lt (h.orb _) (wx h hi aE d (by omega) (by omega))
theorem J0 {T T':aY} (h:Ext T T') (i:Nat):AM n T i<=AM n T' i:=p7 h _
theorem J1 {T T':aY} (h:Ext T T') {i:Nat} (hi:i<n) (hj:j<=i) (aE:(T i).orb.length<(T' i).orb.length):AM n T j<AM n T' j:=wx h hi aE _ (by omega) (by omega)
theorem lN {i:Nat} {T:aY} (h:eF n T i):(T i).orb.length<=n:=by
 have h1:(T i).orb ⊆ List.range n:=fun p hp=>by
  obtain ⟨u,hu⟩:=(h.orb p).1 hp;exact List.mem_range.2 (h.AL p u hu)
 have:=List.Nodup.length_le_of_subset h.nd h1
 rwa [List.length_range] at this
theorem Df {n lo:Nat} {T:aY} (h:∀ j,lo<=j->j<n->eF n T j):∀ d,d<=n->lo<=n - d->nZ n T d<=d*n
 | 0,_,_=>by simp [nZ]
 | d+1,hd,hl=>by
  have h1:=lN (h (n - (d+1)) hl (by omega));have h2:=Df h d (by omega) (by omega);show _+_<=_;rw [Nat.succ_mul]; omega
theorem IX {lo:Nat} {T:aY} (h:∀ j,lo<=j->j<n->eF n T j) {i:Nat} (hi:lo<=i) (hn:n<=64):AM n T i<=4096:=by
 by_cases bF:i<=n
 ·have h1:=Df h (n - i) (by omega) (by omega)
  have h2:(n - i)*n<=64*64:=Nat.mul_le_mul (by omega) hn;unfold AM; omega
 ·unfold AM; rw [show n - i=0 by omega]; simp [nZ]
def fB (T:aY) (lo hi:Nat) (r:List Nat):aY:=fun j=>if lo<=j/\j<=hi then { T j with gens:=(T j).gens++[r] } else T j
theorem gJ {T:aY} {lo hi:Nat} {r:List Nat} (h:lo<=j/\j<=hi):fB T lo hi r j={ T j with gens:=(T j).gens++[r] }:=if_pos h
theorem dY {T:aY} {lo hi:Nat} {r:List Nat} (h:¬ (lo<=j/\j<=hi)):fB T lo hi r j=T j:=if_neg h
theorem qV (T:aY) (lo hi:Nat) (r:List Nat):bJ (fB T lo hi r)=bJ T:=by
 funext j p
 unfold bJ
 by_cases h:lo<=j/\j<=hi
 ·rw [gJ h]
 ·rw [dY h]
theorem sW (T:aY) (lo hi:Nat) (r:List Nat) (j:Nat):(fB T lo hi r j).orb=(T j).orb:=by
 by_cases h:lo<=j/\j<=hi
 ·rw [gJ h]
 ·rw [dY h]
theorem sX (T:aY) (lo hi:Nat) (r:List Nat):Ext T (fB T lo hi r) :=
 ⟨fun j p u h=>(show bJ (fB T lo hi r) j p=some u by rw [qV]; exact h),fun j=>by rw [sW]; exact Nat.le_refl _,fun j s hs=>by
  by_cases h:lo<=j/\j<=hi
  ·rw [gJ h]; exact List.mem_append_left _ hs
  ·rw [dY h]; exact hs⟩
theorem J2 {lo hi i:Nat} {T:aY} {r:List Nat} (h:eF n T i) (hl:lo<=i) (hr:Gd n r) (hf:Fx hi r):eF n (fB T lo hi r) i:=by
 have AO:=fun p=>congrFun (congrFun (qV T lo hi r) i) p;have pM:∀ p,(fB T lo hi r i).rep p=(T i).rep p:=AO
 by_cases jQ:i<=hi
 ·have e:=gJ (T:=T) (r:=r) ⟨hl,jQ⟩
  have hg:∀ s,s∈(T i).gens->s∈(fB T lo hi r i).gens:=fun s hs=>by rw [e]; exact List.mem_append_left _ hs
  have hm:∀ s,s∈(fB T lo hi r i).gens->s∈(T i).gens∨s=r:=fun s hs=>by
   rw [e] at hs
   rcases List.mem_append.1 hs with hs | hs
   ·exact .inl hs
   ·exact .inr (List.mem_singleton.1 hs)
  have P9:r∈(fB T lo hi r i).gens:=by rw [e]; exact List.mem_append_right _ (List.mem_singleton.2 rfl)
  refine ⟨fun s hs=>?_,fun s hs=>?_,fun h1 s hs=>?_,by rw [pM]; exact h.self,fun p u hu=>h.wu p u (by rwa [pM] at hu),fun p u hu=>h.Dd p u (by rwa [pM] at hu),fun p u hu=>h.AK p u (by rwa [pM] at hu),fun p u hu=>h.AL p u (by rwa [pM] at hu),
   fun p u hu=>(h.De p u (by rwa [pM] at hu)).mono hg,by rw [sW]; exact h.nd,fun p=>by rw [sW,pM]; exact h.orb p,fun q=>?_,fun p hp=>by rw [pM] at hp; rw [e]; exact h.L7 p hp,?_⟩
  ·rcases hm s hs with hs | rfl
   ·exact h.yJ s hs
   ·exact hr
  ·rcases hm s hs with hs | rfl
   ·exact h.JZ s hs
   ·exact hf.mono jQ
  ·by_cases h2:i+1<=hi
   ·rw [gJ ⟨by omega,h2⟩] at hs
    rcases List.mem_append.1 hs with hs | hs
    ·exact (h.low h1 s hs).mono hg
    ·rw [List.mem_singleton] at hs; subst hs; exact .gen _ P9
   ·rw [dY (by omega)] at hs
    exact (h.low h1 s hs).mono hg
  ·have:=h.le q
   rw [e]; simp; omega
  ·intro q u k hk hu hq
   rw [pM] at hu
   have J3:k<(T i).tried q:=by rw [e] at hq; exact hq
   have P_:k<(T i).gens.length:=Nat.lt_of_lt_of_le J3 (h.le q)
   have eg:(fB T lo hi r i).gens[k]=(T i).gens[k]:=by simp only [e]; rw [List.getElem_append_left P_]
   obtain ⟨v,h1,h2⟩:=h.pr q u k P_ hu J3;rw [eg];exact ⟨v,by rw [pM]; exact h1,by rw [qV]; exact h2⟩
 ·exact h.ext (dY (by omega)) (sX T lo hi r) fun h1 s hs=>by
   rw [dY (by omega)] at hs; exact h.low h1 s hs
def tick (T:aY) (i q:Nat):aY:=fun j=>if j=i then { T j with tried:=fun p=>if p=q then (T j).tried p+1 else (T j).tried p } else T j
def find (T:aY) (i p:Nat) (y:List Nat):aY:=fun j=>if j=i then { T j with orb:=(T j).orb++[p],rep:=fun z=>if z=p then some y else (T j).rep z } else T j
theorem dy (T:aY) (i q:Nat):tick T i q i={ T i with tried:=fun p=>if p=q then (T i).tried p+1 else (T i).tried p }:=if_pos rfl
theorem gM {T:aY} {i q:Nat} (h:j≠i):tick T i q j=T j:=if_neg h
theorem lO (T:aY) (i p:Nat) (y:List Nat):find T i p y i={ T i with orb:=(T i).orb++[p],rep:=fun z=>if z=p then some y else (T i).rep z }:=if_pos rfl
theorem n5 {T:aY} {i p:Nat} {y:List Nat} (h:j≠i):find T i p y j=T j:=if_neg h
theorem jh (T:aY) (i q:Nat):Ext T (tick T i q) :=
 ⟨fun j p u h=>by
  by_cases e:j=i
  ·subst e; rw [dy]; exact h
  ·rw [gM e]; exact h,fun j=>by
  by_cases e:j=i
  ·subst e; rw [dy]; exact Nat.le_refl _
  ·rw [gM e]; exact Nat.le_refl _,fun j s hs=>by
  by_cases e:j=i
  ·subst e; rw [dy]; exact hs
  ·rw [gM e]; exact hs⟩
theorem sY {T:aY} {i p:Nat} {y:List Nat} (hp:(T i).rep p=none):Ext T (find T i p y) :=
 ⟨fun j z u h=>by
  by_cases e:j=i
  ·subst e
   rw [lO];show (if z=p then some y else (T j).rep z)=some u;rw [if_neg,h];rintro rfl; rw [hp] at h; cases h
  ·rw [n5 e]; exact h,fun j=>by
  by_cases e:j=i
  ·subst e; rw [lO]; simp
  ·rw [n5 e]; exact Nat.le_refl _,fun j s hs=>by
  by_cases e:j=i
  ·subst e; rw [lO]; exact hs
  ·rw [n5 e]; exact hs⟩
theorem J4 {i q:Nat} {T T':aY} (h:eF n T i) {s uq v:List Nat} (hk:(T i).tried q<(T i).gens.length) (hs:(T i).gens[(T i).tried q]=s) (jS:(T i).rep q=some uq)
  (hi:T' i=tick T i q i) (hx:Ext T T') (ng:i+1<n->∀ s∈(T' (i+1)).gens,Gr n (·∈(T i).gens) s) (hv:(T i).rep (ap s q)=some v) (To:Sd n (bJ T') (n - (i+1)) (Ma.aj (Ma.aj uq s) (Ma.aS v))):eF n T' i:=by
 rw [dy] at hi;refine ⟨by rw [hi]; exact h.yJ,by rw [hi]; exact h.JZ,by rw [hi]; exact ng,by rw [hi]; exact h.self,by rw [hi]; exact h.wu,by rw [hi]; exact h.Dd,by rw [hi]; exact h.AK,by rw [hi]; exact h.AL,by rw [hi]; exact h.De,by rw [hi]; exact h.nd,by rw [hi]; exact h.orb,?_,?_,?_⟩
 ·rw [hi]
  intro p;show (if p=q then (T i).tried p+1 else (T i).tried p)<=(T i).gens.length
  split
  ·rename_i e; subst e; omega
  ·exact h.le p
 ·rw [hi]
  intro p hp;show (if p=q then (T i).tried p+1 else (T i).tried p)=0;rw [if_neg]
  ·exact h.L7 p hp
  ·rintro rfl
   have sR:(T i).rep p=none:=hp;rw [jS] at sR; cases sR
 ·simp only [hi]
  intro p u k cO hu hp
  by_cases e:p=q
  ·subst e
   rw [if_pos rfl] at hp
   by_cases e2:k=(T i).tried p
   ·subst e2
    rw [jS] at hu; cases hu;rw [hs]; exact ⟨v,hv,To⟩
   ·obtain ⟨v2,h1,h2⟩:=h.pr p u k cO hu (by omega)
    exact ⟨v2,h1,Sd.mono (fun j p u _ e=>hx.rep j p u e) h2⟩
  ·rw [if_neg e] at hp
   obtain ⟨v2,h1,h2⟩:=h.pr p u k cO hu hp;exact ⟨v2,h1,Sd.mono (fun j p u _ e=>hx.rep j p u e) h2⟩
theorem J5 {i q:Nat} {T:aY} (h:∀ j,i<=j->j<n->eF n T j) (bF:i<n) {s uq:List Nat} (hk:(T i).tried q<(T i).gens.length) (hs:(T i).gens[(T i).tried q]=s) (jS:(T i).rep q=some uq) (hp:(T i).rep (ap s q)=none) :
  eF n (find (tick T i q) i (ap s q) (Ma.aj uq s)) i:=by
 have hl:=h i (Nat.le_refl _) bF
 have J6:s∈(T i).gens:=by rw [<- hs]; exact List.getElem_mem hk
 have gs:=hl.yJ s J6;have gu:=hl.wu q uq jS;have hq:=hl.AL q uq jS;have gy:=aV gu gs;have hx:Ext T (find (tick T i q) i (ap s q) (Ma.aj uq s)):=(jh T i q).trans (sY (by rw [dy]; exact hp))
 have ei:find (tick T i q) i (ap s q) (Ma.aj uq s) i={ gens:=(T i).gens,orb:=(T i).orb++[ap s q],rep:=fun z=>if z=ap s q then some (Ma.aj uq s) else (T i).rep z,tried:=fun p=>if p=q then (T i).tried p+1 else (T i).tried p }:=by rw [lO,dy]
 have ay:ap (Ma.aj uq s) i=ap s q:=by rw [br gu bF,hl.AK q uq jS]
 have fy:Fx i (Ma.aj uq s):=Fx.mul gu (by omega) (hl.Dd q uq jS) (hl.JZ s J6);refine ⟨by rw [ei]; exact hl.yJ,by rw [ei]; exact hl.JZ,?_,?_,?_,?_,?_,?_,?_,?_,?_,?_,?_,?_⟩
 ·rw [ei]
  intro h1 z hz;rw [n5 (by omega),gM (by omega)] at hz;exact hl.low h1 z hz
 ·rw [ei]
  show (if i=ap s q then _ else _)=_;rw [if_neg,hl.self];intro e; rw [<- e,hl.self] at hp; cases hp
 ·rw [ei]
  intro p u hu;have eB:(if p=ap s q then some (Ma.aj uq s) else (T i).rep p)=some u:=hu
  split at eB
  ·cases eB; exact gy
  ·exact hl.wu p u eB
 ·rw [ei]
  intro p u hu;have eB:(if p=ap s q then some (Ma.aj uq s) else (T i).rep p)=some u:=hu
  split at eB
  ·cases eB; exact fy
  ·exact hl.Dd p u eB
 ·rw [ei]
  intro p u hu;have eB:(if p=ap s q then some (Ma.aj uq s) else (T i).rep p)=some u:=hu
  split at eB
  ·rename_i e; cases eB; rw [e]; exact ay
  ·exact hl.AK p u eB
 ·rw [ei]
  intro p u hu;have eB:(if p=ap s q then some (Ma.aj uq s) else (T i).rep p)=some u:=hu
  split at eB
  ·rename_i e; rw [e]; exact cy gs hq
  ·exact hl.AL p u eB
 ·rw [ei]
  intro p u hu;have eB:(if p=ap s q then some (Ma.aj uq s) else (T i).rep p)=some u:=hu
  split at eB
  ·cases eB; exact .mul _ _ (hl.De q uq jS) (.gen _ J6)
  ·exact hl.De p u eB
 ·rw [ei]
  show ((T i).orb++[ap s q]).Nodup;rw [List.nodup_append];refine ⟨hl.nd,by simp,?_⟩;intro a ha b hb e;rw [List.mem_singleton] at hb;subst hb; subst e;obtain ⟨u,hu⟩:=(hl.orb _).1 ha;rw [hp] at hu; cases hu
 ·rw [ei]
  intro p;show p∈(T i).orb++[ap s q]↔∃ u,(if p=ap s q then some (Ma.aj uq s) else (T i).rep p)=some u;rw [List.mem_append,List.mem_singleton]
  by_cases e:p=ap s q
  ·rw [if_pos e]; exact ⟨fun _=>⟨_,rfl⟩,fun _=>.inr e⟩
  ·rw [if_neg e,<- hl.orb p]; exact ⟨fun h=>h.resolve_right e,.inl⟩
 ·rw [ei]
  intro p;show (if p=q then (T i).tried p+1 else (T i).tried p)<=(T i).gens.length
  split
  ·rename_i e; subst e; omega
  ·exact hl.le p
 ·rw [ei]
  intro p FM;have uS:(if p=ap s q then some (Ma.aj uq s) else (T i).rep p)=none:=FM;show (if p=q then (T i).tried p+1 else (T i).tried p)=0
  split at uS
  ·cases uS
  ·rw [if_neg]
   ·exact hl.L7 p uS
   ·rintro rfl; rw [jS] at uS; cases uS
 ·intro p u k uT hu fh
  have cO:k<(T i).gens.length:=by rw [ei] at uT; exact uT
  simp only [ei] at hu fh ⊢
  have AO:∀ z v,(T i).rep z=some v->(if z=ap s q then some (Ma.aj uq s) else (T i).rep z)=some v:=fun z v hz=>by
   rw [if_neg,hz];rintro rfl; rw [hp] at hz; cases hz
  have hold:∀ p u k (cO:k<(T i).gens.length),(T i).rep p=some u->k<(T i).tried p->∃ v,(if ap (T i).gens[k] p=ap s q then some (Ma.aj uq s) else (T i).rep (ap (T i).gens[k] p))=some v/\Sd n (bJ (find (tick T i q) i (ap s q) (Ma.aj uq s))) (n - (i+1)) (Ma.aj (Ma.aj u (T i).gens[k]) (Ma.aS v)):=fun p u k cO hu fh=>by
   obtain ⟨v,h1,h2⟩:=hl.pr p u k cO hu fh;exact ⟨v,AO _ _ h1,Sd.mono (fun j p u _ e=>hx.rep j p u e) h2⟩
  by_cases e:p=ap s q
  ·
   rw [if_pos e] at hu
   exfalso
   by_cases e2:p=q
   ·rw [<- e2,e,hp] at jS; cases jS
   ·rw [if_neg e2] at fh
    have:=hl.L7 p (by rw [e]; exact hp);omega
  ·rw [if_neg e] at hu
   by_cases e2:p=q
   ·subst e2
    rw [if_pos rfl] at fh
    by_cases e3:k=(T i).tried p
    ·subst e3
     rw [jS] at hu; cases hu;rw [hs,if_pos rfl];refine ⟨_,rfl,?_⟩;rw [nX gy];have hr:Rp n (i+1) (bJ T):=eF.rp fun j a b=>h j (by omega) b;exact Sd.mono (fun j p u _ e=>hx.rep j p u e) (Sd.one hr (by omega) (by omega))
    ·exact hold p u k cO hu (by omega)
   ·rw [if_neg e2] at fh
    exact hold p u k cO hu fh
end Go.Proofs.Cm
namespace Go.Proofs.YtpedbljnhnoohaaGreat
open Go.RowKit
open Go.Proofs
section
attribute [local irreducible] Go.Calls
theorem aP {u v:Int} {b:Bool} (t:TypeId) (h:decide (u<v)=b):(binOp .lss t (.int .i64 u) (.int .i64 v)).run Tryz.prog w=.ok (.bool b) w:=by
 subst h;simp [binOp,Op.intCmp]
theorem L8 {u v:Int} {b:Bool} (t:TypeId) (h:decide (u<=v)=b):(binOp .leq t (.int .i64 u) (.int .i64 v)).run Tryz.prog w=.ok (.bool b) w:=by
 subst h;simp [binOp,Op.intCmp]
theorem p8 {u v:Int} {b:Bool} (t:TypeId) (h:decide (v<=u)=b):(binOp .geq t (.int .i64 u) (.int .i64 v)).run Tryz.prog w=.ok (.bool b) w:=by
 subst h;simp [binOp,Op.intCmp]
theorem aU {u v:Int} {b:Bool} (t:TypeId) (h:decide (u≠v)=b):(binOp .neq t (.int .i64 u) (.int .i64 v)).run Tryz.prog w=.ok (.bool b) w:=by
 subst h
 by_cases e:u=v <;> simp [binOp,Op.intCmp,e]
def GI (w:World) (b:Nat) (d:Int) (a:Option Addr) (ll:List (List Int)) (c:Nat):Prop :=
 w.cell? ⟨b,0,none⟩=some (.int .i64 d)/\w.cell? ⟨b,1,none⟩=some (.slice a ll.length c)/\Rg.Rows w (.slice a ll.length c) ll/\b<w.heap.size
theorem GI.c0 {b:Nat} {d:Int} {a:Option Addr} {c:Nat} (h:GI w b d a ll c):w.cell? ⟨b,0,none⟩=some (.int .i64 d):=h.1
theorem GI.c1 {b:Nat} {d:Int} {a:Option Addr} {c:Nat} (h:GI w b d a ll c):w.cell? ⟨b,1,none⟩=some (.slice a ll.length c):=h.2.1
theorem GI.rows {b:Nat} {d:Int} {a:Option Addr} {c:Nat} (h:GI w b d a ll c):Rg.Rows w (.slice a ll.length c) ll:=h.2.2.1
theorem GI.lt {b:Nat} {d:Int} {a:Option Addr} {c:Nat} (h:GI w b d a ll c):b<w.heap.size:=h.2.2.2
theorem GI.jj {w w':World} {b:Nat} {d:Int} {a:Option Addr} {ll:List (List Int)} {c:Nat} (h:GI w b d a ll c) (hb:Below w.heap.size w w'):GI w' b d a ll c :=
 ⟨(hb.cell (p:=⟨b,0,none⟩) h.lt).trans h.c0,(hb.cell (p:=⟨b,1,none⟩) h.lt).trans h.c1,Rg.Rows.jj h.rows hb,Nat.lt_of_lt_of_le h.lt hb.size⟩
theorem GI.new {d:Int} {a:Option Addr} {c:Nat} (h:Rg.Rows w (.slice a ll.length c) ll):GI (w.alloc (.cells #[.int .i64 d,.slice a ll.length c] 43)) w.heap.size d a ll c :=
 ⟨by rw [Rg.aI]; rfl,by rw [Rg.aI]; rfl,Rg.Rows.jj h ((Below.refl _ _).alloc (Nat.le_refl _) _),by simp⟩
theorem GI.enter {gv:Value} (d:Int) (h:Rg.Rows w gv ll):∃ a c,gv=.slice a ll.length c/\GI (w.alloc (.cells #[.int .i64 d,.slice a ll.length c] 43)) w.heap.size d a ll c/\Below w.heap.size w (w.alloc (.cells #[.int .i64 d,.slice a ll.length c] 43)):=by
 obtain ⟨a,c,rfl,_⟩:=h.shape;exact ⟨a,c,rfl,GI.new h,(Below.refl _ _).alloc (Nat.le_refl _) _⟩
end
section
open Go.Proofs.Ob
attribute [local irreducible] Go.Calls
def PR (B:Nat) (w:World) (v:Value) (gs:List (List Nat)):Prop :=
 B<=w.heap.size/\∃ us,w.ownsRow B 27 1 v gs.length us/\Rg.j1 w us gs/\Rg.m_ us v.ownBlock
theorem PR.nil {B:Nat} {w:World} (h:B<=w.heap.size):PR B w (.slice none 0 0) []:=⟨h,[],World.ownsRow_nil _ _ _ _,Rg.j1.nil _,Rg.m_.nil _⟩
theorem PR.jj {B:Nat} {w w':World} {v:Value} {gs:List (List Nat)} (h:PR B w v gs) (hb:Below w.heap.size w w'):PR B w' v gs:=by
 obtain ⟨h0,us,h1,h2,h3⟩:=h;exact ⟨Nat.le_trans h0 hb.size,us,Rg.bE h1 hb,h2.jj hb,h3⟩
theorem PR.rows {B:Nat} {w:World} {v:Value} {gs:List (List Nat)} (h:PR B w v gs) (hl:gs.length<=1000000000):Rg.lq w v gs:=by
 obtain ⟨h0,us,h1,h2,h3⟩:=h;exact h2.rows (Rg.cz.cR h1 hl)
theorem PR.lt {B:Nat} {w:World} {v:Value} {gs:List (List Nat)} (h:PR B w v gs):∀ j,v.ownBlock=some j->B<=j/\j<w.heap.size:=by
 obtain ⟨h0,us,h1,h2,h3⟩:=h;exact fun j e=>h1.lt j e
theorem PR.off (h:PR B w v gs) (hu:Rg.eW w.heap.size u):Rg.py u v.ownBlock:=Rg.py.fresh hu fun j e=>(h.lt j e).2
theorem PR.app {g:List Nat} (h:PR B w v gs) (hu:Rg.NP w u g) (hs:∃ a n c,u=.slice a n c) (ho:Rg.py u v.ownBlock) (hn:gs.length<1000000) (ty:TypeId) :
  ∃ v' X,(Builtin.append_ #[41,41] ty #[v,.slice (some ⟨w.heap.size,0,none⟩) 1 1]).run Tryz.prog (w.alloc (.cells #[u] 27))=.ok v' X /\
   PR B X v' (gs++[g])/\Below B w X/\(∀ v2 l2,Rg.NP w v2 l2->Rg.py v2 v.ownBlock->Rg.NP X v2 l2/\Rg.py v2 v'.ownBlock)/\(∃ a c,v'=.slice a (gs.length+1) c):=by
 obtain ⟨a,n,c,rfl⟩:=hs;obtain ⟨h0,us,h1,h2,h3⟩:=h;have Dg:Below w.heap.size w (w.alloc (.cells #[.slice a n c] 27)):=(Below.refl _ _).alloc (Nat.le_refl _) _;obtain ⟨v',X,r1,r2,r3,r4,r5⟩:=eE (P:=Tryz.prog) bP ty (Rg.bE h1 Dg) (by simp; omega) w.heap.size 1 (u:=.slice a n c) (by rw [Rg.aI]; rfl) rfl (by omega);have hE:=(h2.jj Dg).snoc (hu.jj Dg);have hO:=h3.snoc ho;have AI:(w.alloc (.cells #[.slice a n c] 27)).heap.size<=X.heap.size:=r3.size
 have dR:(w.alloc (.cells #[.slice a n c] 27)).heap.size=w.heap.size+1:=by simp
 refine ⟨v',X,r1,⟨by omega,_,by rw [List.length_append]; exact r2,hE.grown hO r3,Rg.m_.next hO hE r4 (Nat.le_refl _)⟩,((Below.refl _ _).alloc h0 _).grown r3 (by omega) (fun j e=>(h1.lt j e).1),fun v2 l2 e1 e2=>?_,r5⟩;exact ⟨(e1.jj Dg).grown e2 r3,Rg.py.next e2 (e1.jj Dg) r4 (Nat.le_refl _)⟩
theorem cG (X:World) (u:Value) (hs:∃ a n c,u=.slice a n c):(Instr.buildSlice 41 1 #[(0,u)]).run Tryz.prog X=.ok (.slice (some ⟨X.heap.size,0,none⟩) 1 1) (X.alloc (.cells #[u] 27)):=by
 obtain ⟨i0,hi,cN,bs,dI⟩:=info_parts cU;obtain ⟨a,n,c,rfl⟩:=hs;refine run_buildSlice X 41 27 1 _ _ i0 _ Tryz.underlying41 hi cN (by rw [bs]; decide) (by rw [bs]; decide) ?_;generalize (fun x=>((Value.slice none 0 0).cells)[x % (Value.slice none 0 0).cells.size]!)=f;rw [bs];have h1:Array.range (1*1)=#[0]:=rfl;simp [Instr.fill,Value.cells,h1]
theorem fl {a b:List Nat}:Ma.ag a=Ma.ag b↔a=b:=by
 constructor
 ·intro h
  have:=congrArg (fun l=>l.map Int.toNat) h
  simpa [Ma.ag,List.map_map,Function.comp_def] using this
 ·rintro rfl; rfl
end
section
attribute [local irreducible] Go.Calls Go.wpStill
def R_ (F:FuncId) (gN:Array Value) (mv:List (List Nat)) (p:List Nat->Bool) (w:World):Prop :=
 ∀ x,x∈mv->∀ w1 u,Below w.heap.size w w1->Rg.NP w1 u x->Calls Tryz.prog F (#[u]++gN) w1 fun e w2=>e=.returned (.bool (p x))/\Below w1.heap.size w1 w2
def uk (mv:List (List Nat)) (p:List Nat->Bool):Int:=match mv.findIdx? p with
 | some i=>i
 | none=>-1
theorem J7 {mv:List (List Nat)} {p:List Nat->Bool} {k:Nat} (hk:k<mv.length) (h:∀ i (hi:i<mv.length),i<k->p mv[i]=false) (hp:p mv[k]=true):uk mv p=k:=by
 have:mv.findIdx? p=some k:=by
  rw [List.findIdx?_eq_some_iff_getElem];exact ⟨hk,hp,fun j hj=>by simp [h j (by omega) hj]⟩
 unfold uk; rw [this]
theorem FN {mv:List (List Nat)} {p:List Nat->Bool} (h:∀ i (hi:i<mv.length),p mv[i]=false):uk mv p = -1:=by
 have:mv.findIdx? p=none:=by
  rw [List.findIdx?_eq_none_iff];intro x hx;obtain ⟨i,hi,rfl⟩:=List.getElem_of_mem hx;exact h i hi
 unfold uk; rw [this]
theorem J8 (mv:List (List Nat)) (p:List Nat->Bool):decide (0<=uk mv p)=mv.any p:=by
 unfold uk
 cases h:mv.findIdx? p with
 | none =>
  rw [List.findIdx?_eq_none_iff] at h
  have:mv.any p=false:=by rw [List.any_eq_false]; intro x hx; simp [h x hx]
  rw [this]; rfl
 | some i =>
  rw [List.findIdx?_eq_some_iff_getElem] at h;obtain ⟨h1,h2,_⟩:=h
  have:mv.any p=true:=by rw [List.any_eq_true]; exact ⟨_,List.getElem_mem h1,h2⟩
  rw [this]; simp
theorem wy (sZ:Value) (mv:List (List Nat)) (F:FuncId) (gN:Array Value) (p:List Nat->Bool) (w:World) (h:Rg.lq w sZ mv) (hl:mv.length<=2000) (hF:∀ args w,(callFunc F args).run Tryz.prog w=.ok (.enter F args) w) (hf:R_ F gN mv p w) :
  Calls Tryz.prog 135 #[sZ,.func (.func F) #[] gN] w fun e w'=>e=.returned (.int .i64 (uk mv p))/\Below w.heap.size w w':=by
 obtain ⟨ad,cap,rfl,hc,hm,_,aO⟩:=h.shape;have Hr:=U aO;have HF:=U hf;clear h aO hf
 go_enter Tryz.func135,Tryz.ntmps135
 go_wp2
 go_loopw [8] (fun vi wr=>∃ k:Nat,k<=mv.length/\vi=.int .i64 k/\Hid (∀ i (hi:i<mv.length),i<k->p mv[i]=false)/\Hid (Below w.heap.size w wr)) (fun vi _=>mv.length - (intOf vi).toNat)
 case atStart=>exact ⟨0,by omega,rfl,fun i hi h0=>by omega,Below.refl _ _⟩
 case round =>
  obtain ⟨k,hk,rfl,iN,hb⟩:=hrel
  by_cases aE:k<mv.length
  ·obtain ⟨b,o,rfl,Tp,L9⟩:=Hr.p (by omega)
   obtain ⟨u,eu,hu⟩:=L9 k aE;have e0:wr.cell? ⟨b,o+k,none⟩=some u:=(hb.p.cell (p:=⟨b,o+k,none⟩) Tp).trans eu;obtain ⟨un,ua,uc,vX,rfl,_⟩:=hu.len;obtain ⟨x,hx⟩:∃ x,x=mv[k]:=⟨_,rfl⟩;rw [<- hx] at hu vX;have iA:=HF.p x (by rw [hx]; exact List.getElem_mem _) wr _ hb.p (hu.jj hb.p);have lL:=U aE;have Hx:=U hx;clear L9 eu hu vX hx
   cases hp:p x
   ·have Hp:=U hp
    have p9:=U (show Calls Tryz.prog F (#[.slice ua un uc]++gN) wr (fun e w2=>e=.returned (.bool false)/\Below wr.heap.size wr w2) from iA.mono fun e w2 ⟨h1,h2⟩=>⟨h1.trans (by rw [Hp.p]),h2⟩);clear iA hp
    go_wp2_with (refine p9.p.mono ?_; rintro e w1 ⟨rfl,cX⟩)
    go_roundw
    case rel=>exact ⟨k+1,by omega,by go_num,fun i hi h0=>(by
     rcases Nat.lt_or_ge i k with h1 | h1
     ·exact iN.p i hi h1
     ·obtain rfl:i=k:=by omega
      rw [<- Hx.p]; exact Hp.p),Rg.acc hb.p cX⟩
    case measure=>simp [intOf]; omega
   ·have Hp:=U hp
    have p9:=U (show Calls Tryz.prog F (#[.slice ua un uc]++gN) wr (fun e w2=>e=.returned (.bool true)/\Below wr.heap.size wr w2) from iA.mono fun e w2 ⟨h1,h2⟩=>⟨h1.trans (by rw [Hp.p]),h2⟩);clear iA hp
    go_wp2_with (refine p9.p.mono ?_; rintro e w1 ⟨rfl,cX⟩)
    go_ret;exact ⟨Rg.gI (J7 lL.p iN.p (by rw [<- Hx.p]; exact Hp.p)).symm,Rg.acc hb.p cX⟩
  ·obtain rfl:k=mv.length:=by omega
   go_wp2;go_ret;exact ⟨Rg.gI (FN (fun i hi=>iN.p i hi hi)).symm,hb.p⟩
theorem kQ (sZ:Value) (mv:List (List Nat)) (F:FuncId) (gN:Array Value) (p:List Nat->Bool) (w:World) (h:Rg.lq w sZ mv) (hl:mv.length<=2000) (hF:∀ args w,(callFunc F args).run Tryz.prog w=.ok (.enter F args) w) (hf:R_ F gN mv p w) :
  Calls Tryz.prog 102 #[sZ,.func (.func F) #[] gN] w fun e w'=>e=.returned (.bool (mv.any p))/\Below w.heap.size w w':=by
 have hi:=U (wy sZ mv F gN p w h hl hF hf);have ha:=J8 mv p;generalize uk mv p=r at hi ha;generalize mv.any p=b at ha ⊢;have Ha:=U ha;clear ha h hf hF
 go_enter Tryz.func102,Tryz.ntmps102
 go_wp2_with (refine hi.p.mono ?_; rintro e w1 ⟨rfl,cX⟩)
 go_ret;exact ⟨Rg.ja Ha.p,cX⟩
end
section
open Go.Proofs.Ob
attribute [local irreducible] Go.Calls
theorem qW:(Tryz.prog.info? 27).map (·.size)=some 1:=by kernel_rfl

theorem dJ {o:Oper} {a:Act} (F:FuncId) (x:Operand) (ho:o.op=.makeFunc (.func F) #[] #[x]) (hx:a.eval x=v):(execOp a.eval o).run Tryz.prog w=.ok (.value (.func (.func F) #[] #[v])) w:=by
 unfold execOp;simp [ho,hx,Instr.makeFunc]

theorem cV (w:World):Rg.Rows w (.slice none 0 0) []:=⟨[],⟨none,0,rfl,by simp,by unfold maxLen; simp,by simp [Rg.uL],fun h=>by simp at h⟩,rfl,fun i h=>by simp at h⟩
end
end Go.Proofs.YtpedbljnhnoohaaGreat
namespace Go.Proofs
open Go.Shelf
def Tryz.AP:Go.Shelf.Ren:=⟨fun | 189=>123 | 125=>139 | 257=>150 | 128=>160 | 129=>161 | 294=>167 | 295=>168 | 296=>169 | 297=>170 | 298=>171 | 299=>172 | 216=>140 | 300=>173 | 301=>174 | 328=>180 | 329=>176 | 330=>177 | 331=>181 | 332=>182 | 215=>162 | 343=>184 | n=>n,fun | 28=>26 | 3=>3 | 46=>177 | 0=>0 | 51=>192 | 53=>194 | 4=>4 | 183=>186 | 182=>185 | 131=>156 | 5=>5 | 9=>9 | 218=>204 | 222=>208 | 228=>212 | 229=>213 | n=>n,fun | n=>n⟩
theorem Tryz.L_:Go.Proofs.Lays.n189 Tryz.prog Tryz.AP:={
 mixed:=by kernel_rfl
 f125:=Tryz.func139.trans (congrArg some (by kernel_rfl))
 f128:=Tryz.func160.trans (congrArg some (by kernel_rfl))
 f129:=Tryz.func161.trans (congrArg some (by kernel_rfl))
 f189:=Tryz.func123.trans (congrArg some (by kernel_rfl))
 f215:=Tryz.func162.trans (congrArg some (by kernel_rfl))
 f216:=Tryz.func140.trans (congrArg some (by kernel_rfl))
 f257:=Tryz.func150.trans (congrArg some (by kernel_rfl))
 f294:=Tryz.func167.trans (congrArg some (by kernel_rfl))
 f295:=Tryz.func168.trans (congrArg some (by kernel_rfl))
 f296:=Tryz.func169.trans (congrArg some (by kernel_rfl))
 f297:=Tryz.func170.trans (congrArg some (by kernel_rfl))
 f298:=Tryz.func171.trans (congrArg some (by kernel_rfl))
 f299:=Tryz.func172.trans (congrArg some (by kernel_rfl))
 f300:=Tryz.func173.trans (congrArg some (by kernel_rfl))
 f301:=Tryz.func174.trans (congrArg some (by kernel_rfl))
 f328:=Tryz.func180.trans (congrArg some (by kernel_rfl))
 f329:=Tryz.func176.trans (congrArg some (by kernel_rfl))
 f330:=Tryz.func177.trans (congrArg some (by kernel_rfl))
 f331:=Tryz.func181.trans (congrArg some (by kernel_rfl))
 f332:=Tryz.func182.trans (congrArg some (by kernel_rfl))
 f343:=Tryz.func184.trans (congrArg some (by kernel_rfl))
 t0:=Tryz.underlying0
 a0:=Tryz.isAgg0
 z0:=Tryz.sizeOf0
 v0:=Tryz.zeroValue0
 t3:=Tryz.underlying3
 a3:=Tryz.isAgg3
 z3:=Tryz.sizeOf3
 v3:=Tryz.zeroValue3
 t4:=Tryz.underlying4
 a4:=Tryz.isAgg4
 z4:=Tryz.sizeOf4
 v4:=Tryz.zeroValue4
 t5:=Tryz.underlying5
 a5:=Tryz.isAgg5
 z5:=Tryz.sizeOf5
 v5:=Tryz.zeroValue5
 t9:=Tryz.underlying9
 a9:=Tryz.isAgg9
 z9:=Tryz.sizeOf9
 v9:=Tryz.zeroValue9
 t28:=Tryz.underlying26
 a28:=Tryz.isAgg26
 z28:=Tryz.sizeOf26
 v28:=Tryz.zeroValue26
 t46:=Tryz.underlying177
 a46:=Tryz.isAgg177
 z46:=Tryz.sizeOf177
 v46:=Tryz.zeroValue177
 t51:=Tryz.underlying192
 a51:=Tryz.isAgg192
 z51:=Tryz.sizeOf192
 v51:=Tryz.zeroValue192
 t53:=Tryz.underlying194
 a53:=Tryz.isAgg194
 z53:=Tryz.sizeOf194
 v53:=Tryz.zeroValue194
 t131:=Tryz.underlying156
 a131:=Tryz.isAgg156
 z131:=Tryz.sizeOf156
 v131:=Tryz.zeroValue156
 t182:=Tryz.underlying185
 a182:=Tryz.isAgg185
 z182:=Tryz.sizeOf185
 v182:=Tryz.zeroValue185
 t183:=Tryz.underlying186
 a183:=Tryz.isAgg186
 z183:=Tryz.sizeOf186
 v183:=Tryz.zeroValue186
 t218:=Tryz.underlying204
 a218:=Tryz.isAgg204
 z218:=Tryz.sizeOf204
 v218:=Tryz.zeroValue204
 t222:=Tryz.underlying208
 a222:=Tryz.isAgg208
 z222:=Tryz.sizeOf208
 v222:=Tryz.zeroValue208
 t228:=Tryz.underlying212
 a228:=Tryz.isAgg212
 z228:=Tryz.sizeOf212
 v228:=Tryz.zeroValue212
 t229:=Tryz.underlying213
 a229:=Tryz.isAgg213
 z229:=Tryz.sizeOf213
 v229:=Tryz.zeroValue213 }
open Go.Sort Go.RowKit in
theorem Tryz.slices_Sort_int (blk off cap:Nat) (zs:List Int) (w:World) (hH:Holds (Value.int .i64) w blk off zs.toArray) (hblk:blk<w.heap.size) (dR:zs.length<4611686018427387904) :
  Calls Tryz.prog 123 #[.slice (some ⟨blk,off,none⟩) zs.length cap] w fun e w' =>
   e=.returned (.tuple #[])/\∃ n os,w'=grow (putRow (Value.int .i64) (Sort.ahead w n) blk off (zs.mergeSort fun x y=>decide (x<=y)).toArray) os:=Any.slices_Sort_int Tryz.L_ blk off cap zs w hH hblk dR
end Go.Proofs
namespace Go.Proofs.YtpedbljnhnoohaaGreat
open Go.RowKit
open Go.Proofs
open Go.Proofs.Ob
attribute [local irreducible] Go.Calls
theorem kR (l:List Int):(eK l).length=l.length:=by
 rw [lM]; exact List.length_mergeSort _
theorem J9 (B n:Nat) (v:Value) (l:List Int) (w:World) (h:w.ownsRow B 3 1 v n (l.map (Value.int .i64))) (hn:0<n) (hm:n<=1000000000) :
  Calls Tryz.prog 123 #[v] w fun e w'=>(∃ r,e=.returned r)/\w'.ownsRow B 3 1 v n ((eK l).map (Value.int .i64))/\w.grownBy w' v.ownBlock:=by
 obtain ⟨h1,h2⟩:=h
 have hl:l.length=n:=by simpa using h1
 rcases h2 with ⟨_,h0⟩ | ⟨g,cap,cur,rfl,hg,hc,h3,h4,h5,h6⟩
 ·omega
 subst hl;rw [Nat.mul_one] at h6;have hH:=holds_of_blockI hc h6;refine (Tryz.slices_Sort_int g 0 cap l w hH (Array.getElem?_eq_some_iff.1 hc).1 (by omega)).mono ?_;rintro e w' ⟨rfl,N,os,rfl⟩;have e1:(l.mergeSort fun x y=>decide (x<=y))=eK l:=(lM l).symm;rw [e1];refine ⟨⟨_,rfl⟩,ownsRow_sortedI (kR l) hg hc h3 h4 h5,grownBy_sortedI _⟩
end Go.Proofs.YtpedbljnhnoohaaGreat
namespace Go.Proofs.Rg
open Go Go.RowKit
variable {P:Program} {md:Region.Mode} {ops:Array Oper} {Q:Exit->Act->World->Prop} {S:Array Bool->World->Prop}
theorem wz {i:Nat} {I:World->Prop} {R:Value->World->Prop} {K:World->World->Prop} {oi:Oper} {b:Act} (hi:ops[i]?=some oi) (hd:oi.dst=some d) (hw:Region.wanted oi (yielded ops b.tmps)=true)
  (hr:(execOp b.eval oi).run P W=.ok (.value v) W') (hp:I W'/\R v W'/\K W W'):Does P ops Q i d I R K b W :=
 nP (some d) hi hd hw hr ⟨v,rfl,hp⟩
def gO (B:Nat) (us:List Value) (v:Value) (w:World):Prop:=∃ p,v=.slice (some ⟨p,0,none⟩) us.length us.length/\B<=p/\p<w.heap.size/\∀ j (h:j<us.length),w.cell? ⟨p,j,none⟩=some us[j]
theorem gO.jj {us:List Value} (h:gO B us v w) (hb:Below w.heap.size w w'):gO B us v w':=by
 obtain ⟨p,e,h0,h1,h2⟩:=h;exact ⟨p,e,h0,Nat.lt_of_lt_of_le h1 hb.size,fun j hj=>(hb.cell (p:=⟨p,j,none⟩) h1).trans (h2 j hj)⟩
theorem gO.new (w:World) (us:List Value) (t:TypeId) (hB:B<=w.heap.size):gO B us (.slice (some ⟨w.heap.size,0,none⟩) us.length us.length) (w.alloc (.cells us.toArray t)) :=
 ⟨w.heap.size,rfl,hB,by simp,fun j hj=>by rw [aI]; simp [List.getElem?_eq_getElem hj]⟩
theorem gO.grown {us:List Value} {k:Option Nat} (h:gO B us v w) (hg:w.grownBy w' k) (hk:∀ j,k=some j->j<B):gO B us v w':=by
 obtain ⟨p,e,h0,h1,h2⟩:=h
 exact ⟨p,e,h0,Nat.lt_of_lt_of_le h1 hg.size,fun j hj=>by
  rw [<- h2 j hj]
  exact World.cell?_of_block (a:=⟨p,j,none⟩) (hg.block p h1 (fun e=>by have:=hk p e.symm; omega))⟩
theorem gO.zJ {us:List Value} (h:gO B us v w) (hl:us.length<=1000000):cz w v us:=by
 obtain ⟨p,rfl,h0,h1,h2⟩:=h;exact cz.mk h1 (Nat.le_refl _) (by unfold maxLen; omega) (by omega) (fun i hi=>by rw [Nat.zero_add]; exact h2 i hi)
end Go.Proofs.Rg
namespace Go.Proofs.YtpedbljnhnoohaaGreat
open Go.RowKit
open Go.Proofs
section
open Go.Proofs.Ob
attribute [local irreducible] Go.Calls
def qX (B:Nat) (u:Value) (w:World):Prop:=w.ownsRow B 3 1 u 0 []/\∃ p,u=.slice (some ⟨p,0,none⟩) 0 0/\p<w.heap.size/\w.cell? ⟨p,0,none⟩=none
theorem qX.jj (h:qX B u w) (hb:Below w.heap.size w w'):qX B u w':=by
 obtain ⟨h1,p,e,h2,h3⟩:=h;exact ⟨Rg.bE h1 hb,p,e,Nat.lt_of_lt_of_le h2 hb.size,(hb.cell (p:=⟨p,0,none⟩) h2).trans h3⟩
theorem qX.new (w:World) (hB:B<=w.heap.size):qX B (.slice (some ⟨w.heap.size,0,none⟩) 0 0) (w.alloc (.cells #[] 3)):=by
 refine ⟨⟨rfl,.inr ⟨w.heap.size,0,#[],rfl,hB,by show (w.heap.push _)[w.heap.size]?=_; simp,Nat.le_refl _,Nat.zero_le _,rfl,rfl⟩⟩,w.heap.size,rfl,by simp,by rw [Rg.aI]; rfl⟩
theorem qX.ne {B':Nat} {x:Value} (h:qX B u w) (h':Rg.gO B' [x] v w):∀ p,v=.slice (some ⟨p,0,none⟩) 1 1->u.ownBlock≠some p:=by
 obtain ⟨_,p,rfl,_,h3⟩:=h;obtain ⟨q,rfl,_,_,h4⟩:=h';intro p' e' e;simp at e';subst e';simp [Value.ownBlock] at e;subst e;have:=h4 0 (by simp);rw [h3] at this; cases this
theorem gO.off {x:Value} {k:Option Nat} (h:Rg.gO B [x] v w) (hg:w.grownBy w' k) (hk:∀ p,v=.slice (some ⟨p,0,none⟩) 1 1->k≠some p):Rg.gO B [x] v w':=by
 obtain ⟨p,e,h0,h1,h2⟩:=h
 exact ⟨p,e,h0,Nat.lt_of_lt_of_le h1 hg.size,fun j hj=>by
  rw [<- h2 j hj]
  exact World.cell?_of_block (a:=⟨p,j,none⟩) (hg.block p h1 (fun e'=>hk p e e'.symm))⟩
theorem um {l:List Int}:∀ u∈l.map (Value.int .i64),u.oneCell'=true:=fun u hu=>by
 obtain ⟨x,_,rfl⟩:=List.mem_map.1 hu; rfl

def R2 (B:Nat) (w:World) (v1 v2:Value) (l1 l2:List Int):Prop :=
 B<=w.heap.size/\w.ownsRow B 3 1 v1 l1.length (l1.map (Value.int .i64))/\w.ownsRow B 3 1 v2 l2.length (l2.map (Value.int .i64))/\Rg.gX v1 v2
theorem R2.jj {l1 l2:List Int} (h:R2 B w v1 v2 l1 l2) (hb:Below w.heap.size w w'):R2 B w' v1 v2 l1 l2 :=
 ⟨Nat.le_trans h.1 hb.size,Rg.bE h.2.1 hb,Rg.bE h.2.2.1 hb,h.2.2.2⟩
theorem R2.nil {B:Nat} {w:World} (h:B<=w.heap.size):R2 B w (.slice none 0 0) (.slice none 0 0) [] []:=⟨h,World.ownsRow_nil _ _ _ _,World.ownsRow_nil _ _ _ _,Rg.gX.nil _⟩
theorem R2.IQ {l1 l2:List Int} (h:R2 B w v1 v2 l1 l2) (hl:l1.length<1000000) {x:Int} {p c:Nat} (hc:w.cell? ⟨p,0,none⟩=some (.int .i64 x)) (ty:TypeId) :
  ∃ v' X,(Builtin.append_ #[26,26] ty #[v1,.slice (some ⟨p,0,none⟩) 1 c]).run Tryz.prog w=.ok v' X/\R2 B X v' v2 (l1++[x]) l2/\w.grownBy X v1.ownBlock:=by
 obtain ⟨h1,h2,h3,h4⟩:=h;obtain ⟨v',X,r1,r2,r3,r4,_⟩:=eE (P:=Tryz.prog) bK ty h2 h1 p c hc rfl hl;exact ⟨v',X,r1,⟨Nat.le_trans h1 r3.size,by simpa using r2,h4.keep h3 r3,h4.grow h3 r4 (Nat.le_refl _)⟩,r3⟩
theorem R2.swap {l1 l2:List Int} (h:R2 B w v1 v2 l1 l2):R2 B w v2 v1 l2 l1:=⟨h.1,h.2.2.1,h.2.1,h.2.2.2.symm⟩
variable {t e bt:TypeId} {B X n:Nat} {w w':World} {v lv:Value} {O:List (List Int)} {l:List Int} {F:Nat->Bool}
def sn (O:List (List Int)) (x:Nat):Bool:=decide (∃ l∈O,(x:Int)∈l)
theorem o7:(Tryz.prog.info? 26).map (fun i=>(i.zero,i.size,i.bytes))=some (some (.slice none 0 0),1,24):=by kernel_rfl
theorem bU:Rg.pV Tryz.prog 22 26 (.slice none 0 0) 24:=⟨Tryz.underlying22,o7,rfl,by decide⟩
theorem iB (X:World) (u:Value) (hs:∃ a n c,u=.slice a n c):(Instr.buildSlice 22 1 #[(0,u)]).run Tryz.prog X=.ok (.slice (some ⟨X.heap.size,0,none⟩) 1 1) (X.alloc (.cells #[u] 26)):=by
 obtain ⟨i0,hi,cN,bs,dI⟩:=info_parts o7;obtain ⟨a,n,c,rfl⟩:=hs;refine run_buildSlice X 22 26 1 _ _ i0 _ Tryz.underlying22 hi cN (by rw [bs]; decide) (by rw [bs]; decide) ?_;generalize (fun x=>((Value.slice none 0 0).cells)[x % (Value.slice none 0 0).cells.size]!)=f;rw [bs];have h1:Array.range (1*1)=#[0]:=rfl;simp [Instr.fill,Value.cells,h1]
theorem Mb (l:List Int) (x:Int):x∈eK l↔x∈l:=by
 rw [lM]; exact List.mem_mergeSort
end
section
attribute [local irreducible] Go.Calls
theorem wF (v1 v2:Value) (a c:List Nat) (w:World) (h:Rg.NP w v1 a) (h':Rg.NP w v2 c) (JP:∀ x∈a,x<c.length) (hn:a.length<=1000) (h1:1<=a.length) (h2:1<=c.length) :
  Calls Tryz.prog 117 #[v1,v2] w fun e w'=>∃ v,e=.returned v/\Rg.px w w' v (Ma.aj a c)/\Below w.heap.size w w':=by
 obtain ⟨ad,cap,rfl,hc,_,_,aO⟩:=h.shape;obtain ⟨b,o,rfl,hb,hr⟩:=aO (by omega);obtain ⟨nT,cS,rfl,eD,_,_,cT⟩:=h'.shape;obtain ⟨b2,o2,rfl,dG,nU⟩:=cT (by omega);have Hr:=U hr;have Tg:=U nU;have Th:=U JP;clear hr aO h nU cT h' JP;have gB:=kP a.length (by omega) w;have cr:=U (World.rowIs_made w (.int .i64 0) a.length 3)
 go_enter Tryz.func117,Tryz.ntmps117
 go_wp2;clear gB
 go_loopw [13] (fun i wr=>∃ k:Nat,k<=a.length/\i=.int .i64 k/\Hid (wr.rowIs w.heap.size 3 a.length (fun j=>.int .i64 (if j<k then ((c.getD (a.getD j 0) 0:Nat):Int) else 0)))/\Below w.heap.size w wr) (fun i _=>a.length - (intOf i).toNat)
 case atStart=>exact ⟨0,by omega,rfl,cr.p.congr (fun i hi=>by simp),(Below.refl _ _).alloc (Nat.le_refl _) _⟩
 case round =>
  obtain ⟨k,hk,rfl,hs,bN⟩:=hrel;obtain ⟨hc,hf⟩:=Rg.sM bN
  by_cases aE:k<a.length
  ·have e0:wr.cell? ⟨b,o+k,none⟩=some (.int .i64 ((a[k]:Nat):Int)):=(hc b (o+k) hb).trans (Hr.p k aE)
   have uN:a[k]<c.length:=Th.p _ (List.getElem_mem aE);have yI:a.getD k 0=a[k]:=Ma.getD_lt aE
   have e1:wr.cell? ⟨b2,o2+a[k],none⟩=some (.int .i64 ((c.getD (a.getD k 0) 0:Nat):Int)):=by
    rw [yI,Ma.getD_lt uN];exact (hc b2 (o2+a[k]) dG).trans (Tg.p a[k] uN)
   generalize a[k]=x at *;have Z3:=U yI;generalize hy:c.getD (a.getD k 0) 0=y at *;have Hy:=U hy;clear hc hf yI hy;have c1:=hs.p.cell aE;have f1:=hs.p.frozen k;simp only [Nat.lt_irrefl,if_false] at c1;go_wp2
   go_roundw
   case rel =>
    refine ⟨k+1,by omega,by go_num,?_,bN.setCell (Nat.le_refl _) _⟩;refine (hs.p.set k _).congr fun i hi=>?_
    by_cases e:i=k
    ·subst e; rw [if_pos rfl,if_pos (by omega),Hy.p]
    ·rw [if_neg e]
     by_cases e2:i<k
     ·rw [if_pos e2,if_pos (by omega)]
     ·rw [if_neg e2,if_neg (by omega)]
   case measure=>simp [intOf]; omega
  ·obtain rfl:k=a.length:=by omega
   go_wp2;go_ret;refine ⟨_,rfl,⟨Rg.NP.fR hs.p (by rw [Ma.cu]) (by omega) (fun i hi=>?_),Rg.eW.mk _ _ _ _⟩,by assumption⟩;rw [Ma.sL];rw [Ma.cu] at hi;rw [if_pos hi,Ma.getD_lt hi]
theorem FU (n:Nat) (w:World) (hn:n<=1000) :
  Calls Tryz.prog 119 #[.int .i64 n] w fun e w'=>∃ v,e=.returned v/\Rg.px w w' v (Ma.bh n)/\Below w.heap.size w w':=by
 have gB:=kP n (by omega) w;have cr:=U (World.rowIs_made w (.int .i64 0) n 3)
 go_enter Tryz.func119,Tryz.ntmps119
 go_wp2;clear gB
 go_loopw [9] (fun i wr=>∃ k:Nat,k<=n/\i=.int .i64 k/\Hid (wr.rowIs w.heap.size 3 n (fun j=>.int .i64 (if j<k then (j:Int) else 0)))/\Below w.heap.size w wr) (fun i _=>n - (intOf i).toNat)
 case atStart=>exact ⟨0,by omega,rfl,cr.p.congr (fun i hi=>by simp),(Below.refl _ _).alloc (Nat.le_refl _) _⟩
 case round =>
  obtain ⟨k,hk,rfl,hs,bN⟩:=hrel
  by_cases aE:k<n
  ·have c1:=hs.p.cell aE
   have f1:=hs.p.frozen k;simp only [Nat.lt_irrefl,if_false] at c1;go_wp2
   go_roundw
   case rel =>
    refine ⟨k+1,by omega,by go_num,?_,bN.setCell (Nat.le_refl _) _⟩;refine (hs.p.set k _).congr fun i hi=>?_
    by_cases e:i=k
    ·subst e; simp
    ·rw [if_neg e]
     by_cases e2:i<k
     ·rw [if_pos e2,if_pos (by omega)]
     ·rw [if_neg e2,if_neg (by omega)]
   case measure=>simp [intOf]; omega
  ·obtain rfl:k=n:=by omega
   go_wp2;go_ret;refine ⟨_,rfl,⟨Rg.NP.fR hs.p (by rw [Ma.eC]) (by omega) (fun i hi=>?_),Rg.eW.mk _ _ _ _⟩,by assumption⟩;rw [Ma.sK];rw [Ma.eC] at hi;rw [if_pos hi]
theorem wG (v:Value) (a:List Nat) (w:World) (h:Rg.NP w v a) (ha:Ma.iZ a) (hn:a.length<=1000) (h1:1<=a.length) :
  Calls Tryz.prog 118 #[v] w fun e w'=>∃ v,e=.returned v/\Rg.px w w' v (Ma.aS a)/\Below w.heap.size w w':=by
 obtain ⟨ad,cap,rfl,hc,_,_,aO⟩:=h.shape;obtain ⟨b,o,rfl,hb,hr⟩:=aO (by omega);have Hr:=U hr;clear hr aO h;have gB:=kP a.length (by omega) w;have cr:=U (World.rowIs_made w (.int .i64 0) a.length 3)
 go_enter Tryz.func118,Tryz.ntmps118
 go_wp2;clear gB
 go_loopw [11] (fun i wr=>∃ k:Nat,k<=a.length/\i=.int .i64 k/\Hid (wr.rowIs w.heap.size 3 a.length (fun j=>.int .i64 (if j∈a.take k then ((a.idxOf j:Nat):Int) else 0)))/\Below w.heap.size w wr) (fun i _=>a.length - (intOf i).toNat)
 case atStart=>exact ⟨0,by omega,rfl,cr.p.congr (fun i hi=>by simp),(Below.refl _ _).alloc (Nat.le_refl _) _⟩
 case round =>
  obtain ⟨k,hk,rfl,hs,bN⟩:=hrel;obtain ⟨hc,hf⟩:=Rg.sM bN
  by_cases aE:k<a.length
  ·have lL:k<a.length:=aE
   have e0:wr.cell? ⟨b,o+k,none⟩=some (.int .i64 ((a[k]:Nat):Int)):=(hc b (o+k) hb).trans (Hr.p k lL);have uN:a[k]<a.length:=Ma.qI ha lL;have vY:=Ma.lK ha lL
   have jC:∀ i,i∈a.take (k+1)↔(i∈a.take k∨i=a[k]):=fun i=>by rw [List.take_succ_eq_append_getElem lL,List.mem_append,List.mem_singleton]
   generalize hx:a[k]=x at *;have Hx:=U hx;have LZ:=U vY;have nR:=U jC;clear hx hc hf vY jC;have c1:=hs.p.cell uN;have f1:=hs.p.frozen x;generalize (Value.int .i64 (if x∈a.take k then ((a.idxOf x:Nat):Int) else 0))=u0 at c1;go_wp2
   go_roundw
   case rel =>
    refine ⟨k+1,by omega,by go_num,?_,bN.setCell (Nat.le_refl _) _⟩;refine (hs.p.set x _).congr fun i hi=>?_
    by_cases e:i=x
    ·subst e; rw [if_pos rfl,if_pos ((nR.p i).2 (.inr rfl)),LZ.p]
    ·rw [if_neg e]
     by_cases e2:i∈a.take k
     ·rw [if_pos e2,if_pos ((nR.p i).2 (.inl e2))]
     ·rw [if_neg e2,if_neg (fun e3=>((nR.p i).1 e3).elim e2 e)]
   case measure=>simp [intOf]; omega
  ·obtain rfl:k=a.length:=by omega
   go_wp2;go_ret;refine ⟨_,rfl,⟨Rg.NP.fR hs.p (by rw [Ma.cM]) (by omega) (fun i hi=>?_),Rg.eW.mk _ _ _ _⟩,by assumption⟩;rw [Ma.o5];rw [Ma.cM] at hi;rw [List.take_of_length_le (Nat.le_refl _),if_pos (Ma.qJ ha hi)]
theorem fD {e:TypeId} {size:Nat} (h:w.ownsRow base e size v n xs) (hk:Rg.Kp M w w') (hM:∀ k,M k->v.ownBlock≠some k):w'.ownsRow base e size v n xs:=by
 obtain ⟨h1,h2⟩:=h
 rcases h2 with h2 | ⟨g,cap,cur,rfl,hg,hc,h3⟩
 ·exact ⟨h1,.inl h2⟩
 ·exact ⟨h1,.inr ⟨g,cap,cur,rfl,hg,(hk.block g (Array.getElem?_eq_some_iff.1 hc).1 (fun e=>hM g e (by simp [Value.ownBlock]))).trans hc,h3⟩⟩
def KF (F:Nat->Prop) (w w':World):Prop:=Rg.Kp (fun k=>¬ F k) w w'
theorem KF.refl (F:Nat->Prop) (w:World):KF F w w:=Rg.Kp.refl _ _
theorem KF.size {F:Nat->Prop} {w w':World} (h:KF F w w'):w.heap.size<=w'.heap.size:=Rg.Kp.size h
theorem KF.az {F:Nat->Prop} {w w':World} (h:Below w.heap.size w w'):KF F w w':=Rg.Kp.az h
theorem KF.trans {F F':Nat->Prop} {w w' w'':World} (h:KF F w w') (h':KF F' w' w'') (hF:∀ k,F k->F' k):KF F w w'':=Rg.Kp.trans h h' (fun k _ hk hf=>hk (hF k hf))
theorem KF.iR {F F':Nat->Prop} {w w':World} (h:KF F' w w') (hF:∀ k,F k->F' k):KF F w w':=Rg.Kp.iR h (fun k hk hf=>hk (hF k hf))
theorem KF.cell {F:Nat->Prop} {w w':World} (h:KF F w w') {b o:Nat} (hF:F b) (hb:b<w.heap.size):w'.cell? ⟨b,o,none⟩=w.cell? ⟨b,o,none⟩ :=
 World.cell?_of_block (a:=⟨b,o,none⟩) (Rg.Kp.block h b hb (fun e=>e hF))
theorem KF.jj (h:KF F w w') (hB:B<=w.heap.size) (hF:∀ k,k<B->F k):Below B w w' :=
 ⟨Rg.Kp.os h,Rg.Kp.tape h,Rg.Kp.output h,h.size,fun k hk=>Rg.Kp.block h k (Nat.lt_of_lt_of_le hk hB) (fun e=>e (hF k hk))⟩
def c_ (F:Nat->Prop) (w w':World):Nat->Prop:=fun k=>F k∨(w.heap.size<=k/\k<w'.heap.size)
structure KG (F0:Nat->Prop) (w0:World) (F:Nat->Prop) (w:World):Prop where
 sub:∀ k,F0 k->F k
 lt:∀ k,F k->k<w.heap.size
 kf:KF F0 w0 w
theorem KG.refl {F:Nat->Prop} {w:World} (h:∀ k,F k->k<w.heap.size):KG F w F w:=⟨fun _ h=>h,h,KF.refl _ _⟩
theorem KG.up {F0:Nat->Prop} (h:KG F0 w0 F w) (hb:Below w.heap.size w w'):KG F0 w0 (c_ F w w') w' :=
 ⟨fun k hk=>.inl (h.sub k hk),fun k hk=>by rcases hk with hk | hk; exact Nat.lt_of_lt_of_le (h.lt k hk) hb.size; exact hk.2,KF.trans h.kf (KF.az (F:=F) hb) h.sub⟩
theorem KG.Dh {F0:Nat->Prop} (h:KG F0 w0 F w) (hk:KF F w w'):KG F0 w0 F w' :=
 ⟨h.sub,fun k hf=>Nat.lt_of_lt_of_le (h.lt k hf) hk.size,KF.trans h.kf hk h.sub⟩
theorem KG.trans {F0 F F':Nat->Prop} {w0 w w':World} (h:KG F0 w0 F w) (h':KG F w F' w'):KG F0 w0 F' w' :=
 ⟨fun k hk=>h'.sub k (h.sub k hk),h'.lt,KF.trans h.kf h'.kf h.sub⟩
structure CF (F:Nat->Prop) (w:World) (b o:Nat) (v:Value):Prop where
 cell:w.cell? ⟨b,o,none⟩=some v
 J_:F b
 lt:b<w.heap.size
theorem CF.up {b o:Nat} (h:CF F w b o v) (hb:Below w.heap.size w w'):CF (c_ F w w') w' b o v :=
 ⟨(hb.cell (p:=⟨b,o,none⟩) h.lt).trans h.cell,.inl h.J_,Nat.lt_of_lt_of_le h.lt hb.size⟩
theorem CF.kf {b o:Nat} (h:CF F w b o v) (hk:KF F w w'):CF F w' b o v :=
 ⟨(hk.cell h.J_ h.lt).trans h.cell,h.J_,Nat.lt_of_lt_of_le h.lt hk.size⟩
theorem CF.mono {b o:Nat} (h:CF F w b o v) (hF:∀ k,F k->F' k):CF F' w b o v:=⟨h.cell,hF _ h.J_,h.lt⟩
theorem CF.kg {b o:Nat} (h:CF F w b o v) (hk:KG F w F' w'):CF F' w' b o v:=(h.kf hk.kf).mono hk.sub
theorem Ka {us:List Value} (h:Rg.cB F w v us) (hb:Below w.heap.size w w'):Rg.cB (c_ F w w') w' v us:=by
 obtain ⟨a,cap,h1,h2,h3,h4,h5⟩:=h;refine ⟨a,cap,h1,h2,h3,h4,fun h0=>?_⟩;obtain ⟨b,o,e1,e2,e3,e4⟩:=h5 h0;exact ⟨b,o,e1,Nat.lt_of_lt_of_le e2 hb.size,.inl e3,fun i hi=>(hb.cell (p:=⟨b,o+i,none⟩) e2).trans (e4 i hi)⟩
def FP (F:Nat->Prop) (w:World) (v:Value) (p:List Nat):Prop:=Rg.FI F w v (Ma.ag p)
theorem FP.np {p:List Nat} (h:FP F w v p):Rg.NP w v p:=Rg.FI.ints h
theorem FP.up {p:List Nat} (h:FP F w v p) (hb:Below w.heap.size w w'):FP (c_ F w w') w' v p:=Ka h hb
theorem FP.kf {p:List Nat} (h:FP F w v p) (hk:KF F w w'):FP F w' v p:=Rg.FI.kp h hk (fun _ hF hn=>hn hF)
theorem FP.mono {F F':Nat->Prop} {w:World} {v:Value} {p:List Nat} (h:FP F w v p) (hF:∀ k,F k->F' k):FP F' w v p:=Rg.FI.mono h hF
theorem FP.kg {p:List Nat} (h:FP F w v p) (hk:KG F w F' w'):FP F' w' v p:=(h.kf hk.kf).mono hk.sub
theorem FP.new {p:List Nat} (h:Rg.px w w' v p):FP (c_ F w w') w' v p:=by
 obtain ⟨h,hf⟩:=h;obtain ⟨a,cap,h1,h2,h3,h4,h5⟩:=h;refine ⟨a,cap,h1,h2,h3,h4,fun h0=>?_⟩;obtain ⟨b,o,e1,e2,e3⟩:=h5 h0;subst e1;exact ⟨b,o,rfl,e2,.inr ⟨hf _ _ _ h1,e2⟩,e3⟩
theorem FP.shape {p:List Nat} (h:FP F w v p) (h1:1<=p.length):∃ b o c,v=.slice (some ⟨b,o,none⟩) p.length c/\F b/\b<w.heap.size/\∀ i (hi:i<p.length),w.cell? ⟨b,o+i,none⟩=some (.int .i64 ((p[i]:Nat):Int)):=by
 obtain ⟨a,cap,e,h2,h3,h4,h5⟩:=h;rw [List.length_map,Ma.ar] at e;obtain ⟨b,o,e1,e2,e3,e4⟩:=h5 (by rw [List.length_map,Ma.ar]; omega);subst e1;exact ⟨b,o,cap,e,e3,e2,fun i hi=>by rw [e4 i (by simp [Ma.ar]; exact hi)]; simp [Ma.ag]⟩
theorem FP.cell {b o c:Nat} {p:List Nat} (h:FP F w (.slice (some ⟨b,o,none⟩) n c) p) {i:Nat} (hi:i<p.length):CF F w b (o+i) (.int .i64 ((p.getD i 0:Nat):Int)):=by
 obtain ⟨b',o',c',e,h1,h2,h3⟩:=h.shape (by omega);simp at e;obtain ⟨⟨rfl,rfl⟩,_,_⟩:=e;exact ⟨by rw [h3 i hi]; simp [List.getD,List.getElem?_eq_getElem hi],h1,h2⟩
structure LV where
 g:Value
 us:List Value
 o:Value
 t:Nat->Value
 b:Nat->Value
open Go.Proofs.Cm (Lv aY)
def cont (l:Lv) (v:LV) (m:Nat):Value :=
 if m=0 then v.g else if m=1 then v.o else if m<66 then v.t (m - 2) else if m<130 then v.b (m - 66) else .int .i64 ((l.tried (m - 130):Nat):Int)
structure kx (F:Nat->Prop) (L:Nat) (w:World) (l:Lv) (v:LV):Prop where
 pN:w.ownsRow 0 27 1 v.g l.gens.length v.us
 Di:Rg.bx F w v.us (l.gens.map Ma.ag)
 pO:w.ownsRow 0 3 1 v.o l.orb.length ((Ma.ag l.orb).map (Value.int .i64))
 gF:∀ k,v.g.ownBlock=some k->¬ F k/\k≠L
 oF:∀ k,v.o.ownBlock=some k->¬ F k/\k≠L
 go:∀ k,v.g.ownBlock=some k->v.o.ownBlock≠some k
 some_:∀ p x,p<64->l.rep p=some x->FP F w (v.t p) x/\FP F w (v.b p) (Ma.aS x)
 none_:∀ p,p<64->l.rep p=none->v.t p=.slice none 0 0/\v.b p=.slice none 0 0
def LV.own (v:LV) (k:Nat):Prop:=v.g.ownBlock=some k∨v.o.ownBlock=some k
structure aR (F:Nat->Prop) (L n:Nat) (w:World) (T:aY) (V:Nat->LV):Prop where
 jD:∀ k,F k->k<w.heap.size
 LF:¬ F L
 row:w.rowIs L 145 (n*194) (fun j=>cont (T (j / 194)) (V (j / 194)) (j % 194))
 lv:∀ i,i<n->kx F L w (T i) (V i)
 jE:∀ i j,i<n->j<n->i≠j->∀ k,(V i).own k->¬ (V j).own k
theorem zR {b:Nat} {t:TypeId} {f:Nat->Value} (h:w.rowIs b t n f):b<w.heap.size:=by
 obtain ⟨c,h1,_⟩:=h;exact (Array.getElem?_eq_some_iff.1 h1).1
theorem aR.lt {T:aY} {V:Nat->LV} (h:aR F L n w T V):L<w.heap.size:=zR h.row
theorem qY {i m:Nat} (hi:i<n) (hm:m<194):(i*194+m) / 194=i/\(i*194+m) % 194=m/\i*194+m<n*194:=by
 refine ⟨by omega,by omega,?_⟩;have:(i+1)*194<=n*194:=Nat.mul_le_mul_right _ hi;omega
theorem aR.cell {F:Nat->Prop} {L n:Nat} {w:World} {T:aY} {V:Nat->LV} (h:aR F L n w T V) {i m o:Nat} (hi:i<n) (hm:m<194) (ho:o=i*194+m):w.cell? ⟨L,o,none⟩=some (cont (T i) (V i) m):=by
 subst ho;obtain ⟨h1,h2,h3⟩:=qY hi hm;have:=h.row.cell h3;rw [this,h1,h2]
theorem aR.frozen {F:Nat->Prop} {L n:Nat} {w:World} {T:aY} {V:Nat->LV} (h:aR F L n w T V) (o:Nat):w.frozen? ⟨L,o,none⟩=false:=h.row.frozen _
theorem kx.kp {F M:Nat->Prop} {L:Nat} {w w':World} {l:Lv} {v:LV} (h:kx F L w l v) (hk:Rg.Kp M w w') (hF:∀ k,F k->¬ M k) (ho:∀ k,v.own k->¬ M k):kx F L w' l v:=by
 refine ⟨fD h.pN hk (fun k hm e=>ho k (.inl e) hm),h.Di.kp hk hF,fD h.pO hk (fun k hm e=>ho k (.inr e) hm),h.gF,h.oF,h.go,fun p x hp hx=>?_,h.none_⟩;obtain ⟨h1,h2⟩:=h.some_ p x hp hx;exact ⟨Rg.FI.kp h1 hk hF,Rg.FI.kp h2 hk hF⟩
theorem kx.mono {F F':Nat->Prop} {L:Nat} {w:World} {l:Lv} {v:LV} (h:kx F L w l v) (hF:∀ k,F k->F' k) (ho:∀ k,v.own k->¬ F' k):kx F' L w l v:=by
 refine ⟨h.pN,h.Di.mono hF,h.pO,fun k e=>⟨ho k (.inl e),(h.gF k e).2⟩,fun k e=>⟨ho k (.inr e),(h.oF k e).2⟩,h.go,fun p x hp hx=>?_,h.none_⟩;obtain ⟨h1,h2⟩:=h.some_ p x hp hx;exact ⟨h1.mono hF,h2.mono hF⟩
theorem kx.lt {F:Nat->Prop} {L:Nat} {w:World} {l:Lv} {v:LV} (h:kx F L w l v):∀ k,v.own k->k<w.heap.size:=fun k e=>by
 rcases e with e | e
 ·exact (h.pN.lt k e).2
 ·exact (h.pO.lt k e).2
theorem kx.nF {l:Lv} {v:LV} (h:kx F L w l v):∀ k,v.own k->¬ F k/\k≠L:=fun k e=>by
 rcases e with e | e
 ·exact h.gF _ e
 ·exact h.oF _ e
theorem lQ {b:Nat} {t:TypeId} {f:Nat->Value} (h:w.rowIs b t n f) (hk:Rg.Kp M w w') (hM:¬ M b):w'.rowIs b t n f:=by
 have aE:=zR h;obtain ⟨c,h1,h2,h3⟩:=h;exact ⟨c,by rw [hk.block b aE hM]; exact h1,h2,h3⟩
theorem aR.up {T:aY} {V:Nat->LV} (h:aR F L n w T V) (hb:Below w.heap.size w w'):aR (c_ F w w') L n w' T V:=by
 have hk:Rg.Kp (fun k=>False) w w':=Rg.Kp.az hb;have hL:=h.lt
 refine ⟨fun k hk=>by rcases hk with hk | hk; exact Nat.lt_of_lt_of_le (h.jD k hk) hb.size; exact hk.2,fun e=>?_,lQ h.row hk id,fun i hi=>?_,h.jE⟩
 ·rcases e with e | e
  ·exact h.LF e
  ·omega
 ·have hv:=h.lv i hi
  refine (hv.kp hk (fun _ _=>id) (fun _ _=>id)).mono (fun k=>.inl) (fun k e=>?_);have h1:=hv.lt k e;have h2:=(hv.nF k e).1
  rintro (h3 | h3)
  ·exact h2 h3
  ·omega
theorem IY {T T':aY} {V V':Nat->LV} {i m o:Nat} {x:Value} (jD:∀ k,F k->k<w.heap.size) (LF:¬ F L)
  (row:w.rowIs L 145 (n*194) (fun j=>cont (T (j / 194)) (V (j / 194)) (j % 194))) (lv:∀ j,j<n->j≠i->kx F L w (T j) (V j))
  (jE:∀ a b,a<n->b<n->a≠b->a≠i->b≠i->∀ k,(V a).own k->¬ (V b).own k) (hi:i<n) (hm:m<194) (ho:o=i*194+m)
  (hT:∀ j,j≠i->T' j=T j/\V' j=V j) (hc:∀ m',m' < 194->cont (T' i) (V' i) m'=if m'=m then x else cont (T i) (V i) m')
  (hv:kx F L w (T' i) (V' i)) (hd:∀ j k,j<n->j≠i->(V' i).own k->¬ (V j).own k) :
  aR F L n (w.setCell ⟨L,o,none⟩ x) T' V'/\KF F w (w.setCell ⟨L,o,none⟩ x):=by
 subst ho;have hk:Rg.Kp (fun k=>k=L) w (w.setCell ⟨L,i*194+m,none⟩ x):=Rg.Kp.aL rfl;have FV:∀ k,F k->¬ k=L:=fun k hk e=>LF (e▸hk);refine ⟨⟨fun k hf=>Nat.lt_of_lt_of_le (jD k hf) hk.size,LF,?_,fun j hj=>?_,fun a b ha hb eX k h1 h2=>?_⟩,Rg.Kp.iR hk fun k e hf=>FV k hf e⟩
 ·refine (row.set (i*194+m) x).congr fun j hj=>?_
  obtain ⟨h1,h2,_⟩:=qY hi hm
  by_cases e:j / 194=i
  ·have qZ:j % 194<194:=Nat.mod_lt _ (by decide)
   have:=hc (j % 194) qZ
   by_cases e2:j=i*194+m
   ·rw [if_pos e2,e,this,if_pos (by rw [e2,h2])]
   ·rw [if_neg e2,e,this,if_neg (by omega)]
  ·have e2:j≠i*194+m:=by rintro rfl; exact e h1
   rw [if_neg e2,(hT _ e).1,(hT _ e).2]
 ·by_cases e:j=i
  ·subst e
   exact hv.kp hk FV fun k e=>(hv.nF k e).2
  ·rw [(hT j e).1,(hT j e).2]
   exact (lv j hj e).kp hk FV fun k e'=>((lv j hj e).nF k e').2
 ·by_cases ea:a=i
  ·have eb:b≠i:=fun e=>eX (ea.trans e.symm)
   rw [ea] at h1; rw [(hT b eb).2] at h2;exact hd b k hb eb h1 h2
  ·rw [(hT a ea).2] at h1
   by_cases eb:b=i
   ·rw [eb] at h2
    exact hd a k ha ea h2 h1
   ·rw [(hT b eb).2] at h2
    exact jE a b ha hb eX ea eb k h1 h2
theorem aR.put {T T':aY} {V V':Nat->LV} (h:aR F L n w T V) {i m o:Nat} {x:Value} (hi:i<n) (hm:m<194) (ho:o=i*194+m)
  (hT:∀ j,j≠i->T' j=T j/\V' j=V j) (hc:∀ m',m' < 194->cont (T' i) (V' i) m'=if m'=m then x else cont (T i) (V i) m')
  (hv:kx F L w (T' i) (V' i)) (hd:∀ j k,j<n->j≠i->(V' i).own k->¬ (V j).own k) :
  aR F L n (w.setCell ⟨L,o,none⟩ x) T' V'/\KF F w (w.setCell ⟨L,o,none⟩ x) :=
 IY h.jD h.LF h.row (fun j hj _=>h.lv j hj) (fun a b ha hb eX _ _=>h.jE a b ha hb eX) hi hm ho hT hc hv hd
theorem aR.tick {F:Nat->Prop} {L n:Nat} {w:World} {T:aY} {V:Nat->LV} (h:aR F L n w T V) {i q o:Nat} (hi:i<n) (hq:q<64) (ho:o=i*194+(130+q)) :
  aR F L n (w.setCell ⟨L,o,none⟩ (.int .i64 (((T i).tried q+1:Nat):Int))) (Cm.tick T i q) V/\KF F w (w.setCell ⟨L,o,none⟩ (.int .i64 (((T i).tried q+1:Nat):Int))):=by
 have hv:=h.lv i hi;refine h.put hi (by omega) ho (fun j hj=>⟨Cm.gM hj,rfl⟩) (fun m' qZ=>?_) ?_ (fun j k hj hne e1 e2=>h.jE i j hi hj (Ne.symm hne) k e1 e2)
 ·rw [Cm.dy]
  unfold cont
  by_cases h0:m'=0
  ·subst h0; simp; omega
  by_cases h1:m'=1
  ·subst h1; simp; omega
  by_cases h2:m' < 66
  ·simp [h0,h1,h2]; omega
  by_cases h3:m' < 130
  ·simp [h0,h1,h2,h3]; omega
  ·simp only [h0,h1,h2,h3,if_false]
   by_cases e:m'=130+q
   ·subst e; simp
   ·rw [if_neg e,if_neg (by omega)]
 ·rw [Cm.dy]
  exact ⟨hv.pN,hv.Di,hv.pO,hv.gF,hv.oF,hv.go,hv.some_,hv.none_⟩
def iC (T:aY) (i p:Nat) (y:List Nat):aY:=fun j=>if j=i then { T j with rep:=fun z=>if z=p then some y else (T j).rep z } else T j
def n7 (T:aY) (i p:Nat):aY:=fun j=>if j=i then { T j with orb:=(T j).orb++[p] } else T j
def s4 (T:aY) (i:Nat) (r:List Nat):aY:=fun j=>if j=i then { T j with gens:=(T j).gens++[r] } else T j
theorem find_eq (T:aY) (i p:Nat) (y:List Nat):Cm.find T i p y=n7 (iC T i p y) i p:=by
 funext j
 unfold Cm.find n7 iC
 by_cases e:j=i
 ·simp [e]
 ·simp [e]
theorem aR.iC {F:Nat->Prop} {L n:Nat} {w:World} {T:aY} {V:Nat->LV} (h:aR F L n w T V) {i p o1 o2:Nat} {y:List Nat} {yv bv:Value} (hi:i<n) (hp:p<64) (WD:o1=i*194+(2+p)) (Z6:o2=i*194+(66+p))
  (hy:FP F w yv y) (hb:FP F w bv (Ma.aS y)) :
  ∃ V',aR F L n ((w.setCell ⟨L,o1,none⟩ yv).setCell ⟨L,o2,none⟩ bv) (iC T i p y) V'/\KF F w ((w.setCell ⟨L,o1,none⟩ yv).setCell ⟨L,o2,none⟩ bv):=by
 subst WD Z6;have hv:=h.lv i hi
 let V1:Nat->LV:=fun j=>if j=i then { V j with t:=fun z=>if z=p then yv else (V j).t z,b:=fun z=>if z=p then bv else (V j).b z } else V j
 have e1:V1 i={ V i with t:=fun z=>if z=p then yv else (V i).t z,b:=fun z=>if z=p then bv else (V i).b z }:=if_pos rfl
 have eT:Go.Proofs.YtpedbljnhnoohaaGreat.iC T i p y i={ T i with rep:=fun z=>if z=p then some y else (T i).rep z }:=if_pos rfl
 have ir:Rg.Kp (fun k=>k=L) w (w.setCell ⟨L,i*194+(2+p),none⟩ yv):=Rg.Kp.aL rfl;have cO:Rg.Kp (fun k=>k=L) (w.setCell ⟨L,i*194+(2+p),none⟩ yv) ((w.setCell ⟨L,i*194+(2+p),none⟩ yv).setCell ⟨L,i*194+(66+p),none⟩ bv):=Rg.Kp.aL rfl;have hk:=Rg.Kp.trans ir cO (fun k _ e=>e);have FV:∀ k,F k->¬ k=L:=fun k hk e=>h.LF (e▸hk)
 have WE:kx F L w (Go.Proofs.YtpedbljnhnoohaaGreat.iC T i p y i) (V1 i):=by
  rw [eT,e1];refine ⟨hv.pN,hv.Di,hv.pO,hv.gF,hv.oF,hv.go,fun z x hz hx=>?_,fun z hz hx=>?_⟩
  ·have AQ:(if z=p then some y else (T i).rep z)=some x:=hx
   by_cases e:z=p
   ·rw [if_pos e] at AQ; cases AQ
    simp only [e,if_true]; exact ⟨hy,hb⟩
   ·rw [if_neg e] at AQ
    simp only [e,if_false]; exact hv.some_ z x hz AQ
  ·have AQ:(if z=p then some y else (T i).rep z)=none:=hx
   by_cases e:z=p
   ·rw [if_pos e] at AQ; cases AQ
   ·rw [if_neg e] at AQ
    simp only [e,if_false]; exact hv.none_ z hz AQ
 refine ⟨V1,⟨fun k hf=>Nat.lt_of_lt_of_le (h.jD k hf) hk.size,h.LF,?_,fun j hj=>?_,fun a b ha hb eX k h1 h2=>?_⟩,Rg.Kp.iR hk fun k e hf=>FV k hf e⟩
 ·refine ((h.row.set (i*194+(2+p)) yv).set (i*194+(66+p)) bv).congr fun j hj=>?_
  have qZ:j % 194<194:=Nat.mod_lt _ (by decide)
  by_cases e:j / 194=i
  ·rw [e,eT,e1]
   by_cases a:j=i*194+(66+p)
   ·have:j % 194=66+p:=by omega
    rw [if_pos a,this]; unfold cont;rw [if_neg (by omega),if_neg (by omega),if_neg (by omega),if_pos (by omega)];simp
   ·rw [if_neg a]
    by_cases b:j=i*194+(2+p)
    ·have:j % 194=2+p:=by omega
     rw [if_pos b,this]; unfold cont;rw [if_neg (by omega),if_neg (by omega),if_pos (by omega)];simp
    ·rw [if_neg b]
     unfold cont
     by_cases h0:j % 194=0
     ·simp [h0]
     by_cases h1:j % 194=1
     ·simp [h1]
     by_cases h2:j % 194<66
     ·simp only [h0,h1,h2,if_false,if_true]
      show _=(if j % 194 - 2=p then yv else (V i).t (j % 194 - 2));rw [if_neg (by omega)]
     by_cases h3:j % 194<130
     ·simp only [h0,h1,h2,h3,if_false,if_true]
      show _=(if j % 194 - 66=p then bv else (V i).b (j % 194 - 66));rw [if_neg (by omega)]
     ·simp [h0,h1,h2,h3]
  ·have ev:V1 (j / 194)=V (j / 194):=if_neg e
   have et:Go.Proofs.YtpedbljnhnoohaaGreat.iC T i p y (j / 194)=T (j / 194):=if_neg e;rw [if_neg (by rintro rfl; exact e (qY hi (by omega)).1),if_neg (by rintro rfl; exact e (qY hi (by omega)).1),ev,et]
 ·by_cases e:j=i
  ·subst e
   exact WE.kp hk FV fun k e=>(WE.nF k e).2
  ·have ev:V1 j=V j:=if_neg e
   have et:Go.Proofs.YtpedbljnhnoohaaGreat.iC T i p y j=T j:=if_neg e;rw [ev,et];exact (h.lv j hj).kp hk FV fun k e=>((h.lv j hj).nF k e).2
 ·have ho:∀ j k,(V1 j).own k->(V j).own k:=fun j k hk=>by
   by_cases e:j=i
   ·subst e; rw [e1] at hk; exact hk
   ·have ev:V1 j=V j:=if_neg e
    rwa [ev] at hk
  exact h.jE a b ha hb eX k (ho a k h1) (ho b k h2)
theorem p_ {T:aY} {V:Nat->LV} (h:aR F L n w T V) {i p o:Nat} (hi:i<n) (hp:p<64) (ho:o=i*194+(2+p)):w.cell? ⟨L,o,none⟩=some ((V i).t p):=by
 rw [h.cell hi (m:=2+p) (by omega) ho];unfold cont;rw [if_neg (by omega),if_neg (by omega),if_pos (by omega),show 2+p - 2=p by omega]
theorem FW {T:aY} {V:Nat->LV} (h:aR F L n w T V) {i p o:Nat} (hi:i<n) (hp:p<64) (ho:o=i*194+(66+p)):w.cell? ⟨L,o,none⟩=some ((V i).b p):=by
 rw [h.cell hi (m:=66+p) (by omega) ho];unfold cont;rw [if_neg (by omega),if_neg (by omega),if_neg (by omega),if_pos (by omega),show 66+p - 66=p by omega]
theorem Kb {T:aY} {V:Nat->LV} (h:aR F L n w T V) {i p o:Nat} (hi:i<n) (hp:p<64) (ho:o=i*194+(130+p)):w.cell? ⟨L,o,none⟩=some (.int .i64 (((T i).tried p:Nat):Int)):=by
 rw [h.cell hi (m:=130+p) (by omega) ho];unfold cont;rw [if_neg (by omega),if_neg (by omega),if_neg (by omega),if_neg (by omega),show 130+p - 130=p by omega]
theorem Mc {T:aY} {V:Nat->LV} (h:aR F L n w T V) {i o:Nat} (hi:i<n) (ho:o=i*194):w.cell? ⟨L,o,none⟩=some (V i).g:=by
 rw [h.cell hi (m:=0) (by omega) ho]; rfl
theorem ur {T:aY} {V:Nat->LV} (h:aR F L n w T V) {i o:Nat} (hi:i<n) (ho:o=i*194+1):w.cell? ⟨L,o,none⟩=some (V i).o:=by
 rw [h.cell hi (m:=1) (by omega) ho]; rfl
end
section
open Go.Proofs.Cm (Lv aY)
attribute [local irreducible] Go.Calls
theorem aR.WG {T:aY} {V:Nat->LV} (h:aR F L n w T V) {i o:Nat} (hi:i<n) (ho:o=i*194) {r:List Nat} (hr:FP F w rv r) (hs:∃ a m c,rv=.slice a m c) (hl:(T i).gens.length<1000000) (ty:TypeId) :
  ∃ a c X,(Builtin.append_ #[41,41] ty #[(V i).g,.slice (some ⟨w.heap.size,0,none⟩) 1 1]).run Tryz.prog (w.alloc (.cells #[rv] 27))=.ok (.slice a ((T i).gens.length+1) c) X /\
   X.cell? ⟨L,o,none⟩=some (V i).g/\X.frozen? ⟨L,o,none⟩=false/\∃ V',aR F L n (X.setCell ⟨L,o,none⟩ (.slice a ((T i).gens.length+1) c)) (s4 T i r) V'/\KF F w (X.setCell ⟨L,o,none⟩ (.slice a ((T i).gens.length+1) c)):=by
 subst ho;have hv:=h.lv i hi;obtain ⟨a0,m0,c0,rfl⟩:=hs;have ir:Rg.Kp (fun _=>False) w (w.alloc (.cells #[.slice a0 m0 c0] 27)):=Rg.Kp.az ((Below.refl _ _).alloc (Nat.le_refl _) _)
 have dR:(w.alloc (.cells #[.slice a0 m0 c0] 27)).heap.size=w.heap.size+1:=by simp
 have uU:=hv.kp ir (fun _ _=>id) (fun _ _=>id);obtain ⟨v',X,r1,r2,r3,r4,a,c,rfl⟩:=eE (P:=Tryz.prog) bP ty uU.pN (Nat.zero_le _) w.heap.size 1 (u:=.slice a0 m0 c0) (by rw [Rg.aI]; rfl) rfl hl;have kL:Rg.Kp (fun k=>(V i).g.ownBlock=some k) w X:=Rg.Kp.trans (M:=fun k=>(V i).g.ownBlock=some k) (ir.iR fun _=>False.elim) (Rg.Kp.cE r3 fun _ e=>e) (fun _ _ e=>e);have s5:∀ k,F k->¬ (V i).g.ownBlock=some k:=fun k hk e=>(hv.gF k e).1 hk;have Md:¬ (V i).g.ownBlock=some L:=fun e=>(hv.gF L e).2 rfl
 have Tq:X.cell? ⟨L,i*194,none⟩=some (V i).g:=by
  rw [World.cell?_of_block (w:=w) (a:=⟨L,i*194,none⟩) (kL.block L h.lt Md)];exact Mc h hi rfl
 have cr:=lQ h.row kL Md
 refine ⟨a,c,X,r1,Tq,cr.frozen _,fun j=>if j=i then { V i with g:=.slice a ((T i).gens.length+1) c,us:=(V i).us++[.slice a0 m0 c0] } else V j,?_⟩
 have bY:∀ k,(Value.slice a ((T i).gens.length+1) c).ownBlock=some k->(V i).g.ownBlock=some k∨k=w.heap.size+1:=fun k e=>by
  rcases r4 with r4 | r4
  ·exact .inl (by rw [<- r4]; exact e)
  ·rw [r4] at e; injection e with e; exact .inr (by omega)
 have uu:=IY (T:=T) (T':=s4 T i r) (V:=V) (V':=fun j=>if j=i then { V i with g:=.slice a ((T i).gens.length+1) c,us:=(V i).us++[.slice a0 m0 c0] } else V j) (x:=.slice a ((T i).gens.length+1) c)
  (fun k hk=>Nat.lt_of_lt_of_le (h.jD k hk) kL.size) h.LF cr (fun j hj hne=>(h.lv j hj).kp kL s5 (fun k e e2=>h.jE j i hj hi hne k e (.inl e2)))
  (fun a b ha hb eX _ _=>h.jE a b ha hb eX) hi (m:=0) (by omega) rfl (fun j hj=>⟨if_neg hj,if_neg hj⟩) ?_ ?_ ?_
 ·exact ⟨uu.1,Rg.Kp.trans (kL.iR fun k e hf=>s5 k hf e) uu.2 (fun _ _ e=>e)⟩
 ·intro m' qZ
  simp only [if_true,s4];unfold cont
  by_cases h0:m'=0
  ·simp [h0]
  by_cases h1:m'=1
  ·simp [h1]
  ·simp [h0,h1]
 ·simp only [if_true,s4]
  have hF:=hv.kp (M:=fun _=>False) (w':=w) (Rg.Kp.refl _ _) (fun _ _=>id) (fun _ _=>id);have aE:=hv.lt;have iD:=fun q x hq hx=>(hv.some_ q x hq hx);refine ⟨?_,?_,?_,?_,hv.oF,?_,fun q x hq hx=>⟨Rg.FI.kp (iD q x hq hx).1 kL s5,Rg.FI.kp (iD q x hq hx).2 kL s5⟩,hv.none_⟩
  ·rw [List.length_append]; exact r2
  ·rw [List.map_append]
   exact (hv.Di.kp kL s5).app (Rg.bx.one (Rg.FI.kp hr kL s5))
  ·exact fD hv.pO kL (fun k e e2=>hv.go k e e2)
  ·intro k e
   rcases bY k e with e | e
   ·exact hv.gF k e
   ·exact ⟨fun hf=>by have:=h.jD k hf; omega,by have:=h.lt; omega⟩
  ·intro k e e2
   rcases bY k e with e | e
   ·exact hv.go k e e2
   ·have:=aE k (.inr e2); omega
 ·intro j k hj hne e
  simp only [if_true] at e
  rcases e with e | e
  ·rcases bY k e with e | e
   ·exact h.jE i j hi hj (Ne.symm hne) k (.inl e)
   ·intro e2; have:=(h.lv j hj).lt k e2; omega
  ·exact h.jE i j hi hj (Ne.symm hne) k (.inr e)
theorem aR.WH {T:aY} {V:Nat->LV} (h:aR F L n w T V) {i o:Nat} (hi:i<n) (ho:o=i*194+1) (p:Nat) (hl:(T i).orb.length<1000000) (ty:TypeId) :
  ∃ a c X,(Builtin.append_ #[26,26] ty #[(V i).o,.slice (some ⟨w.heap.size,0,none⟩) 1 1]).run Tryz.prog (w.alloc (.cells #[.int .i64 ((p:Nat):Int)] 3))=.ok (.slice a ((T i).orb.length+1) c) X /\
   X.cell? ⟨L,o,none⟩=some (V i).o/\X.frozen? ⟨L,o,none⟩=false/\∃ V',aR F L n (X.setCell ⟨L,o,none⟩ (.slice a ((T i).orb.length+1) c)) (n7 T i p) V'/\KF F w (X.setCell ⟨L,o,none⟩ (.slice a ((T i).orb.length+1) c)):=by
 subst ho;have hv:=h.lv i hi;have ir:Rg.Kp (fun _=>False) w (w.alloc (.cells #[.int .i64 ((p:Nat):Int)] 3)):=Rg.Kp.az ((Below.refl _ _).alloc (Nat.le_refl _) _)
 have dR:(w.alloc (.cells #[.int .i64 ((p:Nat):Int)] 3)).heap.size=w.heap.size+1:=by simp
 have uU:=hv.kp ir (fun _ _=>id) (fun _ _=>id);obtain ⟨v',X,r1,r2,r3,r4,a,c,rfl⟩:=eE (P:=Tryz.prog) bK ty uU.pO (Nat.zero_le _) w.heap.size 1 (u:=.int .i64 ((p:Nat):Int)) (by rw [Rg.aI]; rfl) rfl hl;have kL:Rg.Kp (fun k=>(V i).o.ownBlock=some k) w X:=Rg.Kp.trans (M:=fun k=>(V i).o.ownBlock=some k) (ir.iR fun _=>False.elim) (Rg.Kp.cE r3 fun _ e=>e) (fun _ _ e=>e);have s5:∀ k,F k->¬ (V i).o.ownBlock=some k:=fun k hk e=>(hv.oF k e).1 hk;have Md:¬ (V i).o.ownBlock=some L:=fun e=>(hv.oF L e).2 rfl
 have Tq:X.cell? ⟨L,i*194+1,none⟩=some (V i).o:=by
  rw [World.cell?_of_block (w:=w) (a:=⟨L,i*194+1,none⟩) (kL.block L h.lt Md)];exact ur h hi rfl
 have cr:=lQ h.row kL Md
 refine ⟨a,c,X,r1,Tq,cr.frozen _,fun j=>if j=i then { V i with o:=.slice a ((T i).orb.length+1) c } else V j,?_⟩
 have bY:∀ k,(Value.slice a ((T i).orb.length+1) c).ownBlock=some k->(V i).o.ownBlock=some k∨k=w.heap.size+1:=fun k e=>by
  rcases r4 with r4 | r4
  ·exact .inl (by rw [<- r4]; exact e)
  ·rw [r4] at e; injection e with e; exact .inr (by omega)
 have uu:=IY (T:=T) (T':=n7 T i p) (V:=V) (V':=fun j=>if j=i then { V i with o:=.slice a ((T i).orb.length+1) c } else V j) (x:=.slice a ((T i).orb.length+1) c)
  (fun k hk=>Nat.lt_of_lt_of_le (h.jD k hk) kL.size) h.LF cr (fun j hj hne=>(h.lv j hj).kp kL s5 (fun k e e2=>h.jE j i hj hi hne k e (.inr e2)))
  (fun a b ha hb eX _ _=>h.jE a b ha hb eX) hi (m:=1) (by omega) rfl (fun j hj=>⟨if_neg hj,if_neg hj⟩) ?_ ?_ ?_
 ·exact ⟨uu.1,Rg.Kp.trans (kL.iR fun k e hf=>s5 k hf e) uu.2 (fun _ _ e=>e)⟩
 ·intro m' qZ
  simp only [if_true,n7];unfold cont
  by_cases h0:m'=0
  ·simp [h0]
  by_cases h1:m'=1
  ·simp [h1]
  ·simp [h0,h1]
 ·simp only [if_true,n7]
  have hF:=hv.kp (M:=fun _=>False) (w':=w) (Rg.Kp.refl _ _) (fun _ _=>id) (fun _ _=>id);have aE:=hv.lt;have iD:=fun q x hq hx=>(hv.some_ q x hq hx);refine ⟨?_,hv.Di.kp kL s5,?_,hv.gF,?_,?_,fun q x hq hx=>⟨Rg.FI.kp (iD q x hq hx).1 kL s5,Rg.FI.kp (iD q x hq hx).2 kL s5⟩,hv.none_⟩
  ·exact fD hv.pN kL (fun k e e2=>hv.go k e2 e)
  ·have e1:(Ma.ag ((T i).orb++[p])).map (Value.int .i64)=(Ma.ag (T i).orb).map (Value.int .i64)++[.int .i64 ((p:Nat):Int)]:=by simp [Ma.ag]
   rw [e1,List.length_append]; exact r2
  ·intro k e
   rcases bY k e with e | e
   ·exact hv.oF k e
   ·exact ⟨fun hf=>by have:=h.jD k hf; omega,by have:=h.lt; omega⟩
  ·intro k e e2
   rcases bY k e2 with e2 | e2
   ·exact hv.go k e e2
   ·have:=aE k (.inl e); omega
 ·intro j k hj hne e
  simp only [if_true] at e
  rcases e with e | e
  ·exact h.jE i j hi hj (Ne.symm hne) k (.inl e)
  ·rcases bY k e with e | e
   ·exact h.jE i j hi hj (Ne.symm hne) k (.inr e)
   ·intro e2; have:=(h.lv j hj).lt k e2; omega
theorem Dj (b o:Nat) (w:World):(Instr.fieldAt 145 (.pointer (some ⟨b,o,none⟩)) 0).run Tryz.prog w=.ok (.pointer (some ⟨b,o,none⟩)) w:=by kernel_rfl
theorem zS (b o:Nat) (w:World):(Instr.fieldAt 145 (.pointer (some ⟨b,o,none⟩)) 1).run Tryz.prog w=.ok (.pointer (some ⟨b,o+1,none⟩)) w:=by kernel_rfl
theorem uw (b o:Nat) (w:World):(Instr.fieldAt 145 (.pointer (some ⟨b,o,none⟩)) 2).run Tryz.prog w=.ok (.pointer (some ⟨b,o+2,none⟩)) w:=by kernel_rfl
theorem zT (b o:Nat) (w:World):(Instr.fieldAt 145 (.pointer (some ⟨b,o,none⟩)) 3).run Tryz.prog w=.ok (.pointer (some ⟨b,o+66,none⟩)) w:=by kernel_rfl
theorem Dk (b o:Nat) (w:World):(Instr.fieldAt 145 (.pointer (some ⟨b,o,none⟩)) 4).run Tryz.prog w=.ok (.pointer (some ⟨b,o+130,none⟩)) w:=by kernel_rfl
theorem wH (b:Nat) (w:World):(Instr.fieldAt 137 (.pointer (some ⟨b,0,none⟩)) 0).run Tryz.prog w=.ok (.pointer (some ⟨b,0,none⟩)) w:=by kernel_rfl
theorem ji (b:Nat) (w:World):(Instr.fieldAt 137 (.pointer (some ⟨b,0,none⟩)) 1).run Tryz.prog w=.ok (.pointer (some ⟨b,1,none⟩)) w:=by kernel_rfl
theorem fE:(Tryz.prog.info? 145).map (·.size)=some 194:=by kernel_rfl
theorem AR {o:Oper} {a:Act} {t e:TypeId} {z:Nat} (x y:Operand) (ho:o.op=.indexAddr t x y) (hu:Tryz.prog.underlying t=some (.slice e)) (dR:(Tryz.prog.info? e).map (·.size)=some z) (b of len cap i:Nat) (hx:a.eval x=.slice (some ⟨b,of,none⟩) len cap) (hy:a.eval y=.int .i64 (i:Int)) (hi:i<len) :
  (execOp a.eval o).run Tryz.prog w=.ok (.value (.pointer (some ⟨b,of+i*z,none⟩))) w:=by
 obtain ⟨ie,FF,hs⟩:=Option.map_eq_some_iff.1 dR;have h1:(0:Int)<=(i:Int)/\(i:Int)<(len:Int):=⟨by omega,by omega⟩
 have hr:(Instr.indexAt t (.slice (some ⟨b,of,none⟩) len cap) (.int .i64 (i:Int))).run Tryz.prog w=.ok (.pointer (some ⟨b,of+i*z,none⟩)) w:=by
  simp [Instr.indexAt,asIntOf,run_underlying hu,sizeOf,typeInfo,FF,hs,h1];rw [if_pos hi];unfold Addr.add
  split
  ·rename_i h0; rw [h0]; rfl
  ·rfl
 unfold execOp;simp only [ho,hx,hy,Sem.run_bind,Sem.run_pure,hr,Result.andThen_ok]
theorem bD {o:Oper} {a:Act} {t e:TypeId} {z:Nat} (x y:Operand) (ho:o.op=.indexAddr t x y) (hu:Tryz.prog.underlying t=some (.slice e)) (dR:(Tryz.prog.info? e).map (·.size)=some z) (b len cap i:Nat) (hx:a.eval x=.slice (some ⟨b,0,none⟩) len cap) (hy:a.eval y=.int .i64 (i:Int)) (hi:i<len) :
  (execOp a.eval o).run Tryz.prog w=.ok (.value (.pointer (some ⟨b,i*z,none⟩))) w:=by
 have:=AR (w:=w) x y ho hu dR b 0 len cap i hx hy hi
 rwa [Nat.zero_add] at this
theorem q6 {a b:List Nat} (h1:FP F w v1 a) (h2:FP F w v2 b) (ga:Cm.Gd n a) (gb:Cm.Gd n b) (hn:1<=n) (cC:n<=64) :
  Calls Tryz.prog 117 #[v1,v2] w fun e w'=>∃ v,e=.returned v/\FP (c_ F w w') w' v (Ma.aj a b)/\Below w.heap.size w w':=by
 have e1:=ga.2;have e2:=gb.2;refine (wF v1 v2 a b w h1.np h2.np (fun x hx=>by have:=ga.1.1 x hx; omega) (by omega) (by omega) (by omega)).mono ?_;rintro e w' ⟨v,rfl,hv,hb⟩;exact ⟨v,rfl,FP.new hv,hb⟩
theorem Me {a:List Nat} (h1:FP F w v1 a) (ga:Cm.Gd n a) (hn:1<=n) (cC:n<=64) :
  Calls Tryz.prog 118 #[v1] w fun e w'=>∃ v,e=.returned v/\FP (c_ F w w') w' v (Ma.aS a)/\Below w.heap.size w w':=by
 have e1:=ga.2;refine (wG v1 a w h1.np ga.1 (by omega) (by omega)).mono ?_;rintro e w' ⟨v,rfl,hv,hb⟩;exact ⟨v,rfl,FP.new hv,hb⟩
theorem Dl (n:Nat) (w:World) (cC:n<=64) :
  Calls Tryz.prog 119 #[.int .i64 n] w fun e w'=>∃ v,e=.returned v/\FP (c_ F w w') w' v (Ma.bh n)/\Below w.heap.size w w':=by
 refine (FU n w (by omega)).mono ?_;rintro e w' ⟨v,rfl,hv,hb⟩;exact ⟨v,rfl,FP.new hv,hb⟩
end
section
open Go.Proofs.Cm (Lv aY bJ)
attribute [local irreducible] Go.Calls
theorem wI (args:Array Value) (w:World):(callFunc 117 args).run Tryz.prog w=.ok (.enter 117 args) w:=by kernel_rfl
theorem wJ {o:Oper} {a:Act} (x y:Operand) (ho:o.op=.binOp .eql 27 x y 27) (hx:a.eval x=.slice none 0 0) (hy:a.eval y=.slice none 0 0):(execOp a.eval o).run Tryz.prog w=.ok (.value (.bool true)) w:=by
 have h1:(binOp .eql 27 (.slice none 0 0) (.slice none 0 0)).run Tryz.prog w=.ok (.bool true) w:=by kernel_rfl
 have hg:(eqGuard .eql 27 x y (.slice none 0 0) (.slice none 0 0)).run Tryz.prog w=.ok () w:=by
  simp [eqGuard]
 unfold execOp;simp only [ho,hx,hy,Sem.run_bind,Sem.run_pure,hg,h1,Result.andThen_ok]
theorem ky {o:Oper} {a:Act} {ad:Addr} {c:Nat} (x y:Operand) (ho:o.op=.binOp .eql 27 x y 27) (hx:a.eval x=.slice (some ad) n c) (hy:a.eval y=.slice none 0 0):(execOp a.eval o).run Tryz.prog w=.ok (.value (.bool false)) w:=by
 have h1:(binOp .eql 27 (.slice (some ad) n c) (.slice none 0 0)).run Tryz.prog w=.ok (.bool false) w:=by kernel_rfl
 have hg:(eqGuard .eql 27 x y (.slice (some ad) n c) (.slice none 0 0)).run Tryz.prog w=.ok () w:=by
  simp [eqGuard]
 unfold execOp;simp only [ho,hx,hy,Sem.run_bind,Sem.run_pure,hg,h1,Result.andThen_ok]
theorem aR.WI {T:aY} {V:Nat->LV} (h:aR F L n w T V) {i p:Nat} (hi:i<n) (hp:p<64) {u:List Nat} (hu:bJ T i p=some u) (gu:Cm.Gd n u) (hn:1<=n):∃ b o c,(V i).b p=.slice (some ⟨b,o,none⟩) n c/\FP F w (.slice (some ⟨b,o,none⟩) n c) (Ma.aS u):=by
 have h1:=((h.lv i hi).some_ p u hp hu).2;obtain ⟨b,o,c,e,_⟩:=h1.shape (by rw [(Cm.aN gu).2]; exact hn);rw [(Cm.aN gu).2] at e;exact ⟨b,o,c,e,by rw [<- e]; exact h1⟩
theorem aR.Qa {T:aY} {V:Nat->LV} (h:aR F L n w T V) {i p:Nat} (hi:i<n) (hp:p<64) {u:List Nat} (hu:bJ T i p=some u) (gu:Cm.Gd n u) (hn:1<=n):∃ b o c,(V i).t p=.slice (some ⟨b,o,none⟩) n c/\FP F w (.slice (some ⟨b,o,none⟩) n c) u:=by
 have h1:=((h.lv i hi).some_ p u hp hu).1;obtain ⟨b,o,c,e,_⟩:=h1.shape (by rw [gu.2]; exact hn);rw [gu.2] at e;exact ⟨b,o,c,e,by rw [<- e]; exact h1⟩
theorem FP.dQ {p:List Nat} (h:FP F w v p) (gp:Cm.Gd n p) (hn:1<=n):∃ b o c,v=.slice (some ⟨b,o,none⟩) n c:=by
 obtain ⟨b,o,c,e,_⟩:=h.shape (by rw [gp.2]; exact hn);rw [gp.2] at e;exact ⟨b,o,c,e⟩
theorem FP.ap {F:Nat->Prop} {n:Nat} {w:World} {b o m c:Nat} {p:List Nat} (h:FP F w (.slice (some ⟨b,o,none⟩) m c) p) (gp:Cm.Gd n p) {i:Nat} (hi:i<n):CF F w b (o+i) (.int .i64 ((Cm.ap p i:Nat):Int)):=h.cell (by rw [gp.2]; exact hi)
theorem Kc {tb:Nat} {T:aY} {V:Nat->LV} (hT:aR F L n w T V) (dK:CF F w tb 0 (.int .i64 ((n:Nat):Int))) (cJ:CF F w tb 1 (.slice (some ⟨L,0,none⟩) n n)) (bQ:1<=n) (cC:n<=64) {x:List Nat} {i0:Nat} (hx:FP F w xv x) (gx:Cm.Gd n x) (mi:i0<=n) (Qb:Cm.Fx i0 x) (hr:Cm.Rp n i0 (bJ T)) :
  Calls Tryz.prog 120 #[.pointer (some ⟨tb,0,none⟩),xv,.int .i64 ((i0:Nat):Int)] w fun e w'=>∃ F' rv,e=.returned (.tuple #[.int .i64 (((Cm.dS n (bJ T) (n - i0) x).1:Nat):Int),rv])/\KG F w F' w'/\aR F' L n w' T V/\FP F' w' rv (Cm.dS n (bJ T) (n - i0) x).2/\Below w.heap.size w w':=by
 obtain ⟨xb0,xo0,Z7,rfl⟩:=hx.dQ gx bQ;have K:=U (KG.refl hT.jD);have HT:=U hT;have C0:=U dK;have C1:=U cJ;have X:=U hx;have HR:=U hr;obtain ⟨A,hA⟩:∃ A,Hid (A=Cm.dS n (bJ T) (n - i0) x):=⟨_,U rfl⟩;rw [<- hA.p];have KB:=U (Below.refl w.heap.size w);have ny:=dK.cell;have WJ:=U hA.p.symm;clear hT dK cJ hx hr
 go_enter Tryz.func120,Tryz.ntmps120
 go_wp2
 go_loopw [1,8] (fun yv iv wr=>∃ (i:Nat) (y:List Nat) (F1:Nat->Prop),i0<=i/\i<=n/\iv=.int .i64 i/\Hid (FP F1 wr yv y)/\Hid (aR F1 L n wr T V)/\Hid (CF F1 wr tb 0 (.int .i64 ((n:Nat):Int)))/\Hid (CF F1 wr tb 1 (.slice (some ⟨L,0,none⟩) n n))/\Hid (KG F w F1 wr)/\Hid (Below w.heap.size w wr)/\Hid (Cm.Gd n y)/\Hid (Cm.Fx i y)/\Hid (Cm.dS n (bJ T) (n - i) y=A)) (fun _ iv _=>n - (intOf iv).toNat)
 case atStart=>exact ⟨i0,x,F,Nat.le_refl _,mi,rfl,X,HT,C0,C1,K,KB,U gx,U Qb,WJ⟩
 case round =>
  clear X HT C0 C1 K KB ny WJ Qb gx;obtain ⟨i,y,F,yF,jQ,rfl,X,HT,C0,C1,K,KB,GY,FY,HS⟩:=hrel;have ny:=C0.p.cell
  by_cases bF:i<n
  ·have Qc:(i:Int)<(n:Int):=by omega
   obtain ⟨xb,xo,xc,rfl⟩:=X.p.dQ GY.p bQ;have yL:=Cm.cy GY.p bF;obtain ⟨q,hq⟩:∃ q:Nat,Hid (q=Cm.ap y i):=⟨_,U rfl⟩;rw [<- hq.p] at yL;have CX:=U (show CF F wr xb (xo+i) (.int .i64 ((q:Nat):Int)) by rw [hq.p]; exact X.p.ap GY.p bF)
   have iT:q<64:=by omega
   have pA:=U bF
   cases jk:bJ T i q with
   | none =>
    have WL:=((HT.p.lv i bF).none_ q iT jk).2;have CB:=U (show wr.cell? ⟨L,i*194+66+q,none⟩=some (.slice none 0 0) by rw [FW HT.p bF iT (by omega),WL])
    have HE:=U (show A=(i,y) by
     rw [<- HS.p]
     have e1:n - i=(n - i - 1)+1:=by omega
     rw [e1,Cm.kd]
     ·rw [show n - (n - i - 1+1)=i by omega]
     ·rw [show n - (n - i - 1+1)=i by omega,<- hq.p]; exact jk)
    have lR:=U HT.p.lt;clear WL jk;go_upto_region 4 with (fail);have dr:Below wr.heap.size wr wr.drew:=(Below.refl _ _).drew;replace HT:=U (HT.p.up dr);replace KB:=U (Rg.acc KB.p dr);replace CB:=U ((dr.cell (p:=⟨L,i*194+66+q,none⟩) lR.p).trans CB.p);replace lR:=U (Nat.lt_of_lt_of_le lR.p dr.size);clear dr;have aq:Below wr.heap.size wr wr.drew:=(Below.refl _ _).drew;replace X:=U (X.p.up aq);replace C0:=U (C0.p.up aq);replace C1:=U (C1.p.up aq);replace CX:=U (CX.p.up aq);replace K:=U (K.p.up aq);generalize c_ F wr wr.drew=F1 at *;clear aq;refine Rg.Any.begin (S:=Rg.aG 13 (fun _=>True) (fun W=>Below wr.drew.heap.size wr.drew W)) mix ?_;generalize wr.drew=w1 at *;have hS:∀ (l:Array Bool) W,Below w1.heap.size w1 W->Rg.aG 13 (fun _=>True) (fun W=>Below w1.heap.size w1 W) l W:=fun l W h=>⟨.inr trivial,h⟩
    have hI:Below w1.heap.size w1 w1:=Below.refl _ _;refine d8 0 13 (.pointer (some ⟨tb,0,none⟩)) 19 (hS _ _ hI) ?_;go_frame;refine d7 1 13 (.pointer (some ⟨tb,0,none⟩)) 20 rfl rfl (.inl ⟨rfl,fun w _=>aK _ rfl rfl⟩) (hS _ _ hI) ?_;go_frame;refine d7 2 13 (.pointer (some ⟨tb,1,none⟩)) 21 rfl rfl (.inl ⟨rfl,fun w _=>af _ rfl rfl (ji _ _)⟩) (hS _ _ hI) ?_;go_frame;refine d7 3 13 (.slice (some ⟨L,0,none⟩) n n) 22 rfl rfl (i9 ⟨tb,1,none⟩ (fun W hW=>Rg.ae _ _ Tryz.underlying135 ((Below.cell (p:=⟨tb,1,none⟩) hW C1.p.lt).trans C1.p.cell))) (hS _ _ hI) ?_;go_frame;refine d8 4 13 (.int .i64 ((i:Nat):Int)) 23 (hS _ _ hI) ?_;go_frame;refine d8 5 13 (.slice (some ⟨xb,xo,none⟩) n xc) 24 (hS _ _ hI) ?_;go_frame;refine d8 6 13 (.int .i64 ((i:Nat):Int)) 25 (hS _ _ hI) ?_;go_frame;refine d7 7 13 (.pointer (some ⟨xb,xo+i,none⟩)) 26 rfl rfl (Rg.aA cj _ _ rfl rfl xb (xo) (n) xc (i) rfl rfl pA.p) (hS _ _ hI) ?_;go_frame
    refine d7 8 13 (.int .i64 ((q:Nat):Int)) 27 rfl rfl (i9 ⟨xb,xo+i,none⟩ (fun W hW=>ah ((Below.cell (p:=⟨xb,xo+i,none⟩) hW CX.p.lt).trans CX.p.cell))) (hS _ _ hI) ?_;go_frame;refine d7 9 13 (.pointer (some ⟨L,i*194,none⟩)) 28 rfl rfl (.inl ⟨rfl,fun w _=>bD _ _ rfl Tryz.underlying135 fE L (n) (n) (i) rfl rfl pA.p⟩) (hS _ _ hI) ?_;go_frame;refine d7 10 13 (.pointer (some ⟨L,i*194+66,none⟩)) 29 rfl rfl (.inl ⟨rfl,fun w _=>af _ rfl rfl (zT _ _ _)⟩) (hS _ _ hI) ?_;go_frame;refine d7 11 13 (.pointer (some ⟨L,i*194+66+q,none⟩)) 30 rfl rfl (.inl ⟨rfl,fun w _=>bj _ _ rfl Tryz.underlying142 qW L (i*194+66) (q) rfl rfl iT⟩) (hS _ _ hI) ?_;go_frame;refine d7 12 13 (.slice none 0 0) 31 rfl rfl (i9 ⟨L,i*194+66+q,none⟩ (fun W hW=>Rg.ae _ _ Tryz.underlying27 ((Below.cell (p:=⟨L,i*194+66+q,none⟩) hW lR.p).trans CB.p))) (hS _ _ hI) ?_;go_frame
    refine i8 13 9 rfl rfl (c6 (.slice none 0 0) _ rfl rfl) (hS _ _ hI) ?_;go_frame;refine Rg.Any.done (by kernel_rfl) ?_ _;clear hS hI;go_upto_region 5 with (fail);refine d3 ?_;refine d5 32 (.slice none 0 0) ?_;go_frame;refine d4 33 (wJ _ _ rfl rfl rfl) ?_;go_frame;go_wp2
    go_ret2
    exact ⟨_,.slice (some ⟨xb,xo,none⟩) n xc,by rw [HE.p]; rfl,K.p,HT.p,by rw [HE.p]; exact X.p,KB.p⟩
   | some u =>
    have gu:=HR.p.gd i q u yF bF jk;obtain ⟨bb,bo,bc,Mf,F7⟩:=HT.p.WI bF iT jk gu bQ
    have WM:Cm.dS n (bJ T) (n - (i+1)) (Ma.aj y (Ma.aS u))=A:=by
     rw [<- HS.p]
     have e1:n - i=(n - i - 1)+1:=by omega
     rw [e1,Cm.jg (u:=u) (by rw [show n - (n - i - 1+1)=i by omega,<- hq.p]; exact jk),show n - i - 1=n - (i+1) by omega]
    obtain ⟨Sa,Sb⟩:=Cm.wo HR.p yF bF GY.p FY.p (by rw [<- hq.p]; exact jk);have BP:=U F7;have GI:=U (Cm.aN gu);have WN:=U WM;have Mg:=U Sa;have WO:=U Sb;have CB:=U (show wr.cell? ⟨L,i*194+66+q,none⟩=some (.slice (some ⟨bb,bo,none⟩) n bc) by rw [FW HT.p bF iT (by omega),Mf])
    have kS:=U (show q=i->Ma.aj y (Ma.aS u)=y from fun e=>by
     have h1:=HR.p.self i yF bF;rw [e,h1] at jk
     cases jk
     rw [Cm.inv_one,Cm.mul_one GY.p])
    have lR:=U HT.p.lt;clear Mf F7 gu WM Sa Sb jk HS
    by_cases Ts:q=i
    ·have HY:=U (kS.p Ts)
     have Z8:(q:Int)=(i:Int):=by omega
     clear Ts kS;go_upto_region 4 with (fail);have dr:Below wr.heap.size wr wr.drew:=(Below.refl _ _).drew;replace KB:=U (Rg.acc KB.p dr);replace CB:=U ((dr.cell (p:=⟨L,i*194+66+q,none⟩) lR.p).trans CB.p);replace lR:=U (Nat.lt_of_lt_of_le lR.p dr.size);clear dr;have aq:Below wr.heap.size wr wr.drew:=(Below.refl _ _).drew;replace X:=U (X.p.up aq);replace HT:=U (HT.p.up aq);replace C0:=U (C0.p.up aq);replace C1:=U (C1.p.up aq);replace CX:=U (CX.p.up aq);replace BP:=U (BP.p.up aq);replace K:=U (K.p.up aq);generalize c_ F wr wr.drew=F1 at *;clear aq;refine Rg.Any.begin (S:=Rg.aG 13 (fun _=>True) (fun W=>Below wr.drew.heap.size wr.drew W)) mix ?_;generalize wr.drew=w1 at *;have hS:∀ (l:Array Bool) W,Below w1.heap.size w1 W->Rg.aG 13 (fun _=>True) (fun W=>Below w1.heap.size w1 W) l W:=fun l W h=>⟨.inr trivial,h⟩
     have hI:Below w1.heap.size w1 w1:=Below.refl _ _;refine d8 0 13 (.pointer (some ⟨tb,0,none⟩)) 19 (hS _ _ hI) ?_;go_frame;refine d7 1 13 (.pointer (some ⟨tb,0,none⟩)) 20 rfl rfl (.inl ⟨rfl,fun w _=>aK _ rfl rfl⟩) (hS _ _ hI) ?_;go_frame;refine d7 2 13 (.pointer (some ⟨tb,1,none⟩)) 21 rfl rfl (.inl ⟨rfl,fun w _=>af _ rfl rfl (ji _ _)⟩) (hS _ _ hI) ?_;go_frame;refine d7 3 13 (.slice (some ⟨L,0,none⟩) n n) 22 rfl rfl (i9 ⟨tb,1,none⟩ (fun W hW=>Rg.ae _ _ Tryz.underlying135 ((Below.cell (p:=⟨tb,1,none⟩) hW C1.p.lt).trans C1.p.cell))) (hS _ _ hI) ?_;go_frame;refine d8 4 13 (.int .i64 ((i:Nat):Int)) 23 (hS _ _ hI) ?_;go_frame;refine d8 5 13 (.slice (some ⟨xb,xo,none⟩) n xc) 24 (hS _ _ hI) ?_;go_frame;refine d8 6 13 (.int .i64 ((i:Nat):Int)) 25 (hS _ _ hI) ?_;go_frame;refine d7 7 13 (.pointer (some ⟨xb,xo+i,none⟩)) 26 rfl rfl (Rg.aA cj _ _ rfl rfl xb (xo) (n) xc (i) rfl rfl pA.p) (hS _ _ hI) ?_;go_frame
     refine d7 8 13 (.int .i64 ((q:Nat):Int)) 27 rfl rfl (i9 ⟨xb,xo+i,none⟩ (fun W hW=>ah ((Below.cell (p:=⟨xb,xo+i,none⟩) hW CX.p.lt).trans CX.p.cell))) (hS _ _ hI) ?_;go_frame;refine d7 9 13 (.pointer (some ⟨L,i*194,none⟩)) 28 rfl rfl (.inl ⟨rfl,fun w _=>bD _ _ rfl Tryz.underlying135 fE L (n) (n) (i) rfl rfl pA.p⟩) (hS _ _ hI) ?_;go_frame;refine d7 10 13 (.pointer (some ⟨L,i*194+66,none⟩)) 29 rfl rfl (.inl ⟨rfl,fun w _=>af _ rfl rfl (zT _ _ _)⟩) (hS _ _ hI) ?_;go_frame;refine d7 11 13 (.pointer (some ⟨L,i*194+66+q,none⟩)) 30 rfl rfl (.inl ⟨rfl,fun w _=>bj _ _ rfl Tryz.underlying142 qW L (i*194+66) (q) rfl rfl iT⟩) (hS _ _ hI) ?_;go_frame;refine d7 12 13 (.slice (some ⟨bb,bo,none⟩) n bc) 31 rfl rfl (i9 ⟨L,i*194+66+q,none⟩ (fun W hW=>Rg.ae _ _ Tryz.underlying27 ((Below.cell (p:=⟨L,i*194+66+q,none⟩) hW lR.p).trans CB.p))) (hS _ _ hI) ?_;go_frame
     refine i8 13 9 rfl rfl (c6 (.slice (some ⟨bb,bo,none⟩) n bc) _ rfl rfl) (hS _ _ hI) ?_;go_frame;refine Rg.Any.done (by kernel_rfl) ?_ _;clear hS hI;go_upto_region 5 with (fail);refine d3 ?_;refine d5 32 (.slice (some ⟨bb,bo,none⟩) n bc) ?_;go_frame;refine d4 33 (ky _ _ rfl rfl rfl) ?_;go_frame;go_upto_region 7 with (fail);refine d3 ?_;refine d5 36 (.slice (some ⟨xb,xo,none⟩) n xc) ?_;go_frame;refine d5 37 (.int .i64 ((i:Nat):Int)) ?_;go_frame;refine d4 38 (aB cj _ _ rfl xb (xo) (n) xc (i) rfl rfl pA.p) ?_;go_frame;refine d4 39 (g8 (.int .i64 ((q:Nat):Int)) ⟨xb,xo+i,none⟩ (ah CX.p.cell)) ?_;go_frame;refine d5 40 (.int .i64 ((i:Nat):Int)) ?_;go_frame;refine d4 41 (g9 (.bool false) .neq (h:=aU _ f9)) ?_;go_frame;have ny:=C0.p.cell;go_wp2
     go_roundw
     case rel=>exact ⟨i+1,y,_,by omega,by omega,by go_num,X,HT,C0,C1,K,KB,GY,U (by have:=WO.p; rwa [HY.p] at this),U (by have:=WN.p; rwa [HY.p] at this)⟩
     case measure=>simp [intOf]; omega
    ·have Z8:¬ (q:Int)=(i:Int):=by omega
     clear Ts kS;go_upto_region 4 with (fail);have dr:Below wr.heap.size wr wr.drew:=(Below.refl _ _).drew;replace KB:=U (Rg.acc KB.p dr);replace CB:=U ((dr.cell (p:=⟨L,i*194+66+q,none⟩) lR.p).trans CB.p);replace lR:=U (Nat.lt_of_lt_of_le lR.p dr.size);clear dr;have aq:Below wr.heap.size wr wr.drew:=(Below.refl _ _).drew;replace X:=U (X.p.up aq);replace HT:=U (HT.p.up aq);replace C0:=U (C0.p.up aq);replace C1:=U (C1.p.up aq);replace CX:=U (CX.p.up aq);replace BP:=U (BP.p.up aq);replace K:=U (K.p.up aq);generalize c_ F wr wr.drew=F1 at *;clear aq;refine Rg.Any.begin (S:=Rg.aG 13 (fun _=>True) (fun W=>Below wr.drew.heap.size wr.drew W)) mix ?_;generalize wr.drew=w1 at *;have hS:∀ (l:Array Bool) W,Below w1.heap.size w1 W->Rg.aG 13 (fun _=>True) (fun W=>Below w1.heap.size w1 W) l W:=fun l W h=>⟨.inr trivial,h⟩
     have hI:Below w1.heap.size w1 w1:=Below.refl _ _;refine d8 0 13 (.pointer (some ⟨tb,0,none⟩)) 19 (hS _ _ hI) ?_;go_frame;refine d7 1 13 (.pointer (some ⟨tb,0,none⟩)) 20 rfl rfl (.inl ⟨rfl,fun w _=>aK _ rfl rfl⟩) (hS _ _ hI) ?_;go_frame;refine d7 2 13 (.pointer (some ⟨tb,1,none⟩)) 21 rfl rfl (.inl ⟨rfl,fun w _=>af _ rfl rfl (ji _ _)⟩) (hS _ _ hI) ?_;go_frame;refine d7 3 13 (.slice (some ⟨L,0,none⟩) n n) 22 rfl rfl (i9 ⟨tb,1,none⟩ (fun W hW=>Rg.ae _ _ Tryz.underlying135 ((Below.cell (p:=⟨tb,1,none⟩) hW C1.p.lt).trans C1.p.cell))) (hS _ _ hI) ?_;go_frame;refine d8 4 13 (.int .i64 ((i:Nat):Int)) 23 (hS _ _ hI) ?_;go_frame;refine d8 5 13 (.slice (some ⟨xb,xo,none⟩) n xc) 24 (hS _ _ hI) ?_;go_frame;refine d8 6 13 (.int .i64 ((i:Nat):Int)) 25 (hS _ _ hI) ?_;go_frame;refine d7 7 13 (.pointer (some ⟨xb,xo+i,none⟩)) 26 rfl rfl (Rg.aA cj _ _ rfl rfl xb (xo) (n) xc (i) rfl rfl pA.p) (hS _ _ hI) ?_;go_frame
     refine d7 8 13 (.int .i64 ((q:Nat):Int)) 27 rfl rfl (i9 ⟨xb,xo+i,none⟩ (fun W hW=>ah ((Below.cell (p:=⟨xb,xo+i,none⟩) hW CX.p.lt).trans CX.p.cell))) (hS _ _ hI) ?_;go_frame;refine d7 9 13 (.pointer (some ⟨L,i*194,none⟩)) 28 rfl rfl (.inl ⟨rfl,fun w _=>bD _ _ rfl Tryz.underlying135 fE L (n) (n) (i) rfl rfl pA.p⟩) (hS _ _ hI) ?_;go_frame;refine d7 10 13 (.pointer (some ⟨L,i*194+66,none⟩)) 29 rfl rfl (.inl ⟨rfl,fun w _=>af _ rfl rfl (zT _ _ _)⟩) (hS _ _ hI) ?_;go_frame;refine d7 11 13 (.pointer (some ⟨L,i*194+66+q,none⟩)) 30 rfl rfl (.inl ⟨rfl,fun w _=>bj _ _ rfl Tryz.underlying142 qW L (i*194+66) (q) rfl rfl iT⟩) (hS _ _ hI) ?_;go_frame;refine d7 12 13 (.slice (some ⟨bb,bo,none⟩) n bc) 31 rfl rfl (i9 ⟨L,i*194+66+q,none⟩ (fun W hW=>Rg.ae _ _ Tryz.underlying27 ((Below.cell (p:=⟨L,i*194+66+q,none⟩) hW lR.p).trans CB.p))) (hS _ _ hI) ?_;go_frame
     refine i8 13 9 rfl rfl (c6 (.slice (some ⟨bb,bo,none⟩) n bc) _ rfl rfl) (hS _ _ hI) ?_;go_frame;refine Rg.Any.done (by kernel_rfl) ?_ _;clear hS hI;go_upto_region 5 with (fail);refine d3 ?_;refine d5 32 (.slice (some ⟨bb,bo,none⟩) n bc) ?_;go_frame;refine d4 33 (ky _ _ rfl rfl rfl) ?_;go_frame;go_upto_region 7 with (fail);refine d3 ?_;refine d5 36 (.slice (some ⟨xb,xo,none⟩) n xc) ?_;go_frame;refine d5 37 (.int .i64 ((i:Nat):Int)) ?_;go_frame;refine d4 38 (aB cj _ _ rfl xb (xo) (n) xc (i) rfl rfl pA.p) ?_;go_frame;refine d4 39 (g8 (.int .i64 ((q:Nat):Int)) ⟨xb,xo+i,none⟩ (ah CX.p.cell)) ?_;go_frame;refine d5 40 (.int .i64 ((i:Nat):Int)) ?_;go_frame;refine d4 41 (g9 (.bool true) .neq (h:=aU _ f8)) ?_;go_frame;clear ny;go_upto_region 8 with (fail);refine d3 ?_;refine d5 42 (.slice (some ⟨xb,xo,none⟩) n xc) ?_;go_frame
     refine d5 43 (.slice (some ⟨bb,bo,none⟩) n bc) ?_;go_frame;refine f7 44 (aw 117 _ _ _ rfl rfl rfl (wI _ _)) ?_;refine (q6 X.p BP.p GY.p GI.p bQ cC).mono ?_;rintro e1 w2 ⟨mv,rfl,kM,hb⟩;replace KB:=U (Rg.acc KB.p hb);refine ⟨_,rfl,?_⟩;go_frame;replace X:=U (X.p.up hb);replace HT:=U (HT.p.up hb);replace C0:=U (C0.p.up hb);replace C1:=U (C1.p.up hb);replace CX:=U (CX.p.up hb);replace BP:=U (BP.p.up hb);replace K:=U (K.p.up hb);have MV:=U kM;generalize c_ F1 w1 w2=F2 at *;clear hb;refine d6 1 (mv) ?_;go_frame;have ny:=C0.p.cell;go_wp2
     go_roundw
     case rel=>exact ⟨i+1,_,_,by omega,by omega,by go_num,MV,HT,C0,C1,K,KB,Mg,WO,WN⟩
     case measure=>simp [intOf]; omega
  ·obtain rfl:i=n:=by omega
   have HE:=U (show A=(i,y) by rw [<- HS.p,Nat.sub_self]; rfl);clear HS;go_wp2
   go_ret2
   exact ⟨_,u1,by rw [HE.p]; rfl,K.p,HT.p,by rw [HE.p]; exact X.p,KB.p⟩
end
end Go.Proofs.YtpedbljnhnoohaaGreat
namespace Go.Proofs.Cm
open Go.Proofs
def Full (n:Nat) (T:aY) (j:Nat):Prop:=eF n T j/\yK T j/\(T j).gens.length<=AM n T j
structure iU (n i:Nat) (T T1:aY):Prop where
 ext:Ext T T1
 low:∀ j,j<i->T1 j=T j
 gens:(T1 i).gens=(T i).gens
 up:∀ j,i<j->j<n->Full n T1 j
 lvl:eF n T1 i
def kT (T:aY) (i k:Nat):Prop:=∀ m (h:m<(T i).orb.length),m<k->(T i).tried (T i).orb[m]=(T i).gens.length
theorem iU.refl {n i:Nat} {T:aY} (h:eF n T i) (hu:∀ j,i<j->j<n->Full n T j):iU n i T T:=⟨Ext.refl T,fun _ _=>rfl,rfl,hu,h⟩
theorem iU.all {i:Nat} {T T1:aY} (h:iU n i T T1):∀ j,i<=j->j<n->eF n T1 j:=fun j h1 h2=>by
 by_cases e:j=i
 ·subst e; exact h.lvl
 ·exact (h.up j (by omega) h2).1
theorem kT.cmp {i:Nat} {T:aY} (h:kT T i (T i).orb.length) (hl:eF n T i):yK T i:=fun q u hu=>by
 obtain ⟨m,hm,rfl⟩:=List.getElem_of_mem ((hl.orb q).2 ⟨u,hu⟩);exact h m hm hm
theorem Full.ext {n:Nat} {T T':aY} {j:Nat} (h:Full n T j) (hx:Ext T T') (e:T' j=T j) (e2:j+1<n->T' (j+1)=T (j+1)):Full n T' j:=by
 obtain ⟨h1,h2,h3⟩:=h;refine ⟨h1.ext e hx fun h0 s hs=>?_,h2.ext e,by rw [e]; exact Nat.le_trans h3 (J0 hx j)⟩;rw [e2 h0] at hs;exact h1.low h0 s hs
theorem iU.found {i k:Nat} {T T1:aY} (h:iU n i T T1) (hd:kT T1 i k) (bF:i<n) {q:Nat} {s uq:List Nat} (hk:(T1 i).tried q<(T1 i).gens.length) (hs:(T1 i).gens[(T1 i).tried q]=s) (jS:(T1 i).rep q=some uq) (hp:(T1 i).rep (ap s q)=none)
  (AU:∃ h:k<(T1 i).orb.length,(T1 i).orb[k]=q) :
  iU n i T (find (tick T1 i q) i (ap s q) (Ma.aj uq s))/\kT (find (tick T1 i q) i (ap s q) (Ma.aj uq s)) i k/\((find (tick T1 i q) i (ap s q) (Ma.aj uq s) i).tried q=(T1 i).tried q+1)/\(find (tick T1 i q) i (ap s q) (Ma.aj uq s) i).gens=(T1 i).gens /\
   ∃ h:k<(find (tick T1 i q) i (ap s q) (Ma.aj uq s) i).orb.length,(find (tick T1 i q) i (ap s q) (Ma.aj uq s) i).orb[k]=q:=by
 have hx:Ext T1 (find (tick T1 i q) i (ap s q) (Ma.aj uq s)):=(jh T1 i q).trans (sY (by rw [dy]; exact hp))
 have ne:∀ j,j≠i->find (tick T1 i q) i (ap s q) (Ma.aj uq s) j=T1 j:=fun j hj=>by rw [n5 hj,gM hj]
 have ei:find (tick T1 i q) i (ap s q) (Ma.aj uq s) i={ gens:=(T1 i).gens,orb:=(T1 i).orb++[ap s q],rep:=fun z=>if z=ap s q then some (Ma.aj uq s) else (T1 i).rep z,tried:=fun p=>if p=q then (T1 i).tried p+1 else (T1 i).tried p }:=by rw [lO,dy]
 obtain ⟨F8,AU⟩:=AU;refine ⟨⟨h.ext.trans hx,fun j hj=>by rw [ne j (by omega)]; exact h.low j hj,by rw [ei]; exact h.gens,fun j h1 h2=>(h.up j h1 h2).ext hx (ne j (by omega)) (fun _=>ne _ (by omega)),J5 h.all bF hk hs jS hp⟩,?_,by rw [ei]; simp,by rw [ei],?_⟩
 ·intro m hm gB
  have qZ:m<(T1 i).orb.length:=by omega
  have e1:(find (tick T1 i q) i (ap s q) (Ma.aj uq s) i).orb[m]=(T1 i).orb[m]:=by simp only [ei]; rw [List.getElem_append_left qZ]
  rw [e1]
  have hne:(T1 i).orb[m]≠q:=by
   rw [<- AU];intro e;have:=(List.getElem_inj h.lvl.nd).1 e;omega
  simp only [ei];rw [if_neg hne];exact hd m qZ gB
 ·have cO:k<((T1 i).orb++[ap s q]).length:=by simp; omega
  refine ⟨by rw [ei]; exact cO,?_⟩;simp only [ei];rw [List.getElem_append_left F8]; exact AU
theorem iU.IZ {i k:Nat} {T T1 T4:aY} (h:iU n i T T1) (hd:kT T1 i k) {q:Nat} {s uq v:List Nat} (hk:(T1 i).tried q<(T1 i).gens.length) (hs:(T1 i).gens[(T1 i).tried q]=s) (jS:(T1 i).rep q=some uq) (hv:(T1 i).rep (ap s q)=some v)
  (AU:∃ h:k<(T1 i).orb.length,(T1 i).orb[k]=q) (hx:Ext (tick T1 i q) T4) (he:∀ j,j<i+1->T4 j=tick T1 i q j) (hu:∀ j,i<j->j<n->Full n T4 j)
  (ng:i+1<n->∀ s∈(T4 (i+1)).gens,Gr n (·∈(T1 i).gens) s) (To:Sd n (bJ T4) (n - (i+1)) (Ma.aj (Ma.aj uq s) (Ma.aS v))) :
  iU n i T T4/\kT T4 i k/\(T4 i).tried q=(T1 i).tried q+1/\(T4 i).gens=(T1 i).gens/\∃ h:k<(T4 i).orb.length,(T4 i).orb[k]=q:=by
 have Qd:=(jh T1 i q).trans hx;have ei:=(he i (by omega)).trans (dy T1 i q);obtain ⟨F8,AU⟩:=AU;refine ⟨⟨h.ext.trans Qd,fun j hj=>by rw [he j (by omega),gM (by omega)]; exact h.low j hj,by rw [ei]; exact h.gens,hu,J4 h.lvl hk hs jS (he i (by omega)) Qd ng hv To⟩,?_,by rw [ei]; simp,by rw [ei],?_⟩
 ·intro m hm gB
  have qZ:m<(T1 i).orb.length:=by rw [ei] at hm; exact hm
  have hne:(T1 i).orb[m]≠q:=by
   rw [<- AU];intro e;have:=(List.getElem_inj h.lvl.nd).1 e;omega
  simp only [ei];rw [if_neg hne];exact hd m qZ gB
 ·refine ⟨by rw [ei]; exact F8,?_⟩
  simp only [ei]; exact AU
theorem Mh {i q:Nat} {T:aY} (h:eF n T i) (bF:i<n) {s uq v:List Nat} (hs:s∈(T i).gens) (jS:(T i).rep q=some uq) (hv:(T i).rep (ap s q)=some v) :
  Gd n (Ma.aj uq s)/\Gd n v/\ap (Ma.aj uq s) i=ap s q/\Gd n (Ma.aj (Ma.aj uq s) (Ma.aS v))/\Fx (i+1) (Ma.aj (Ma.aj uq s) (Ma.aS v))/\Gr n (·∈(T i).gens) (Ma.aj (Ma.aj uq s) (Ma.aS v)):=by
 have gs:=h.yJ s hs;have gu:=h.wu q uq jS;have gv:=h.wu _ v hv;have gy:=aV gu gs
 have ay:ap (Ma.aj uq s) i=ap s q:=by rw [br gu bF,h.AK q uq jS]
 have fy:Fx i (Ma.aj uq s):=Fx.mul gu (by omega) (h.Dd q uq jS) (h.JZ s hs);refine ⟨gy,gv,ay,aV gy (aN gv),fun j hj=>?_,.mul _ _ (.mul _ _ (h.De q uq jS) (.gen _ hs)) (.inv _ (h.De _ v hv))⟩;rw [br gy (by omega)]
 by_cases e:j=i
 ·subst e
  rw [ay,<- h.AK _ v hv];exact ee gv bF
 ·rw [fy j (by omega)]
  exact Fx.inv gv (by omega) (h.Dd _ v hv) j (by omega)
structure s6 (n i:Nat) (T T':aY) (x:List Nat):Prop where
 ext:Ext T T'
 low:∀ j,j<i->T' j=T j
 full:∀ j,i<=j->j<n->Full n T' j
 sd:Sd n (bJ T') (n - i) x
 gens:∀ H:List Nat->Prop,bT n H->(∀ s∈(T i).gens,H s)->H x->∀ s∈(T' i).gens,H s
theorem s6.same {i:Nat} {T:aY} {x:List Nat} (hf:∀ j,i<=j->j<n->Full n T j) (hi:i<n) (gx:Gd n x) (fx:Fx i x) (h:(dS n (bJ T) (n - i) x).1=n):s6 n i T T x:=by
 have hr:Rp n i (bJ T):=eF.rp fun j a b=>(hf j a b).1;obtain ⟨_,_,g,f,_⟩:=nY hr (d:=n - i) (x:=x) (by omega) (by omega) gx (by rw [show n - (n - i)=i by omega]; exact fx);rw [h] at f;refine ⟨Ext.refl T,fun _ _=>rfl,hf,?_,fun H _ hs _=>hs⟩;refine sV (tr:=bJ T) (by omega) (fun _ _ _ _ e=>e) ?_;rw [h,Nat.sub_self];exact Fx.all g f
structure kU (n i at_ k:Nat) (T T1:aY) (r:List Nat):Prop where
 ext:Ext T T1
 low:∀ j,j<i->T1 j=T j
 put:∀ j,i<=j->j<k->T1 j=fB T i at_ r j
 full:∀ j,k<=j->j<n->Full n T1 j
 Sc:k<=at_->(T1 k).gens=(T k).gens++[r]
 tail:k=at_+1->∀ j,at_<j->T1 j=T j
 Se:r∈(T1 at_).gens
 more:k<=at_->(T at_).orb.length<(T1 at_).orb.length
theorem kU.start {i at_:Nat} {T:aY} {r:List Nat} (hf:∀ j,i<=j->j<n->Full n T j) (hi:i<=at_):kU n i at_ (at_+1) T (fB T i at_ r) r :=
 ⟨sX _ _ _ _,fun j hj=>dY (by omega),fun _ _ _=>rfl,fun j h1 h2=>(hf j (by omega) h2).ext (sX T i at_ r) (dY (by omega)) (fun _=>dY (by omega)),fun h=>by omega,fun _ j hj=>dY (by omega),
  by rw [gJ ⟨hi,Nat.le_refl _⟩]; exact List.mem_append_right _ (List.mem_singleton.2 rfl),fun h=>by omega⟩
theorem kU.lvl {i at_ k:Nat} {T T1:aY} {r:List Nat} (h:kU n i at_ (k+1) T T1 r) (hf:∀ j,i<=j->j<n->Full n T j) (hi:i<=k) (hk:k<=at_) (ha:at_<n) (gr:Gd n r) (fr:Fx at_ r):eF n T1 k:=by
 have h1:=J2 (hf k hi (by omega)).1 hi gr fr;have e0:=h.put k hi (by omega);refine h1.R9 e0 (fun j p u e=>?_) fun h0 s hs=>?_
 ·have:bJ (fB T i at_ r) j p=some u:=e
  rw [qV] at this;exact h.ext.rep j p u this
 ·by_cases e:k+1<=at_
  ·rw [h.Sc e] at hs
   have hp:=h1.low h0 s;rw [gJ (j:=k+1) ⟨by omega,e⟩] at hp;exact hp hs
  ·have e2:k+1=at_+1:=by omega
   rw [h.tail e2 (k+1) (by omega)] at hs;have hp:=h1.low h0 s;rw [dY (j:=k+1) (by omega)] at hp;exact hp hs
theorem kU.step {n i at_ k:Nat} {T T1 T2:aY} {r:List Nat} (h:kU n i at_ (k+1) T T1 r) (hf:∀ j,i<=j->j<n->Full n T j) (hi:i<=k) (hk:k<=at_) (ha:at_<n) (hp:(T at_).rep (ap r at_)=none) (hc:iU n k T1 T2) (Ti:yK T2 k):kU n i at_ k T T2 r:=by
 have hx:=h.ext.trans hc.ext
 have hg:(T2 k).gens=(T k).gens++[r]:=by rw [hc.gens,h.put k hi (by omega),gJ ⟨hi,hk⟩]
 have hm:=hc.ext.gens at_ r h.Se
 have aE:(T at_).orb.length<(T2 at_).orb.length:=by
  by_cases e:k=at_
  ·subst e
   have h0:=(hf k hi ha).1;have hl:=hc.lvl;have Mi:=hl.self;obtain ⟨m,uV,CD⟩:=List.getElem_of_mem hm;obtain ⟨v,hv,_⟩:=hl.pr k _ m uV Mi (by rw [Ti k _ Mi]; exact uV);rw [CD] at hv;have bF:=(hl.orb (ap r k)).2 ⟨v,hv⟩
   have WQ:ap r k∉(T k).orb:=fun hh=>by
    obtain ⟨u,hu⟩:=(h0.orb _).1 hh;rw [hp] at hu; cases hu
   have hnd:(ap r k :: (T k).orb).Nodup:=List.nodup_cons.2 ⟨WQ,h0.nd⟩
   have:=List.Nodup.length_le_of_subset hnd (l₂:=(T2 k).orb) (fun z hz=>by
    rcases List.mem_cons.1 hz with rfl | hz
    ·exact bF
    ·obtain ⟨u,hu⟩:=(h0.orb z).1 hz
     exact (hl.orb z).2 ⟨u,hx.rep k z u hu⟩)
   simp at this; omega
  ·exact Nat.lt_of_lt_of_le (h.more (by omega)) (hc.ext.orb at_)
 refine ⟨hx,fun j hj=>by rw [hc.low j (by omega)]; exact h.low j hj,fun j h1 h2=>by rw [hc.low j h2]; exact h.put j h1 (by omega),fun j h1 h2=>?_,fun _=>hg,fun e=>by omega,hm,fun _=>aE⟩
 by_cases e:j=k
 ·subst e
  refine ⟨hc.lvl,Ti,?_⟩;have:=(hf j hi h2).2.2;have h3:=J1 (n:=n) hx ha hk aE;rw [hg,List.length_append,List.length_singleton];omega
 ·exact hc.up j (by omega) h2
theorem kU.up {i at_ k:Nat} {T T1:aY} {r:List Nat} (h:kU n i at_ (k+1) T T1 r):∀ j,k<j->j<n->Full n T1 j:=fun j h1 h2=>h.full j (by omega) h2
theorem kU.added {i:Nat} {T T1:aY} {x:List Nat} (hf:∀ j,i<=j->j<n->Full n T j) (hi:i<n) (gx:Gd n x) (fx:Fx i x) (h:kU n i (dS n (bJ T) (n - i) x).1 i T T1 (dS n (bJ T) (n - i) x).2) (ha:(dS n (bJ T) (n - i) x).1<n):s6 n i T T1 x:=by
 have hr:Rp n i (bJ T):=eF.rp fun j a b=>(hf j a b).1;obtain ⟨_,AI,gr,fr,_⟩:=nY hr (d:=n - i) (x:=x) (by omega) (by omega) gx (by rw [show n - (n - i)=i by omega]; exact fx);rw [show n - (n - i)=i by omega] at AI;refine ⟨h.ext,h.low,h.full,?_,fun H hH hs hx s iD=>?_⟩
 ·refine sV (tr:=bJ T) (by omega) (fun j p u _ e=>h.ext.rep j p u e) ?_
  exact eF.sd (fun j h1 h2=>⟨(h.full j (by omega) h2).1,(h.full j (by omega) h2).2.1⟩) ha (.gen _ h.Se)
 ·rw [h.Sc AI] at iD
  rcases List.mem_append.1 iD with iD | iD
  ·exact hs s iD
  ·rw [List.mem_singleton] at iD
   subst iD;refine Dc hH (by omega) (fun j p u h1 h2 hu=>?_) hx;have hT:sU n i (fun j s=>s∈(T j).gens) (bJ T):=eF.Tn fun j a b=>⟨(hf j a b).1,(hf j a b).2.1⟩;have h3:=hT.mem j p u (by omega) h2 hu;have h4:=hT.sub (i:=i) (Nat.le_refl _) (k:=j - i) (by omega) (x:=u) (by rwa [show i+(j - i)=j by omega]);exact Gr.sub hH hs h4
end Go.Proofs.Cm
