/- Lemmas and contracts on the way to the statement; no condition of their own beyond those written. -/
import Derived.Lib.Hide
import Derived.Deep.OwnRows
import Derived.WalkKit
import Derived.WalkSpells
import Derived.WalkLawsBesides
import Derived.Maps.AppendAt
import Derived.OwnWalk
import Derived.OrdersHeld
import Derived.Stop.BytesEq
import Derived.MapKept
import Derived.ChangeMaps5
import Derived.StillTailTactics
import Derived.Deep.MidRow
import Derived.Laws.CopyOwn
import Derived.Laws.OwnMore
import Derived.Great.BuildSlice
import Derived.ArgAppend
import Derived.IntWalk
import Derived.Test.YtpedbljnhnoohaaGreatProg
import Derived.Outline
import Derived.Deep.DeepFit
import Derived.BigQuiet
import Derived.Deep.QuietTactic
import Derived.Deep.CutRange
import Derived.Deep.CutBlock
import Derived.Shelf.Sort.Plain
import Derived.Sort.OwnSortedInts
import Derived.WideMake
set_option linter.unusedVariables false
set_option linter.unusedSimpArgs false
set_option maxRecDepth 100000
set_option maxHeartbeats 8000000
variable {w W w' W' w0 X:Go.World} {n B N L j D tc base n₀ cap bytes tk:Nat} {v rv ov u xv v1 v2 u1 u2 yv tv:Go.Value} {F M F' Fk:Nat->Prop} {O gs A O':List (List Nat)} {R R':List (List (List Nat))} {ll OO dK PS:List (List Int)} {RR dL:List (List (List Int))} {H:List Nat->Prop} {d ck:Int} {q:List Nat} {xs:List Go.Value} {xl:List Int}
theorem Go.RowKit.Hid.p {p:Prop} (h:Go.RowKit.Hid p):p:=h.out
namespace Go.Proofs.Cm
end Go.Proofs.Cm
namespace Go.Proofs.Ob
end Go.Proofs.Ob
namespace Go.Proofs.YtpedbljnhnoohaaGreat
end Go.Proofs.YtpedbljnhnoohaaGreat
namespace Go.Proofs.Ma
def s4 (l:List Int):Prop:=(∀ x∈l,0<=x/\x<l.length)/\l.Nodup
instance (l:List Int):Decidable (s4 l):=inferInstanceAs (Decidable (_/\_))
def wy (l:List Int) (k:Nat):Prop:=(∀ x∈l.take k,0<=x/\x<l.length)/\(l.take k).Nodup
theorem wz (l:List Int):wy l 0:=⟨by simp,by simp⟩
theorem Eh {l:List Int} (h:wy l l.length):s4 l:=by
 unfold wy at h; rw [List.take_length] at h; exact h
theorem A8 {l:List Int} {k:Nat} (h:wy l k) (hk:k<l.length) (h0:0<=l[k]) (h1:l[k]<l.length) (h2:l[k]∉l.take k):wy l (k+1):=by
 unfold wy;rw [List.take_succ_eq_append_getElem hk];refine ⟨fun x hx=>?_,?_⟩
 ·rcases List.mem_append.1 hx with hx | hx
  ·exact h.1 x hx
  ·obtain rfl:x=l[k]:=by simpa using hx
   exact ⟨h0,h1⟩
 ·rw [List.nodup_append]
  refine ⟨h.2,by simp,fun a ha b hb=>?_⟩
  obtain rfl:b=l[k]:=by simpa using hb
  intro e; exact h2 (e▸ha)
theorem Kv {l:List Int} {k:Nat} (hk:k<l.length) (h0:l[k]<0):¬ s4 l:=fun h=>by
 have:=(h.1 _ (List.getElem_mem hk)).1; omega
theorem Kw {l:List Int} {k:Nat} (hk:k<l.length) (h0:(l.length:Int)<=l[k]):¬ s4 l:=fun h=>by
 have:=(h.1 _ (List.getElem_mem hk)).2; omega
theorem Ei {l:List Int} {k:Nat} (hk:k<l.length) (h0:l[k]∈l.take k):¬ s4 l:=fun h=>by
 have hn:=h.2;rw [<- List.take_append_drop k l,List.nodup_append] at hn;refine hn.2.2 _ h0 l[k] ?_ rfl;rw [List.drop_eq_getElem_cons hk]; exact List.mem_cons_self
theorem pO {l:List Int} {k:Nat} (hk:k<l.length) (j:Nat):decide ((j:Int)∈l.take (k+1))=if (j:Int)=l[k] then true else decide ((j:Int)∈l.take k):=by
 have h:((j:Int)∈l.take (k+1))↔((j:Int)∈l.take k∨(j:Int)=l[k]):=by
  rw [List.take_succ_eq_append_getElem hk,List.mem_append,List.mem_singleton]
 by_cases e:(j:Int)=l[k]
 ·rw [if_pos e,decide_eq_true_eq,h]; exact .inr e
 ·rw [if_neg e]; exact decide_eq_decide.2 (by rw [h]; exact ⟨fun x=>x.resolve_right e,.inl⟩)
def bB (l:List Int):Int:=if 1<=l.length/\l.length<=64 then (if s4 l then 0 else 3) else 2
theorem A9 {l:List Int} (h:¬ (1<=l.length/\l.length<=64)):bB l=2:=by unfold bB; rw [if_neg h]
theorem uN {l:List Int} (h1:1<=l.length) (h2:l.length<=64) (h:¬ s4 l):bB l=3:=by unfold bB; rw [if_pos ⟨h1,h2⟩,if_neg h]
theorem nC {l:List Int} (h1:1<=l.length) (h2:l.length<=64) (h:s4 l):bB l=0:=by unfold bB; rw [if_pos ⟨h1,h2⟩,if_pos h]
theorem jh {l:List Int} (h:bB l=0):1<=l.length/\l.length<=64/\s4 l:=by
 unfold bB at h
 split at h
 ·rename_i h1
  split at h
  ·rename_i h2; exact ⟨h1.1,h1.2,h2⟩
  ·cases h
 ·cases h
def j3 (d:Int):List (List Int)->Int
 | []=>0
 | l :: r=>if bB l=0 then (if (l.length:Int)=d then j3 d r else 10) else bB l
def gM (d:Int) (ll:List (List Int)):Int:=if 1<=d/\d<=64 then (if ll.length<=16 then j3 d ll else 4) else 2
theorem Ej {k:Nat} (hk:k<ll.length) (h:bB ll[k]≠0):j3 d (ll.drop k)=bB ll[k]:=by
 rw [List.drop_eq_getElem_cons hk,j3,if_neg h]
theorem Ek {k:Nat} (hk:k<ll.length) (h:bB ll[k]=0) (h2:(ll[k].length:Int)≠d):j3 d (ll.drop k)=10:=by
 rw [List.drop_eq_getElem_cons hk,j3,if_pos h,if_neg h2]
theorem A_ {k:Nat} (hk:k<ll.length) (h:bB ll[k]=0) (h2:(ll[k].length:Int)=d):j3 d (ll.drop k)=j3 d (ll.drop (k+1)):=by
 rw [List.drop_eq_getElem_cons hk,j3,if_pos h,if_pos h2]
theorem Em {k:Nat} (hk:ll.length<=k):j3 d (ll.drop k)=0:=by
 rw [List.drop_of_length_le hk]; rfl
theorem wF (h:¬ (1<=d/\d<=64)):gM d ll=2:=by unfold gM; rw [if_neg h]
theorem Ih (h1:1<=d) (h2:d<=64) (h:¬ ll.length<=16):gM d ll=4:=by unfold gM; rw [if_pos ⟨h1,h2⟩,if_neg h]
theorem NU (h1:1<=d) (h2:d<=64) (h:ll.length<=16):gM d ll=j3 d ll:=by unfold gM; rw [if_pos ⟨h1,h2⟩,if_pos h]
theorem uO {d:Int}:∀ {ll:List (List Int)},j3 d ll=0->∀ l∈ll,bB l=0/\(l.length:Int)=d
 | [],_=>by simp
 | l :: r,h=>by
  rw [j3] at h
  split at h
  ·rename_i h1
   split at h
   ·rename_i h2
    intro x hx
    rcases List.mem_cons.1 hx with rfl | hx
    ·exact ⟨h1,h2⟩
    ·exact uO h x hx
   ·cases h
  ·rename_i h1; exact absurd h h1
def dT:List (List Int)->Int
 | []=>0
 | l :: r=>if bB l=0 then dT r else bB l
def po (n:Nat):List (List Int)->Int
 | []=>0
 | l :: r=>if l.length=n then po n r else 10
def wG (ll:List (List Int)):Int:=if dT ll=0 then po (ll.headD []).length ll else dT ll
theorem Ba {k:Nat} (hk:k<ll.length) (h:bB ll[k]≠0):dT (ll.drop k)=bB ll[k]:=by
 rw [List.drop_eq_getElem_cons hk,dT,if_neg h]
theorem xU {k:Nat} (hk:k<ll.length) (h:bB ll[k]=0):dT (ll.drop k)=dT (ll.drop (k+1)):=by
 rw [List.drop_eq_getElem_cons hk,dT,if_pos h]
theorem LK {k:Nat} (hk:ll.length<=k):dT (ll.drop k)=0:=by
 rw [List.drop_of_length_le hk]; rfl
theorem LM {k:Nat} (hk:k<ll.length) (h:ll[k].length≠n):po n (ll.drop k)=10:=by
 rw [List.drop_eq_getElem_cons hk,po,if_neg h]
theorem Ii {k:Nat} (hk:k<ll.length) (h:ll[k].length=n):po n (ll.drop k)=po n (ll.drop (k+1)):=by
 rw [List.drop_eq_getElem_cons hk,po,if_pos h]
theorem LN {k:Nat} (hk:ll.length<=k):po n (ll.drop k)=0:=by
 rw [List.drop_of_length_le hk]; rfl
theorem LO (h:dT ll≠0):wG ll=dT ll:=by unfold wG; rw [if_neg h]
theorem NV (h:dT ll=0):wG ll=po (ll.headD []).length ll:=by unfold wG; rw [if_pos h]
def af (p:List Nat):List Int:=p.map fun (x:Nat)=>(x:Int)
def j4 (p:List Nat):Prop:=(∀ x∈p,x<p.length)/\p.Nodup
instance (p:List Nat):Decidable (j4 p):=inferInstanceAs (Decidable (_/\_))
theorem az (p:List Nat):(af p).length=p.length:=by simp [af]
theorem pP (p:List Nat) (i:Nat) (h:i<(af p).length):(af p)[i]=((p[i]'(by rw [<- az]; exact h):Nat):Int):=by simp [af]
theorem lQ {l:List Int} (h:s4 l):∃ p,l=af p/\j4 p:=by
 refine ⟨l.map Int.toNat,?_,?_,?_⟩
 ·unfold af; rw [List.map_map]
  conv=>lhs; rw [<- List.map_id l]
  exact List.map_congr_left fun x hx=>by have:=(h.1 x hx).1; simp; omega
 ·intro x hx
  obtain ⟨y,hy,rfl⟩:=List.mem_map.1 hx;have:=h.1 y hy; simp; omega
 ·rw [List.nodup_iff_pairwise_ne,List.pairwise_map]
  refine (List.nodup_iff_pairwise_ne.1 h.2).imp_of_mem fun {a b} ha hb hne e=>hne ?_;have:=(h.1 a ha).1; have:=(h.1 b hb).1; omega
theorem nD {p:List Nat} (h:j4 p):s4 (af p):=by
 refine ⟨fun x hx=>?_,?_⟩
 ·obtain ⟨y,hy,rfl⟩:=List.mem_map.1 hx
  have:=h.1 y hy; rw [az]; omega
 ·unfold af; rw [List.nodup_iff_pairwise_ne,List.pairwise_map]
  exact (List.nodup_iff_pairwise_ne.1 h.2).imp fun hne e=>hne (by omega)
theorem nE {p:List Nat} (h:af p=af q):p=q:=by
 unfold af at h
 exact List.map_inj_right (f:=fun x:Nat=>(x:Int)) (by intro x y e; exact Int.ofNat.inj e) |>.1 h
theorem xI {p:List Nat} (h:j4 p) {i:Nat} (hi:i<p.length):p[i]<p.length:=h.1 _ (List.getElem_mem hi)
def bh (n:Nat):List Nat:=List.range n
def ar (a b:List Nat):List Nat:=a.map fun x=>b.getD x 0
def aX (a:List Nat):List Nat:=(List.range a.length).map fun j=>a.idxOf j
theorem fC (n:Nat):(bh n).length=n:=by simp [bh]
theorem cI (a b:List Nat):(ar a b).length=a.length:=by simp [ar]
theorem cR (a:List Nat):(aX a).length=a.length:=by simp [aX]
theorem uP (n i:Nat) (h:i<(bh n).length):(bh n)[i]=i:=by simp [bh]
theorem uQ (a b:List Nat) (i:Nat) (h:i<(ar a b).length):(ar a b)[i]=b.getD (a[i]'(by rw [<- cI a b]; exact h)) 0:=by simp [ar]
theorem qU (a:List Nat) (i:Nat) (h:i<(aX a).length):(aX a)[i]=a.idxOf i:=by simp [aX]
theorem Bb (n:Nat):j4 (bh n):=⟨by simp [bh],List.nodup_range⟩
theorem nG {a:List Nat} (h:j4 a) {k:Nat} (hk:k<a.length):a.idxOf a[k]=k:=by
 exact h.2.idxOf_getElem k hk
theorem s5 {a:List Nat} (h:j4 a) (hj:j<a.length):j∈a:=by
 refine Decidable.byContradiction fun hn=>?_
 have hs:(j :: a) ⊆ List.range a.length:=fun x hx=>by
  rcases List.mem_cons.1 hx with rfl | hx
  ·simpa using hj
  ·simpa using h.1 x hx
 have:=List.Nodup.length_le_of_subset (List.nodup_cons.2 ⟨hn,h.2⟩) hs;simp at this;omega
theorem Cc {a:List Nat} (h:j4 a) (hj:j<a.length):a.idxOf j<a.length:=List.idxOf_lt_length_of_mem (s5 h hj)
theorem Eo {a:List Nat} (h:j4 a) (hj:j<a.length):a[a.idxOf j]'(Cc h hj)=j:=List.getElem_idxOf (Cc h hj)
theorem Bc {a:List Nat} (h:j4 a):j4 (aX a):=by
 refine ⟨fun x hx=>?_,?_⟩
 ·obtain ⟨j,hj,rfl⟩:=List.mem_map.1 hx
  rw [cR]; exact Cc h (by simpa using hj)
 ·unfold aX
  rw [List.nodup_iff_pairwise_ne,List.pairwise_map];refine (List.nodup_iff_pairwise_ne.1 List.nodup_range).imp_of_mem fun {x y} hx hy hne e=>hne ?_;have h1:=Eo h (j:=x) (by simpa using hx);have h2:=Eo h (j:=y) (by simpa using hy);simp only [e] at h1;exact h1.symm.trans h2
theorem getD_lt {b:List Nat} {x:Nat} (h:x<b.length):b.getD x 0=b[x]:=by
 rw [List.getD_eq_getElem?_getD,List.getElem?_eq_getElem h]; rfl
theorem Bd {a b:List Nat} (ha:j4 a) (hb:j4 b) (hl:a.length=b.length):j4 (ar a b):=by
 refine ⟨fun x hx=>?_,?_⟩
 ·obtain ⟨j,hj,rfl⟩:=List.mem_map.1 hx
  have:=ha.1 j hj;rw [cI,getD_lt (by omega),hl];exact xI hb (by omega)
 ·unfold ar
  rw [List.nodup_iff_pairwise_ne,List.pairwise_map];refine (List.nodup_iff_pairwise_ne.1 ha.2).imp_of_mem fun {x y} hx hy hne e=>hne ?_;have h1:=ha.1 x hx; have h2:=ha.1 y hy;rw [getD_lt (by omega),getD_lt (by omega)] at e;have i1:=nG hb (k:=x) (by omega);have i2:=nG hb (k:=y) (by omega);rw [e] at i1;exact i1.symm.trans i2
end Go.Proofs.Ma
namespace Go.Proofs.Rg
section
open Go Go.RowKit
def jD (B:Nat) (w:World) (v:Value) (us:List Value):Prop :=
 ∃ a cap,v=.slice a us.length cap/\us.length<=cap/\cap<=maxLen/\us.length<=B /\
  (0<us.length->∃ b o,a=some ⟨b,o,none⟩/\b<w.heap.size/\∀ i (h:i<us.length),w.cell? ⟨b,o+i,none⟩=some us[i])
def xe:Nat:=1000000000
def cS (w:World) (v:Value) (us:List Value):Prop:=jD xe w v us
def cV (B:Nat) (w:World) (v:Value) (l:List Int):Prop:=jD B w v (l.map (Value.int .i64))
def Ints (w:World) (v:Value) (l:List Int):Prop:=cS w v (l.map (Value.int .i64))
def j5 (B:Nat) (w:World) (v:Value) (ll:List (List Int)):Prop :=
 ∃ us,jD B w v us/\us.length=ll.length/\∀ i (h:i<us.length) (h2:i<ll.length),cV B w us[i] ll[i]
def Rows (w:World) (v:Value) (ll:List (List Int)):Prop:=j5 xe w v ll
theorem jD.shape {us:List Value} (h:jD B w v us) :
  ∃ a cap,v=.slice a us.length cap/\us.length<=cap/\us.length<=B/\cap<=maxLen /\
  (0<us.length->∃ b o,a=some ⟨b,o,none⟩/\b<w.heap.size/\∀ i (h:i<us.length),w.cell? ⟨b,o+i,none⟩=some us[i]):=by
 obtain ⟨a,cap,h1,h2,h3,h4,h5⟩:=h;exact ⟨a,cap,h1,h2,h4,h3,h5⟩
theorem cS.shape {w:World} {v:Value} {us:List Value} (h:cS w v us) :
  ∃ a cap,v=.slice a us.length cap/\us.length<=cap/\us.length<=1000000000/\cap<=maxLen /\
  (0<us.length->∃ b o,a=some ⟨b,o,none⟩/\b<w.heap.size/\∀ i (h:i<us.length),w.cell? ⟨b,o+i,none⟩=some us[i]):=jD.shape h
theorem cV.shape {l:List Int} (h:cV B w v l) :
  ∃ a cap,v=.slice a l.length cap/\l.length<=cap/\l.length<=B/\cap<=maxLen /\
  (0<l.length->∃ b o,a=some ⟨b,o,none⟩/\b<w.heap.size/\∀ i (h:i<l.length),w.cell? ⟨b,o+i,none⟩=some (.int .i64 l[i])):=by
 obtain ⟨a,cap,h1,h2,h3,h4,h5⟩:=h;simp only [List.length_map] at h1 h2 h4 h5;refine ⟨a,cap,h1,h2,h4,h3,fun h0=>?_⟩;obtain ⟨b,o,e1,e2,e3⟩:=h5 h0;exact ⟨b,o,e1,e2,fun i hi=>(e3 i hi).trans (by simp)⟩
theorem Ints.shape {w:World} {v:Value} {l:List Int} (h:Ints w v l) :
  ∃ a cap,v=.slice a l.length cap/\l.length<=cap/\l.length<=1000000000/\cap<=maxLen /\
  (0<l.length->∃ b o,a=some ⟨b,o,none⟩/\b<w.heap.size/\∀ i (h:i<l.length),w.cell? ⟨b,o+i,none⟩=some (.int .i64 l[i])):=cV.shape h
theorem j5.shape (h:j5 B w v ll) :
  ∃ a cap,v=.slice a ll.length cap/\ll.length<=cap/\ll.length<=B/\cap<=maxLen /\
  (0<ll.length->∃ b o,a=some ⟨b,o,none⟩/\b<w.heap.size/\∀ i (h:i<ll.length),∃ u,w.cell? ⟨b,o+i,none⟩=some u/\cV B w u ll[i]):=by
 obtain ⟨us,⟨a,cap,h1,h2,h3,h4,h5⟩,hl,h6⟩:=h;rw [hl] at h1 h2 h4;refine ⟨a,cap,h1,h2,h4,h3,fun h0=>?_⟩;obtain ⟨b,o,e1,e2,e3⟩:=h5 (by omega);exact ⟨b,o,e1,e2,fun i hi=>⟨us[i],e3 i (by omega),h6 i (by omega) hi⟩⟩
theorem Rows.shape {w:World} {v:Value} {ll:List (List Int)} (h:Rows w v ll) :
  ∃ a cap,v=.slice a ll.length cap/\ll.length<=cap/\ll.length<=1000000000/\cap<=maxLen /\
  (0<ll.length->∃ b o,a=some ⟨b,o,none⟩/\b<w.heap.size/\∀ i (h:i<ll.length),∃ u,w.cell? ⟨b,o+i,none⟩=some u/\Ints w u ll[i]):=j5.shape h
theorem jD.jj {us:List Value} (h:jD B w v us) (hb:Below w.heap.size w w'):jD B w' v us:=by
 obtain ⟨a,cap,h1,h2,h3,h4,h5⟩:=h;refine ⟨a,cap,h1,h2,h3,h4,fun h0=>?_⟩;obtain ⟨b,o,e1,e2,e3⟩:=h5 h0;exact ⟨b,o,e1,Nat.lt_of_lt_of_le e2 hb.size,fun i hi=>(hb.cell (p:=⟨b,o+i,none⟩) e2).trans (e3 i hi)⟩
theorem cS.jj {w w':World} {v:Value} {us:List Value} (h:cS w v us) (hb:Below w.heap.size w w'):cS w' v us:=jD.jj h hb
theorem cV.jj {B:Nat} {w w':World} {v:Value} {l:List Int} (h:cV B w v l) (hb:Below w.heap.size w w'):cV B w' v l:=jD.jj h hb
theorem Ints.jj {w w':World} {v:Value} {l:List Int} (h:Ints w v l) (hb:Below w.heap.size w w'):Ints w' v l:=jD.jj h hb
theorem j5.jj {B:Nat} {w w':World} {v:Value} {ll:List (List Int)} (h:j5 B w v ll) (hb:Below w.heap.size w w'):j5 B w' v ll:=by
 obtain ⟨us,h1,h2,h3⟩:=h;exact ⟨us,h1.jj hb,h2,fun i a b=>(h3 i a b).jj hb⟩
theorem Rows.jj {w w':World} {v:Value} {ll:List (List Int)} (h:Rows w v ll) (hb:Below w.heap.size w w'):Rows w' v ll:=j5.jj h hb
theorem cV.small {l:List Int} (h:cV B w v l) (hl:l.length<=1000000000):Ints w v l:=by
 obtain ⟨a,cap,h1,h2,h3,h4,h5⟩:=h;exact ⟨a,cap,h1,h2,h3,by rw [List.length_map]; exact hl,h5⟩
theorem j5.small {B:Nat} {w:World} {v:Value} {ll:List (List Int)} (h:j5 B w v ll) (hl:ll.length<=1000000000) (hr:∀ l∈ll,l.length<=1000000000):Rows w v ll:=by
 obtain ⟨us,⟨a,cap,h1,h2,h3,h4,h5⟩,hu,h6⟩:=h;exact ⟨us,⟨a,cap,h1,h2,h3,by rw [hu]; exact hl,h5⟩,hu,fun i a b=>(h6 i a b).small (hr _ (List.getElem_mem b))⟩
theorem cS.mk {b o:Nat} {us:List Value} (hb:b<w.heap.size) (hc:us.length<=cap) (hm:cap<=maxLen) (hl:us.length<=1000000000)
  (h:∀ i (h:i<us.length),w.cell? ⟨b,o+i,none⟩=some us[i]):cS w (.slice (some ⟨b,o,none⟩) us.length cap) us :=
 ⟨_,cap,rfl,hc,hm,hl,fun _=>⟨b,o,rfl,hb,h⟩⟩
theorem Ints.mk {b o:Nat} {l:List Int} (hn:n=l.length) (hb:b<w.heap.size) (hc:l.length<=cap) (hm:cap<=maxLen) (hl:l.length<=1000000000)
  (h:∀ i (h:i<l.length),w.cell? ⟨b,o+i,none⟩=some (.int .i64 l[i])):Ints w (.slice (some ⟨b,o,none⟩) n cap) l:=by
 subst hn;refine ⟨some ⟨b,o,none⟩,cap,by simp,by simpa using hc,hm,by rw [List.length_map]; exact hl,fun _=>⟨b,o,rfl,hb,fun i hi=>?_⟩⟩
 have s6:i<l.length:=by simpa using hi
 rw [h i s6]; simp
theorem Ints.nil (w:World) (a:Option Addr) (cap:Nat) (hc:cap<=maxLen):Ints w (.slice a 0 cap) [] :=
 ⟨a,cap,rfl,by simp,hc,by simp,fun h=>by simp at h⟩
theorem Rows.nil (w:World) (a:Option Addr) (cap:Nat) (hc:cap<=maxLen):Rows w (.slice a 0 cap) [] :=
 ⟨[],⟨a,cap,rfl,by simp,hc,by simp,fun h=>by simp at h⟩,rfl,fun i h=>by simp at h⟩
theorem cS.nil (w:World) (a:Option Addr) (cap:Nat) (hc:cap<=maxLen):cS w (.slice a 0 cap) [] :=
 ⟨a,cap,rfl,by simp,hc,by simp,fun h=>by simp at h⟩
theorem cS.dr {e:TypeId} (h:w.ownsRow base e 1 v n xs) (hl:n<=1000000000):cS w v xs:=by
 obtain ⟨h1,h2⟩:=h
 rcases h2 with ⟨rfl,rfl⟩ | ⟨g,cap,cur,rfl,hg,hc,h3,h4,h5,h6⟩
 ·obtain rfl:xs=[]:=by cases xs; rfl; simp at h1
  exact cS.nil w none 0 (by simp)
 ·have hn:xs.length=n:=by omega
  subst hn;refine ⟨_,cap,rfl,h3,h4,hl,fun h0=>⟨g,0,rfl,(Array.getElem?_eq_some_iff.1 hc).1,fun i hi=>?_⟩⟩;unfold World.cell?;simp only [hc]
  have h7:cur.toList[i]?=xs[i]?:=by
   rw [<- h6,List.getElem?_take_of_lt (by omega)]
  rw [Nat.zero_add,<- Array.getElem?_toList,h7,List.getElem?_eq_getElem hi]; rfl
theorem Ints.dr {w:World} {base:Nat} {e:TypeId} {v:Value} {n:Nat} {l:List Int} (h:w.ownsRow base e 1 v n (l.map (Value.int .i64))) (hl:n<=1000000000):Ints w v l:=cS.dr h hl
theorem Rows.dr {w:World} {base:Nat} {e:TypeId} {v:Value} {n:Nat} {us:List Value} {ll:List (List Int)} (h:w.ownsRow base e 1 v n us) (hl:n<=1000000000) (hu:us.length=ll.length)
  (hr:∀ i (h:i<us.length) (h2:i<ll.length),Ints w us[i] ll[i]):Rows w v ll:=⟨us,cS.dr h hl,hu,hr⟩
theorem Ints.iq {b:Nat} {t:TypeId} {f:Nat->Value} {l:List Int} (h:w.rowIs b t n f) (hn:n=l.length) (hl:n<=1000000000)
  (hf:∀ i (h:i<l.length),f i=.int .i64 l[i]):Ints w (.slice (some ⟨b,0,none⟩) n n) l:=by
 refine Ints.mk hn h.lt (by omega) (by unfold maxLen; omega) (by omega) (fun i hi=>?_);rw [Nat.zero_add,h.cell (by omega),hf i hi]
theorem rS {w1:World} (hb:Below W.heap.size W w1):(∀ b o,b<W.heap.size->w1.cell? ⟨b,o,none⟩=W.cell? ⟨b,o,none⟩)/\(∀ b o,b<W.heap.size->w1.frozen? ⟨b,o,none⟩=W.frozen? ⟨b,o,none⟩) :=
 ⟨fun b o h=>hb.cell (p:=⟨b,o,none⟩) h,fun b o h=>hb.frozen (p:=⟨b,o,none⟩) h⟩
theorem acc (hb:Below w0.heap.size w0 w) (h:Below w.heap.size w w'):Below w0.heap.size w0 w':=hb.trans (h.mono hb.size)
theorem iT {k:IntKind} {a b:Int} (h:a=b):Ending.returned (.int k a)=.returned (.int k b):=by rw [h]
theorem dU {a b:Bool} (h:a=b):Ending.returned (.bool a)=.returned (.bool b):=by rw [h]
theorem cV.len {l:List Int} (h:cV B w v l):∃ n a cap,l.length=n/\v=.slice a n cap/\n<=B:=by
 obtain ⟨a,cap,h1,h2,h3,h4,h5⟩:=cV.shape h;exact ⟨_,a,cap,rfl,h1,h3⟩
theorem Ints.len {w:World} {v:Value} {l:List Int} (h:Ints w v l):∃ n a cap,l.length=n/\v=.slice a n cap/\n<=1000000000:=cV.len h
def NP (w:World) (v:Value) (a:List Nat):Prop:=Ints w v (Ma.af a)
theorem NP.shape {w:World} {v:Value} {l:List Nat} (h:NP w v l) :
  ∃ a cap,v=.slice a l.length cap/\l.length<=cap/\l.length<=1000000000/\cap<=maxLen /\
  (0<l.length->∃ b o,a=some ⟨b,o,none⟩/\b<w.heap.size/\∀ i (h:i<l.length),w.cell? ⟨b,o+i,none⟩=some (.int .i64 ((l[i]:Nat):Int))):=by
 obtain ⟨a,cap,h1,h2,h3,h4,h5⟩:=Ints.shape h;rw [Ma.az] at h1 h2 h3;refine ⟨a,cap,h1,h2,h3,h4,fun h0=>?_⟩;obtain ⟨b,o,e1,e2,e3⟩:=h5 (by rw [Ma.az]; exact h0);exact ⟨b,o,e1,e2,fun i hi=>(e3 i (by rw [Ma.az]; exact hi)).trans (by rw [Ma.pP])⟩
theorem NP.jj {w w':World} {v:Value} {l:List Nat} (h:NP w v l) (hb:Below w.heap.size w w'):NP w' v l:=jD.jj h hb
theorem NP.iq {w:World} {b:Nat} {t:TypeId} {n:Nat} {f:Nat->Value} {l:List Nat} (h:w.rowIs b t n f) (hn:n=l.length) (hl:n<=1000000000)
  (hf:∀ i (h:i<l.length),f i=.int .i64 ((l[i]:Nat):Int)):NP w (.slice (some ⟨b,0,none⟩) n n) l :=
 Ints.iq h (by rw [Ma.az]; exact hn) hl (fun i hi=>by rw [hf i (by rw [<- Ma.az]; exact hi),Ma.pP])
theorem NP.dr {w:World} {base:Nat} {e:TypeId} {v:Value} {n:Nat} {l:List Nat} (h:w.ownsRow base e 1 v n (l.map fun (x:Nat)=>Value.int .i64 (x:Int))) (hl:n<=1000000000):NP w v l :=
 Ints.dr (base:=base) (e:=e) (n:=n) (by unfold Ma.af; rw [List.map_map]; exact h) hl
theorem aL (w:World) (cs:Array Value) (t:TypeId) (j:Nat):(w.alloc (.cells cs t)).cell? ⟨w.heap.size,j,none⟩=cs[j]?:=by
 unfold World.cell? World.alloc;simp
theorem Rows.one {l:List Int} (t:TypeId) (h:Ints w v l):Rows (w.alloc (.cells #[v] t)) (.slice (some ⟨w.heap.size,0,none⟩) 1 1) [l]:=by
 refine ⟨[v],⟨_,1,rfl,by simp,by unfold maxLen; simp,by simp [xe],fun _=>⟨w.heap.size,0,rfl,by simp,fun i hi=>?_⟩⟩,rfl,fun i h1 h2=>?_⟩
 ·have s6:i=0:=by simpa using hi
  subst s6;rw [aL]; rfl
 ·have s6:i=0:=by simpa using h1
  subst s6;exact Ints.jj h ((Below.refl _ _).alloc (Nat.le_refl _) _)
theorem Rows.two {v':Value} {l l':List Int} (t:TypeId) (h:Ints w v l) (h':Ints w v' l'):Rows (w.alloc (.cells #[v,v'] t)) (.slice (some ⟨w.heap.size,0,none⟩) 2 2) [l,l']:=by
 refine ⟨[v,v'],⟨_,2,rfl,by simp,by unfold maxLen; simp,by simp [xe],fun _=>⟨w.heap.size,0,rfl,by simp,fun i hi=>?_⟩⟩,rfl,fun i h1 h2=>?_⟩
 ·have s6:i=0∨i=1:=by simp at hi; omega
  rcases s6 with rfl | rfl
  all_goals
   rw [aL]; rfl
 ·have s6:i=0∨i=1:=by simp at h1; omega
  rcases s6 with rfl | rfl
  ·exact Ints.jj h ((Below.refl _ _).alloc (Nat.le_refl _) _)
  ·exact Ints.jj h' ((Below.refl _ _).alloc (Nat.le_refl _) _)
def fP (B:Nat) (v:Value):Prop:=∀ a n c,v=.slice (some a) n c->B<=a.block
def rT (w w':World) (v:Value) (a:List Nat):Prop:=NP w' v a/\fP w.heap.size v
theorem fP.mono {B':Nat} (h:fP B v) (hb:B'<=B):fP B' v:=fun a n c e=>Nat.le_trans hb (h a n c e)
theorem fP.mk (B o n c:Nat):fP B (.slice (some ⟨B,o,none⟩) n c):=fun a n c e=>by simp at e; obtain ⟨⟨rfl,_⟩,_⟩:=e; exact Nat.le_refl _
theorem fP.dr {e:TypeId} {size:Nat} (h:w.ownsRow base e size v n xs):fP base v:=fun a m c ev=>by
 subst ev;exact (h.lt a.block rfl).1
def q7 (u:Value) (k:Option Nat):Prop:=∀ a n c,u=.slice (some a) n c->0<n->some a.block≠k
theorem NP.lt {l:List Nat} (h:NP w v l) {a:Addr} {c:Nat} (e:v=.slice (some a) n c) (hn:0<n):a.block<w.heap.size:=by
 obtain ⟨a',cap,h1,_,_,_,h5⟩:=h.shape;rw [e] at h1;simp at h1;obtain ⟨rfl,rfl,rfl⟩:=h1;obtain ⟨b,o,e1,e2,_⟩:=h5 hn;simp at e1; subst e1; exact e2
theorem NP.grown {l:List Nat} {k:Option Nat} (h:NP w v l) (ho:q7 v k) (hg:w.grownBy w' k):NP w' v l:=by
 have hh:=h;obtain ⟨a,cap,h1,h2,h3,h4,h5⟩:=h;refine ⟨a,cap,h1,h2,h3,h4,fun h0=>?_⟩;obtain ⟨b,o,e1,e2,e3⟩:=h5 h0;subst e1;have hne:=ho _ _ _ h1 (by simpa using h0);exact ⟨b,o,rfl,Nat.lt_of_lt_of_le e2 hg.size,fun i hi=>hg.cell (e3 i hi) hne⟩
theorem q7.next {l:List Nat} {k k':Option Nat} {g:Nat} (h:q7 v k) (hv:NP w v l) (hk:k'=k∨k'=some g) (hg:w.heap.size<=g):q7 v k':=fun a n c e hn=>by
 rcases hk with rfl | rfl
 ·exact h a n c e hn
 ·have:=hv.lt e hn
  simp; omega
theorem q7.fresh {k:Option Nat} (h:fP B u) (hk:∀ b,k=some b->b<B):q7 u k:=fun a n c e _ he=>by
 have h1:=h a n c e;have h2:=hk _ he.symm;omega
theorem q7.nH {l:List Nat} {k:Option Nat} (h:NP w v l) (hw:w.heap.size<=B) (hk:∀ b,k=some b->B<=b):q7 v k:=fun a n c e hn he=>by
 have h1:=h.lt e hn;have h2:=hk _ he.symm;omega

structure rU (P:Program) (t e:TypeId) (z:Value) (bytes:Nat):Prop where
 ty:P.underlying t=some (.slice e)
 info:(P.info? e).map (fun i=>(i.zero,i.size,i.bytes))=some (some z,1,bytes)
 zc:z.cells.size=1
 small:bytes<=64
theorem Ep {P:Program} {W0 wr:World} {ops:Array Oper} {rest:List Oper} {o:Oper} {a:Act} {Q:Exit->Act->World->Prop} (ft:o.guard=none) (s x:Operand) (t:TypeId)
  (ho:o.op=.call { callee:=.builtin .append,args:=#[s,x],argTypes:=#[t,t] })
  {e e':TypeId} {z:Value} (T:rU P t e z bytes) (fM:wr.ownsRow W0.heap.size e 1 v n xs) (hb:Below W0.heap.size W0 wr)
  (u:Value) (hu:u.oneCell'=true) (hs:a.eval s=v) (hx:a.eval x=.slice (some ⟨wr.heap.size,0,none⟩) 1 1) (hn:n<1000000000)
  (h:∀ v' w',w'.ownsRow W0.heap.size e 1 v' (n+1) (xs++[u])->Below W0.heap.size W0 w'->(wr.alloc (.cells #[u] e')).grownBy w' v.ownBlock->(v'.ownBlock=v.ownBlock∨v'.ownBlock=some (wr.heap.size+1))->(∃ ad cap,v'=.slice ad (n+1) cap)->wpList P ops Q rest (a.put o.dst v') w') :
  wpList P ops Q (o :: rest) a (wr.alloc (.cells #[u] e')):=by
 obtain ⟨i0,hi,cT,bz,dW⟩:=info_parts T.info;have eS:=hb.size;refine wpList_append_own_at (wr.alloc (.cells #[u] e')) ft s x t ho W0.heap.size e i0 z 1 bytes T.ty hi cT bz dW T.zc (by decide) v n xs hs (fM.alloc _) ⟨wr.heap.size,0,none⟩ 1 1 [u] hx rfl (cell_one_new _ _ _) (by simpa using hu) (by unfold maxLen; omega) ?_ (by simp; omega) ?_
 ·have:(n+1)*bytes<=1000000000*64:=Nat.mul_le_mul (by omega) T.small
  omega
 ·intro v' w' h1 h2 h3 h4
  refine h v' w' h1 ((hb.alloc eS _).grown h2 (by simp; omega) (fun k hk=>(fM.lt k hk).1)) h2 (by simpa using h4) ?_;obtain ⟨_,hv⟩:=h1
  rcases hv with ⟨hv,s9⟩ | ⟨g,cap,cur,hv,_⟩
  ·omega
  ·exact ⟨_,_,hv⟩
theorem drewN {B:Nat} {a w:World} (h:Below B a w) (k:Nat):Below B a (w.drewN k):=⟨h.os,h.tape,h.output,h.size,h.block⟩
theorem bK {e:TypeId} {size:Nat} (h:w.ownsRow base e size v n xs) (hb:Below w.heap.size w w'):w'.ownsRow base e size v n xs :=
 h.kept (row:=none) ⟨hb.os,hb.tape,hb.output,hb.size,fun i hi _=>hb.block i hi⟩ (by cases v.ownBlock <;> simp)
def ji (v1 v2:Value):Prop:=∀ b,v1.ownBlock=some b->v2.ownBlock≠some b
theorem ji.nil (v:Value):ji (.slice none 0 0) v:=fun b h=>by simp [Value.ownBlock] at h
theorem ji.symm (h:ji v1 v2):ji v2 v1:=fun b h1 h2=>h b h2 h1
theorem ji.grow {Vv:Value} {e:TypeId} {size g:Nat} (h:ji v1 v2) (ho:w.ownsRow base e size v2 n xs) (hv:Vv.ownBlock=v1.ownBlock∨Vv.ownBlock=some g) (hg:w.heap.size<=g):ji Vv v2:=fun b h1 h2=>by
 rcases hv with hv | hv
 ·exact h b (hv▸h1) h2
 ·have:=(ho.lt b h2).2
  rw [hv] at h1; simp at h1; omega
theorem ji.keep {e:TypeId} {size:Nat} (h:ji v1 v2) (ho:w.ownsRow base e size v2 n xs) (hg:w.grownBy w' v1.ownBlock):w'.ownsRow base e size v2 n xs:=by
 refine ho.kept hg ?_
 cases hv:v2.ownBlock with
 | none=>exact .inl rfl
 | some b=>exact .inr (fun e=>h b e.symm hv)
def lr (w:World) (us:List Value) (gs:List (List Nat)):Prop:=us.length=gs.length/\∀ i (h:i<us.length) (h2:i<gs.length),NP w us[i] gs[i]
theorem lr.nil (w:World):lr w [] []:=⟨rfl,fun i h=>by simp at h⟩
theorem lr.jj {w w':World} {us:List Value} {gs:List (List Nat)} (h:lr w us gs) (hb:Below w.heap.size w w'):lr w' us gs:=⟨h.1,fun i a b=>(h.2 i a b).jj hb⟩
theorem lr.snoc {us:List Value} {g:List Nat} (h:lr w us gs) (hu:NP w u g):lr w (us++[u]) (gs++[g]):=by
 refine ⟨by simp [h.1],fun i a b=>?_⟩;have hl:=h.1
 by_cases hi:i<us.length
 ·rw [List.getElem_append_left hi,List.getElem_append_left (by omega)]; exact h.2 i hi (by omega)
 ·have jE:i=us.length:=by simp at a; omega
  have e1:(us++[u])[i]=u:=by rw [List.getElem_append_right (by omega)]; simp
  have e2:(gs++[g])[i]=g:=by rw [List.getElem_append_right (by omega)]; simp
  rw [e1,e2]; exact hu
theorem lr.rows {us:List Value} (h:lr w us gs) (hv:cS w v us):Rows w v (gs.map Ma.af) :=
 ⟨us,hv,by simp [h.1],fun i a b=>by simp only [List.getElem_map]; exact h.2 i a (by simpa using b)⟩
def pq (us:List Value) (k:Option Nat):Prop:=∀ u∈us,q7 u k
theorem pq.nil (k:Option Nat):pq [] k:=fun u h=>by simp at h
theorem pq.snoc {us:List Value} {k:Option Nat} (h:pq us k) (hu:q7 u k):pq (us++[u]) k:=fun x hx=>by
 rcases List.mem_append.1 hx with hx | hx
 ·exact h x hx
 ·obtain rfl:x=u:=by simpa using hx
  exact hu
theorem lr.grown {w w':World} {us:List Value} {gs:List (List Nat)} {k:Option Nat} (h:lr w us gs) (ho:pq us k) (hg:w.grownBy w' k):lr w' us gs :=
 ⟨h.1,fun i a b=>(h.2 i a b).grown (ho _ (List.getElem_mem a)) hg⟩
theorem pq.next {w:World} {us:List Value} {gs:List (List Nat)} {k k':Option Nat} {g:Nat} (h:pq us k) (he:lr w us gs) (hk:k'=k∨k'=some g) (hg:w.heap.size<=g):pq us k':=fun u hu=>by
 obtain ⟨i,hi,rfl⟩:=List.getElem_of_mem hu;exact (h _ hu).next (he.2 i hi (by rw [<- he.1]; exact hi)) hk hg
def mV (w:World) (v:Value) (gs:List (List Nat)):Prop:=Rows w v (gs.map Ma.af)
theorem mV.jj {w w':World} {v:Value} {gs:List (List Nat)} (h:mV w v gs) (hb:Below w.heap.size w w'):mV w' v gs:=Rows.jj h hb
theorem mV.shape {w:World} {v:Value} {gs:List (List Nat)} (h:mV w v gs) :
  ∃ a cap,v=.slice a gs.length cap/\gs.length<=cap/\gs.length<=1000000000/\cap<=maxLen /\
  (0<gs.length->∃ b o,a=some ⟨b,o,none⟩/\b<w.heap.size/\∀ i (h:i<gs.length),∃ u,w.cell? ⟨b,o+i,none⟩=some u/\NP w u gs[i]):=by
 obtain ⟨a,cap,h1,h2,h3,h4,h5⟩:=Rows.shape h;rw [List.length_map] at h1 h2 h3;refine ⟨a,cap,h1,h2,h3,h4,fun h0=>?_⟩;obtain ⟨b,o,e1,e2,e3⟩:=h5 (by simpa using h0);refine ⟨b,o,e1,e2,fun i hi=>?_⟩;obtain ⟨u,q1,q2⟩:=e3 i (by simpa using hi);exact ⟨u,q1,by rw [List.getElem_map] at q2; exact q2⟩
theorem NP.len {w:World} {v:Value} {l:List Nat} (h:NP w v l):∃ n a cap,l.length=n/\v=.slice a n cap/\n<=1000000000:=by
 obtain ⟨n,a,cap,h1,h2,h3⟩:=Ints.len h;exact ⟨n,a,cap,by rw [<- h1,Ma.az],h2,h3⟩
theorem pQ {P:Program} {ops:Array Oper} {Q:Exit->Act->World->Prop} {i:Nat} {o:Oper} {K:Act->World->Prop} {a:Act} (d:Option Tmp) (hi:ops[i]?=some o) (hd:o.dst=d) (hw:Region.wanted o (yielded ops a.tmps)=true)
  (hr:(execOp a.eval o).run P w=.ok (.value v) w') (h:K (a.put d v) w'):wpOp P ops Q i K a w:=by
 subst hd;unfold wpOp;simp only [hi,hw,if_true]
 left
 unfold Oper.wp;rw [hr];exact h
theorem xV {P:Program} {ops:Array Oper} {Q:Exit->Act->World->Prop} {i:Nat} {o:Oper} {K:Act->World->Prop} {a:Act} (d:Option Tmp) (hi:ops[i]?=some o) (hd:o.dst=d) (hw:Region.wanted o (yielded ops a.tmps)=true)
  (hr:(execOp a.eval o).run P w=.ok .skip w') (h:K (a.put d undef) w'):wpOp P ops Q i K a w:=by
 subst hd;unfold wpOp;simp only [hi,hw,if_true]
 left
 unfold Oper.wp;rw [hr];exact h
theorem aN {P:Program} {o:Oper} {a:Act} (t:TypeId) (n:Nat) (x:Operand) (ho:o.op=.buildSlice t n #[(0,x)]) (xv:Value) (hx:a.eval x=xv)
  (hr:(Instr.buildSlice t n #[(0,xv)]).run P w=.ok v w'):(execOp a.eval o).run P w=.ok (.value v) w':=by
 unfold execOp;simp [ho,hx,hr,Result.andThen]
theorem bw {P:Program} {o:Oper} {a:Act} (x:Operand) (ho:o.op=.assign x) (hx:a.eval x=v):(execOp a.eval o).run P w=.ok (.value v) w:=by
 unfold execOp;simp [ho,hx]
theorem bL {P:Program} {o:Oper} {a:Act} (x:Operand) (ho:o.op=.move x) (hx:a.eval x=v):(execOp a.eval o).run P w=.ok (.value v) w:=by
 unfold execOp;simp [ho,hx]
theorem aY {P:Program} {o:Oper} {a:Act} {cs:Array Value} (t:TypeId) (x:Operand) (ho:o.op=.box t x) (hx:a.eval x=.agg cs) :
  (execOp a.eval o).run P w=.ok (.value (.pointer (some ⟨w.heap.size,0,none⟩))) (w.alloc (.cells cs t)):=by
 unfold execOp;simp [ho,hx,Instr.box,newVar,newRow,Value.cells,Result.andThen]
theorem dt {e:TypeId} {size:Nat} (h:w.ownsRow base e size v n xs):∃ a cap,v=.slice a n cap:=by
 obtain ⟨_,hv⟩:=h
 rcases hv with ⟨hv,s9⟩ | ⟨g,cap,cur,hv,_⟩
 ·exact ⟨none,0,by rw [hv,s9]⟩
 ·exact ⟨_,_,hv⟩
end
section
theorem _root_.a7 (v : Value) {P : Program} {o : Oper} {a : Act} (x : Operand) (ho : o.op = .move x) (hx : a.eval x = v) : (execOp a.eval o).run P w = .ok (.value v) w := bL (v := v) x ho hx
theorem _root_.a8 (v : Value) {P : Program} {o : Oper} {a : Act} (x : Operand) (ho : o.op = .assign x) (hx : a.eval x = v) : (execOp a.eval o).run P w = .ok (.value v) w := bw (v := v) x ho hx
theorem _root_.c6 {P : Program} {ops : Array Oper} {Q : Exit -> Act -> World -> Prop} {a : Act} {id : Nat} (h : wpList P ops Q ops.toList a w) : (Code.region id ops false).wp P Q a w := wp_region_list h
end
end Go.Proofs.Rg
theorem U {p : Prop} (h : p) : Go.RowKit.Hid p := h
namespace Go.Proofs.Jm
open Go Go.RowKit
open Go.ChangeMaps
structure KT (P:Program) (t k e v:TypeId) (z:Value):Prop where
 ht:P.underlying t=some (.map k v)
 hk:P.underlying k=some (.array 2 e)
 he:P.underlying e=some (.int .i64)
 hs:∀ w,(sizeOf e).run P w=.ok 1 w
 hz:∀ w,(zeroValue v).run P w=.ok z w
section
variable {P:Program} {t k e v:TypeId} {z:Value}
end
end Go.Proofs.Jm
namespace Go.Proofs.Rg
section
open Go Go.RowKit
theorem fQ {P:Program} {o:Oper} {a:Act} (t:TypeId) (x:Operand) (ho:o.op=.load t x) (ad:Addr) (hx:a.eval x=.pointer (some ad)) (hr:(loadVar t ad).run P w=.ok v w) :
  (execOp a.eval o).run P w=.ok (.value v) w:=by
 unfold execOp;simp only [ho,hx,Instr.loadAt,Instr.sureAddr,Sem.run_bind,Sem.run_pure,Result.andThen_ok,hr]
theorem uR {P:Program} {ops:Array Oper} {rest:List Oper} {o:Oper} {a:Act} {Q:Exit->Act->World->Prop} (d:Option Tmp) (hg:o.guard=none) (hd:o.dst=d)
  (hr:(execOp a.eval o).run P w=.ok (.value v) w') (h:wpList P ops Q rest (a.put d v) w'):wpList P ops Q (o :: rest) a w:=by
 subst hd;refine wpList_plain hg fun K hK=>?_;unfold Oper.wp;rw [hr];exact hK _ _ h
theorem aA {P:Program} {ops:Array Oper} {rest:List Oper} {o:Oper} {a:Act} {Q:Exit->Act->World->Prop} (d:Option Tmp) (hg:o.guard=none) (hd:o.dst=d)
  (hr:(execOp a.eval o).run P w=.ok .skip w') (h:wpList P ops Q rest (a.put d undef) w'):wpList P ops Q (o :: rest) a w:=by
 subst hd;refine wpList_plain hg fun K hK=>?_;unfold Oper.wp;rw [hr];exact hK _ _ h
end
section
open Go.RowKit
theorem _root_.d4 {P : Program} {ops : Array Oper} {rest : List Oper} {o : Oper} {a : Act} {Q : Exit -> Act -> World -> Prop} (d : Nat)
    (hr : (execOp a.eval o).run P w = .ok (.value v) w') (h : wpList P ops Q rest (a.put (some d) v) w') (hg : o.guard = none := by exact rfl) (hd : o.dst = some d := by exact rfl) : wpList P ops Q (o :: rest) a w := uR (some d) hg hd hr h
theorem _root_.d5 {P : Program} {ops : Array Oper} {rest : List Oper} {o : Oper} {a : Act} {Q : Exit -> Act -> World -> Prop} (d : Nat) (v : Value)
    (h : wpList P ops Q rest (a.put (some d) v) w) {x : Operand} (ho : o.op = .move x := by exact rfl) (hx : a.eval x = v := by exact rfl) (hg : o.guard = none := by exact rfl) (hd : o.dst = some d := by exact rfl) : wpList P ops Q (o :: rest) a w := uR (some d) hg hd (bL (v := v) x ho hx) h
theorem _root_.d6 {P : Program} {ops : Array Oper} {rest : List Oper} {o : Oper} {a : Act} {Q : Exit -> Act -> World -> Prop} (d : Nat) (v : Value)
    (h : wpList P ops Q rest (a.put (some d) v) w) {x : Operand} (ho : o.op = .assign x := by exact rfl) (hx : a.eval x = v := by exact rfl) (hg : o.guard = none := by exact rfl) (hd : o.dst = some d := by exact rfl) : wpList P ops Q (o :: rest) a w := uR (some d) hg hd (bw (v := v) x ho hx) h
end
section
open Go Go.RowKit
structure Kp (M:Nat->Prop) (w w':World):Prop where
 os:w'.os=w.os
 tape:w'.tape=w.tape
 output:w'.output=w.output
 size:w.heap.size<=w'.heap.size
 block:∀ k,k<w.heap.size->¬ M k->w'.heap[k]?=w.heap[k]?
theorem Kp.refl (M:Nat->Prop) (w:World):Kp M w w:=⟨rfl,rfl,rfl,Nat.le_refl _,fun _ _ _=>rfl⟩
theorem Kp.aC (h:Below w.heap.size w w'):Kp M w w':=⟨h.os,h.tape,h.output,h.size,fun k hk _=>h.block k hk⟩
theorem Kp.dc {row:Option Nat} (h:w.grownBy w' row) (hM:∀ k,row=some k->M k):Kp M w w' :=
 ⟨h.os,h.tape,h.output,h.size,fun k hk hn=>h.block k hk (fun e=>hn (hM k e.symm))⟩
theorem Kp.aO {a:Addr} (hM:M a.block):Kp M w (w.setCell a v) :=
 ⟨rfl,rfl,rfl,by simp [World.setCell],fun k _ hn=>Below.heap_setCell _ _ _ _ (fun e=>hn (e▸hM))⟩
theorem Kp.trans {M M':Nat->Prop} {w w' w'':World} (h:Kp M w w') (h':Kp M' w' w'') (hM:∀ k,k<w.heap.size->M' k->M k):Kp M w w'' :=
 ⟨h'.os.trans h.os,h'.tape.trans h.tape,h'.output.trans h.output,Nat.le_trans h.size h'.size,
  fun k hk hn=>(h'.block k (Nat.lt_of_lt_of_le hk h.size) (fun e=>hn (hM k hk e))).trans (h.block k hk hn)⟩
theorem Kp.kF {M':Nat->Prop} (h:Kp M w w') (hM:∀ k,M k->M' k):Kp M' w w':=⟨h.os,h.tape,h.output,h.size,fun k hk hn=>h.block k hk (fun e=>hn (hM k e))⟩
theorem Kp.jj (hb:Below w0.heap.size w0 w) (h:Kp M w w') (hM:∀ k,M k->w0.heap.size<=k):Below w0.heap.size w0 w' :=
 hb.trans ⟨h.os,h.tape,h.output,h.size,fun k hk=>h.block k (Nat.lt_of_lt_of_le hk hb.size) (fun e=>by have:=hM k e; omega)⟩
def cW (F:Nat->Prop) (w:World) (v:Value) (us:List Value):Prop :=
 ∃ a cap,v=.slice a us.length cap/\us.length<=cap/\cap<=maxLen/\us.length<=1000000000 /\
  (0<us.length->∃ b o,a=some ⟨b,o,none⟩/\b<w.heap.size/\F b/\∀ i (h:i<us.length),w.cell? ⟨b,o+i,none⟩=some us[i])
def FI (F:Nat->Prop) (w:World) (v:Value) (l:List Int):Prop:=cW F w v (l.map (Value.int .i64))
def bE (F:Nat->Prop) (w:World) (us:List Value) (ll:List (List Int)):Prop:=us.length=ll.length/\∀ i (h:i<us.length) (h2:i<ll.length),FI F w us[i] ll[i]
def aG (F:Nat->Prop) (w:World) (v:Value) (ll:List (List Int)):Prop:=∃ us,cW F w v us/\bE F w us ll
def bH (F:Nat->Prop) (w:World) (us:List Value) (ll:List (List (List Int))):Prop:=us.length=ll.length/\∀ i (h:i<us.length) (h2:i<ll.length),aG F w us[i] ll[i]
theorem cW.kp {us:List Value} (h:cW F w v us) (hk:Kp M w w') (hM:∀ k,F k->¬ M k):cW F w' v us:=by
 obtain ⟨a,cap,h1,h2,h3,h4,h5⟩:=h;refine ⟨a,cap,h1,h2,h3,h4,fun h0=>?_⟩;obtain ⟨b,o,e1,e2,e3,e4⟩:=h5 h0;exact ⟨b,o,e1,Nat.lt_of_lt_of_le e2 hk.size,e3,fun i hi=>(World.cell?_of_block (w:=w) (a:=⟨b,o+i,none⟩) (hk.block b e2 (hM b e3))).trans (e4 i hi)⟩
theorem cW.mono {us:List Value} (h:cW F w v us) (hF:∀ k,F k->F' k):cW F' w v us:=by
 obtain ⟨a,cap,h1,h2,h3,h4,h5⟩:=h;refine ⟨a,cap,h1,h2,h3,h4,fun h0=>?_⟩;obtain ⟨b,o,e1,e2,e3,e4⟩:=h5 h0;exact ⟨b,o,e1,e2,hF b e3,e4⟩
theorem cW.Er {us:List Value} (h:cW F w v us):cS w v us:=by
 obtain ⟨a,cap,h1,h2,h3,h4,h5⟩:=h;refine ⟨a,cap,h1,h2,h3,h4,fun h0=>?_⟩;obtain ⟨b,o,e1,e2,e3,e4⟩:=h5 h0;exact ⟨b,o,e1,e2,e4⟩
theorem cW.of {us:List Value} (h:cS w v us) (hF:∀ b,v.ownBlock=some b->F b):cW F w v us:=by
 obtain ⟨a,cap,h1,h2,h3,h4,h5⟩:=h;refine ⟨a,cap,h1,h2,h3,h4,fun h0=>?_⟩;obtain ⟨b,o,e1,e2,e4⟩:=h5 h0;exact ⟨b,o,e1,e2,hF b (by rw [h1,e1]; rfl),e4⟩
theorem cW.shape {us:List Value} (h:cW F w v us):∃ a cap,v=.slice a us.length cap:=by
 obtain ⟨a,cap,h1,_⟩:=h; exact ⟨a,cap,h1⟩
theorem FI.kp {F M:Nat->Prop} {w w':World} {v:Value} {l:List Int} (h:FI F w v l) (hk:Kp M w w') (hM:∀ k,F k->¬ M k):FI F w' v l:=cW.kp h hk hM
theorem FI.mono {F F':Nat->Prop} {w:World} {v:Value} {l:List Int} (h:FI F w v l) (hF:∀ k,F k->F' k):FI F' w v l:=cW.mono h hF
theorem FI.ints {l:List Int} (h:FI F w v l):Ints w v l:=cW.Er h
theorem FI.len {F:Nat->Prop} {w:World} {v:Value} {l:List Int} (h:FI F w v l):∃ n a cap,l.length=n/\v=.slice a n cap/\n<=1000000000:=Ints.len h.ints
theorem bE.kp {F M:Nat->Prop} {w w':World} {us:List Value} {ll:List (List Int)} (h:bE F w us ll) (hk:Kp M w w') (hM:∀ k,F k->¬ M k):bE F w' us ll:=⟨h.1,fun i a b=>(h.2 i a b).kp hk hM⟩
theorem bE.mono {F F':Nat->Prop} {w:World} {us:List Value} {ll:List (List Int)} (h:bE F w us ll) (hF:∀ k,F k->F' k):bE F' w us ll:=⟨h.1,fun i a b=>(h.2 i a b).mono hF⟩
theorem bE.nil (F:Nat->Prop) (w:World):bE F w [] []:=⟨rfl,fun i h=>by simp at h⟩
theorem bE.app {us vs:List Value} {mm:List (List Int)} (h:bE F w us ll) (h':bE F w vs mm):bE F w (us++vs) (ll++mm):=by
 refine ⟨by simp [h.1,h'.1],fun i a b=>?_⟩;have hl:=h.1
 by_cases hi:i<us.length
 ·rw [List.getElem_append_left hi,List.getElem_append_left (by omega)]; exact h.2 i hi (by omega)
 ·have Aa:¬ i<ll.length:=by omega
  rw [List.getElem_append_right (by omega),List.getElem_append_right (by omega)];have:=h'.2 (i - us.length) (by simp at a; omega) (by simp at b; omega);simp only [hl] at this ⊢;exact this
theorem bE.one {l:List Int} (h:FI F w u l):bE F w [u] [l]:=by
 refine ⟨rfl,fun i a b=>?_⟩
 have:i=0:=by simpa using a
 subst this; exact h
theorem bE.take {F:Nat->Prop} {w:World} {us:List Value} {ll:List (List Int)} (h:bE F w us ll) (k:Nat):bE F w (us.take k) (ll.take k):=by
 refine ⟨by simp [h.1],fun i a b=>?_⟩;rw [List.getElem_take,List.getElem_take];exact h.2 i (by simp at a; omega) (by simp at b; omega)
theorem bE.drop {F:Nat->Prop} {w:World} {us:List Value} {ll:List (List Int)} (h:bE F w us ll) (k:Nat):bE F w (us.drop k) (ll.drop k):=by
 refine ⟨by simp [h.1],fun i a b=>?_⟩;rw [List.getElem_drop,List.getElem_drop];exact h.2 (k+i) (by simp at a; omega) (by simp at b; omega)
theorem aG.kp {F M:Nat->Prop} {w w':World} {v:Value} {ll:List (List Int)} (h:aG F w v ll) (hk:Kp M w w') (hM:∀ k,F k->¬ M k):aG F w' v ll:=by
 obtain ⟨us,h1,h2⟩:=h; exact ⟨us,h1.kp hk hM,h2.kp hk hM⟩
theorem aG.mono {F F':Nat->Prop} {w:World} {v:Value} {ll:List (List Int)} (h:aG F w v ll) (hF:∀ k,F k->F' k):aG F' w v ll:=by
 obtain ⟨us,h1,h2⟩:=h; exact ⟨us,h1.mono hF,h2.mono hF⟩
theorem aG.rows (h:aG F w v ll):Rows w v ll:=by
 obtain ⟨us,h1,h2⟩:=h; exact ⟨us,h1.Er,h2.1,fun i a b=>(h2.2 i a b).ints⟩
theorem aG.shape (h:aG F w v ll) :
  ∃ a cap,v=.slice a ll.length cap/\ll.length<=cap/\ll.length<=1000000000 /\
  (0<ll.length->∃ b o,a=some ⟨b,o,none⟩/\b<w.heap.size/\F b/\∀ i (h:i<ll.length),∃ u,w.cell? ⟨b,o+i,none⟩=some u/\FI F w u ll[i]):=by
 obtain ⟨us,⟨a,cap,h1,h2,h3,h4,h5⟩,hl,h6⟩:=h;rw [hl] at h1 h2 h4;refine ⟨a,cap,h1,h2,h4,fun h0=>?_⟩;obtain ⟨b,o,e1,e2,e3,e4⟩:=h5 (by omega);exact ⟨b,o,e1,e2,e3,fun i hi=>⟨us[i],e4 i (by omega),h6 i (by omega) hi⟩⟩
theorem bH.kp {F M:Nat->Prop} {w w':World} {us:List Value} {ll:List (List (List Int))} (h:bH F w us ll) (hk:Kp M w w') (hM:∀ k,F k->¬ M k):bH F w' us ll:=⟨h.1,fun i a b=>(h.2 i a b).kp hk hM⟩
theorem bH.mono {F F':Nat->Prop} {w:World} {us:List Value} {ll:List (List (List Int))} (h:bH F w us ll) (hF:∀ k,F k->F' k):bH F' w us ll:=⟨h.1,fun i a b=>(h.2 i a b).mono hF⟩
theorem bH.snoc {us:List Value} {ll:List (List (List Int))} {m:List (List Int)} (h:bH F w us ll) (hu:aG F w u m):bH F w (us++[u]) (ll++[m]):=by
 refine ⟨by simp [h.1],fun i a b=>?_⟩;have hl:=h.1
 by_cases hi:i<us.length
 ·rw [List.getElem_append_left hi,List.getElem_append_left (by omega)]; exact h.2 i hi (by omega)
 ·have jE:i=us.length:=by simp at a; omega
  subst jE
  have e1:(us++[u])[us.length]=u:=by rw [List.getElem_append_right (Nat.le_refl _)]; simp
  have e2:(ll++[m])[us.length]'b=m:=by
   have:us.length=ll.length:=hl;rw [List.getElem_append_right (by omega)]; simp
  rw [e1,e2]; exact hu
theorem FI.nH {l:List Int} (h:Ints w v l):FI (fun k=>k<w.heap.size) w v l:=by
 obtain ⟨a,cap,h1,h2,h3,h4,h5⟩:=h;refine ⟨a,cap,h1,h2,h3,h4,fun h0=>?_⟩;obtain ⟨b,o,e1,e2,e4⟩:=h5 h0;exact ⟨b,o,e1,e2,e2,e4⟩
theorem aG.nH {w:World} {v:Value} {ll:List (List Int)} (h:Rows w v ll):aG (fun k=>k<w.heap.size) w v ll:=by
 obtain ⟨us,⟨a,cap,h1,h2,h3,h4,h5⟩,h6,h7⟩:=h;refine ⟨us,⟨a,cap,h1,h2,h3,h4,fun h0=>?_⟩,h6,fun i p q=>FI.nH (h7 i p q)⟩;obtain ⟨b,o,e1,e2,e4⟩:=h5 h0;exact ⟨b,o,e1,e2,e2,e4⟩
theorem LP {e:TypeId} {us:List Value} {L:List (List Int)} (hr:w.ownsRow base e 1 v n us) (he:bE F w us L) :
  n=L.length/\∃ a cap,v=.slice a L.length cap/\L.length<=cap/\cap<=maxLen/\(0<L.length->∃ g,a=some ⟨g,0,none⟩/\g<w.heap.size/\∀ i (h:i<L.length),∃ u,w.cell? ⟨g,i,none⟩=some u/\FI F w u L[i]):=by
 have hh:=hr;obtain ⟨h1,h2⟩:=hr
 have hn:n=L.length:=by have:=he.1; omega
 refine ⟨hn,?_⟩;subst hn
 rcases h2 with ⟨rfl,h0⟩ | ⟨g,cap,cur,rfl,hg,hc,h3,h4,h5,h6⟩
 ·exact ⟨none,0,by rw [h0],by omega,by omega,fun h=>by omega⟩
 ·refine ⟨_,cap,rfl,h3,h4,fun _=>⟨g,rfl,(Array.getElem?_eq_some_iff.1 hc).1,fun i hi=>?_⟩⟩
  have jE:i<us.length:=by have:=he.1; omega
  refine ⟨us[i],?_,he.2 i jE hi⟩;have:=hh.cells (g:=g) rfl i us[i] (List.getElem?_eq_getElem jE);unfold Addr.add at this
  split at this
  ·rename_i h0; subst h0; exact this
  ·simpa using this
theorem bE.NW {us:List Value} (h:bE F w us ll):∀ u∈us,u.oneCell'=true:=fun u hu=>by
 obtain ⟨i,hi,rfl⟩:=List.getElem_of_mem hu;obtain ⟨n,a,c,_,e,_⟩:=(h.2 i hi (by rw [<- h.1]; exact hi)).len;rw [e]; rfl
variable {P:Program} {md:Region.Mode} {ops:Array Oper} {Q:Exit->Act->World->Prop} {S:Array Bool->World->Prop}
def Any (P:Program) (md:Region.Mode) (ops:Array Oper) (Q:Exit->Act->World->Prop) (S:Array Bool->World->Prop):Nat->Array Bool->Act->World->Prop
 | 0,l,a,w=>Region.ready md ops l=[]/\Q .normal a w
 | n+1,l,a,w=>(Region.ready md ops l=[]->Q .normal a w) /\
   ∀ i,i∈Region.ready md ops l->wpOp P ops Q i (fun a' w'=>S (l.setIfInBounds i true) w'/\Any P md ops Q S n (l.setIfInBounds i true) a' w') a w
theorem Any.plain:∀ (n:Nat) (l:Array Bool) (a:Act) (w:World),Any P md ops Q S n l a w->wpAny P md ops Q n l a w
 | 0,_,_,_,h=>h
 | n+1,_,_,_,h=>⟨h.1,fun i hi=>wpOp_mono (fun a' w' q=>Any.plain n _ a' w' q.2) (h.2 i hi)⟩
theorem Any.begin {id:Nat} {a:Act} (hm:P.follows .mixedOrders=true) (h:Any P .any ops Q S ops.size (Array.replicate ops.size false) a w.drew):(Code.region id ops true).wp P Q a w :=
 wp_region_any hm (Any.plain _ _ _ _ h)
theorem Any.all {rs:List Nat} {l:Array Bool} {a:Act} (hr:Region.ready md ops l=rs) (hne:rs≠[])
  (h:∀ i∈rs,wpOp P ops Q i (fun a' w'=>S (l.setIfInBounds i true) w'/\Any P md ops Q S n (l.setIfInBounds i true) a' w') a w):Any P md ops Q S (n+1) l a w :=
 ⟨fun h0=>absurd (hr▸h0) hne,fun i hi=>h i (hr▸hi)⟩
theorem Any.one {i:Nat} {l:Array Bool} {a:Act} (hr:Region.ready md ops l=[i])
  (h:wpOp P ops Q i (fun a' w'=>S (l.setIfInBounds i true) w'/\Any P md ops Q S n (l.setIfInBounds i true) a' w') a w):Any P md ops Q S (n+1) l a w :=
 Any.all hr (by simp) (fun j hj=>by
  obtain rfl:j=i:=by simpa using hj
  exact h)
theorem Any.two {i:Nat} {l:Array Bool} {a:Act} (hr:Region.ready md ops l=[i,j])
  (h:wpOp P ops Q i (fun a' w'=>S (l.setIfInBounds i true) w'/\Any P md ops Q S n (l.setIfInBounds i true) a' w') a w)
  (h':wpOp P ops Q j (fun a' w'=>S (l.setIfInBounds j true) w'/\Any P md ops Q S n (l.setIfInBounds j true) a' w') a w):Any P md ops Q S (n+1) l a w :=
 Any.all hr (by simp) (fun k hk=>by
  rw [List.mem_cons,List.mem_singleton] at hk
  rcases hk with rfl | rfl
  ·exact h
  ·exact h')
theorem Any.done {l:Array Bool} {a:Act} (hr:Region.ready md ops l=[]) (h:Q .normal a w):∀ n,Any P md ops Q S n l a w
 | 0=>⟨hr,h⟩
 | n+1=>⟨fun _=>h,by rw [hr]; exact fun i hi=>by simp at hi⟩
def iJ (t:Nat) (T:World->Prop) (l:Array Bool) (w:World):Prop:=l.getD t false=true∨T w
theorem Any.first {i t:Nat} {oi ot:Oper} {T:World->Prop} (hi:ops[i]?=some oi) (wH:∀ (j:Nat) (o:Oper) cs b,ops[j]?=some o->o.op≠.select cs b)
  (hQ:∀ c a w,Q (.panic c) (a.put oi.dst v) w->Q (.panic c) a w) (pD:t≠i) (ht:ops[t]?=some ot) (hw:∃ e∈ot.after,Region.binds md e=true/\e.on=i) :
  ∀ (n:Nat) (l:Array Bool) (a:Act) (w:World),l.getD t false=false ->
   (∀ j oj,ops[j]?=some oj->j≠i->l.getD j true=false->(∀ e∈oj.after,Region.binds md e=true->e.on≠i)->oi.apart ops oj=true) ->
   i∈Region.ready md ops l->YieldsIf P ops T oi v a->T w ->
   Any P md ops Q (iJ t T) n (l.setIfInBounds i true) (a.put oi.dst v) w->Any P md ops Q (iJ t T) (n+1) l a w:=by
 intro n
 induction n with
 | zero =>
  intro l a w _ _ hr hy hT H;refine ⟨fun h0=>absurd (h0▸hr) (by simp),fun j hj=>?_⟩
  by_cases j6:j=i
  ·subst j6; exact hy.wpOp hi hT ⟨.inr hT,H⟩
  ·have kG:=ready_mono hj j6
   rw [H.1] at kG;simp at kG
 | succ n ih =>
  intro l a w hl pR hr hy hT H;refine ⟨fun h0=>absurd (h0▸hr) (by simp),fun j hj=>?_⟩
  by_cases j6:j=i
  ·subst j6; exact hy.wpOp hi hT ⟨.inr hT,H⟩
  obtain ⟨xW,oj,rV,s_⟩:=mem_ready.1 hj;have oy:=(mem_ready.1 hr).1
  have oz:∀ e∈oj.after,Region.binds md e=true->e.on≠i:=by
   intro e he hb heq;have h1:=s_ e he hb;rw [heq] at h1
   by_cases aB:i<l.size
   ·simp [aB] at h1 oy; rw [oy] at h1; cases h1
   ·simp [Array.getElem?_eq_none (Nat.le_of_not_lt aB)] at h1
  have Vw:j≠t:=by
   rintro rfl;obtain ⟨e,he,hb,heq⟩:=hw;rw [ht] at rV; cases rV;exact oz e he hb heq
  have oA:=wpOp_putIf rV (pR j oj rV j6 xW oz) (fun cs b=>wH i oi cs b hi) (fun cs b=>wH j oj cs b rV) hQ hy (H.2 j (ready_mono hj j6));refine wpOp_mono (fun a' w' q=>?_) oA;obtain ⟨uS,Es,Et⟩:=q;rw [Array.setIfInBounds_comm _ _ (Ne.symm j6)] at Es Et
  have Aa:(l.setIfInBounds j true).getD i true=false:=by rw [getD_set_ne true j6]; exact oy
  have lC:(l.setIfInBounds j true).getD t false=false:=by rw [getD_set_ne false Vw]; exact hl
  have Yu:T w':=by
   rcases Es with h | h
   ·rw [getD_set_ne false (Ne.symm pD),lC] at h; cases h
   ·exact h
  refine ⟨.inr Yu,ih _ _ _ lC ?_ (ready_mono hr (Ne.symm j6)) uS Yu Et⟩;intro k ok hk LQ Eu Ev;refine pR k ok hk LQ ?_ Ev
  by_cases Ew:j=k
  ·rw [<- Ew]; exact xW
  ·rwa [getD_set_ne true Ew] at Eu
theorem Any.take {i t:Nat} {oi:Oper} {T:World->Prop} {l:Array Bool} {a:Act} (d:Option Tmp) (hi:ops[i]?=some oi) (hd:oi.dst=d)
  (hs:Region.noSelect ops=true) (hf:Region.free md ops l i=true) (hr:(Region.ready md ops l).contains i=true)
  (hQ:∀ c a w,Q (.panic c) (a.put d v) w->Q (.panic c) a w) (pD:(t == i)=false) (hw:Region.waitsFor md ops t i=true) (hl:l.getD t false=false)
  (hy:YieldsIf P ops T oi v a) (hT:T w)
  (h:Any P md ops Q (iJ t T) n (l.setIfInBounds i true) (a.put d v) w):Any P md ops Q (iJ t T) (n+1) l a w:=by
 subst hd;obtain ⟨ot,ht,hw⟩:=Region.waitsFor_spec hw;exact Any.first hi (Region.noSelect_spec hs) hQ (by simpa using pD) ht hw n l a w hl (Region.free_spec hi hf) (by simpa using hr) hy hT h
variable {P:Program} {md:Region.Mode} {ops:Array Oper} {Q:Exit->Act->World->Prop}
theorem iJ.set {t i:Nat} {T:World->Prop} {l:Array Bool} (pD:t≠i):iJ t T (l.setIfInBounds i true) w↔iJ t T l w:=by
 unfold iJ;rw [getD_set_ne false (Ne.symm pD)]
theorem Any.step {i t:Nat} {oi:Oper} {T:World->Prop} {l:Array Bool} {a:Act} (d:Option Tmp) (hi:ops[i]?=some oi) (hd:oi.dst=d) (hw:Region.wanted oi (yielded ops a.tmps)=true)
  (hr:(execOp a.eval oi).run P w=.ok (.value v) w') (hT:iJ t T (l.setIfInBounds i true) w') (h:Any P md ops Q (iJ t T) n (l.setIfInBounds i true) (a.put d v) w') :
  wpOp P ops Q i (fun a' w'=>iJ t T (l.setIfInBounds i true) w'/\Any P md ops Q (iJ t T) n (l.setIfInBounds i true) a' w') a w:=pQ d hi hd hw hr ⟨hT,h⟩
theorem Any.skip {i t:Nat} {oi:Oper} {T:World->Prop} {l:Array Bool} {a:Act} (d:Option Tmp) (hi:ops[i]?=some oi) (hd:oi.dst=d) (hw:Region.wanted oi (yielded ops a.tmps)=true)
  (hr:(execOp a.eval oi).run P w=.ok .skip w') (hT:iJ t T (l.setIfInBounds i true) w') (h:Any P md ops Q (iJ t T) n (l.setIfInBounds i true) (a.put d undef) w') :
  wpOp P ops Q i (fun a' w'=>iJ t T (l.setIfInBounds i true) w'/\Any P md ops Q (iJ t T) n (l.setIfInBounds i true) a' w') a w:=xV d hi hd hw hr ⟨hT,h⟩
theorem Cd {o:Oper} {a:Act} {T:World->Prop} (t:TypeId) (x:Operand) (hg:Region.wanted o (yielded ops a.tmps)=true) (ho:o.op=.load t x) (ad:Addr) (hx:a.eval x=.pointer (some ad)) (hr:∀ w,T w->(loadVar t ad).run P w=.ok v w):YieldsIf P ops T o v a :=
 .inl ⟨hg,fun w hw=>fQ t x ho ad hx (hr w hw)⟩
theorem bF {o:Oper} {a:Act} (s x:Operand) (t:TypeId) (ho:o.op=.call { callee:=.builtin .append,args:=#[s,x],argTypes:=#[t,t] }) {vs vx:Value} (hs:a.eval s=vs) (hx:a.eval x=vx)
  (hr:(Builtin.append_ #[t,t] o.type #[vs,vx]).run P w=.ok v w'):(execOp a.eval o).run P w=.ok (.value v) w':=by
 unfold execOp;simp only [ho,resolve,invoke,builtin,Sem.run_bind,Sem.run_pure,Result.andThen_ok,List.map_toArray,List.map_cons,List.map_nil,hs,hx,hr]
theorem ai {o:Oper} {a:Act} (t:TypeId) (x y:Operand) (ho:o.op=.store t x y) (ad:Addr) (hx:a.eval x=.pointer (some ad)) (v:Value) (hv:a.eval y=v) (hr:(storeVar t ad v).run P w=.ok () w') :
  (execOp a.eval o).run P w=.ok .skip w':=by
 unfold execOp;simp only [ho,hx,hv,Instr.storeAt,Instr.sureAddr,Sem.run_bind,Sem.run_pure,Result.andThen_ok,hr]
theorem tj {P:Program} (base:Nat) (t ty e:TypeId) (i:TypeInfo) (size c:Nat) (ht:P.underlying t=some (.slice e)) (hi:P.info? e=some i)
  (v:Value) (n:Nat) (xs:List Value) (fM:w.ownsRow base e size v n xs):(Builtin.append_ #[t,t] ty #[v,.slice none 0 c]).run P w=.ok v w:=by
 rcases fM.2 with ⟨rfl,rfl⟩ | ⟨g,cap,cur,rfl,_,_,Yv,_⟩
 ·simp [Builtin.append_,run_underlying ht,sizeOf,typeInfo,hi,Builtin.lenOf,Builtin.firstCells]
 ·simp [Builtin.append_,run_underlying ht,sizeOf,typeInfo,hi,Builtin.lenOf,Builtin.firstCells,Yv,storeCells]

theorem ae {P:Program} (t e:TypeId) (ht:P.underlying t=some (.slice e)) {ad:Addr} (h:w.cell? ad=some v):(loadVar t ad).run P w=.ok v w:=by
 simp [loadVar,isAgg,run_underlying ht,load];simp [Sem.run,h]
theorem br {P:Program} (t:TypeId) {z:Value} {y:Nat} (hs:(P.info? t).map (fun i=>(i.zero,i.size,i.bytes))=some (some z,1,y)) {b o c:Nat} {a:Option Addr} (h:w.cell? ⟨b,o,none⟩=some u) (hf:w.frozen? ⟨b,o,none⟩=false) :
  (storeVar t ⟨b,o,none⟩ (.slice a n c)).run P w=.ok () (w.setCell ⟨b,o,none⟩ (.slice a n c)):=by
 obtain ⟨i0,hi,cT,bz,dW⟩:=info_parts hs
 have h0:(⟨b,o,none⟩:Addr).add 0=⟨b,o,none⟩:=by simp [Addr.add]
 simp [storeVar,sizeOf,typeInfo,hi,bz,Value.cells,storeCells,store,h0];simp [Sem.run,h,hf]
theorem tq {P:Program} {t e:TypeId} {z:Value} (T:rU P t e z bytes) (w:World) (b o len cap i:Nat) (hi:i<len):(Instr.indexAt t (.slice (some ⟨b,o,none⟩) len cap) (.int .i64 (i:Int))).run P w=.ok (.pointer (some ⟨b,o+i,none⟩)) w:=by
 obtain ⟨i0,oy,cT,bz,dW⟩:=info_parts T.info;have h1:(0:Int)<=(i:Int)/\(i:Int)<(len:Int):=⟨by omega,by omega⟩;simp [Instr.indexAt,asIntOf,run_underlying T.ty,sizeOf,typeInfo,oy,bz,h1,Addr.add];rw [if_pos hi]
 by_cases h0:i=0
 ·subst h0; simp
 ·rw [if_neg h0]
theorem aJ {P:Program} {ops:Array Oper} {S:World->Prop} {o:Oper} {a:Act} {t e:TypeId} {z:Value} (T:rU P t e z bytes) (x y:Operand) (hg:Region.wanted o (yielded ops a.tmps)=true) (ho:o.op=.indexAddr t x y) (b of len cap i:Nat) (hx:a.eval x=.slice (some ⟨b,of,none⟩) len cap) (hy:a.eval y=.int .i64 (i:Int)) (hi:i<len) :
  YieldsIf P ops S o (.pointer (some ⟨b,of+i,none⟩)) a:=by
 refine .inl ⟨hg,fun w _=>?_⟩;have:=tq T w b of len cap i hi;unfold execOp;simp only [ho,hx,hy,Sem.run_bind,Sem.run_pure,Result.andThen_ok,this]
theorem oB {P:Program} {o:Oper} {a:Act} {t e:TypeId} {z:Value} (T:rU P t e z bytes) (ho:o.op=.buildSlice t 0 #[]) (X:World):(execOp a.eval o).run P X=.ok (.value (.slice (some ⟨X.heap.size,0,none⟩) 0 0)) (X.alloc (.cells #[] e)):=by
 obtain ⟨i0,hi,cT,bz,dW⟩:=info_parts T.info;have h0:Array.range (0*1)=#[]:=rfl;unfold execOp;simp [ho,Instr.buildSlice,run_underlying T.ty,sizeOf,typeInfo,hi,newRow,h0,Instr.fill,Result.andThen]
theorem uT {P:Program} {t e:TypeId} {z:Value} (T:rU P t e z bytes) (ty:TypeId) {us:List Value} (fM:X.ownsRow B e 1 v n xs) (hX:B<=X.heap.size)
  (rW:cS X xv us) (h1:∀ u∈us,u.oneCell'=true) (hn:n+us.length<1000000000) :
  ∃ v' X',(Builtin.append_ #[t,t] ty #[v,xv]).run P X=.ok v' X'/\X'.ownsRow B e 1 v' (n+us.length) (xs++us)/\X.grownBy X' v.ownBlock:=by
 obtain ⟨i0,hi,cT,bz,dW⟩:=info_parts T.info;obtain ⟨ad,cap,rfl,q2,q3,q4,q5⟩:=rW
 cases ad with
 | none =>
  have h0:us=[]:=by
   cases us with
   | nil=>rfl
   | cons u r=>obtain ⟨b,o,e1,_⟩:=q5 (by simp); cases e1
  subst h0;exact ⟨v,X,tj (P:=P) (w:=X) B t ty e i0 1 cap T.ty hi v n xs fM,by simpa using fM,⟨rfl,rfl,rfl,Nat.le_refl _,fun _ _ _=>rfl⟩⟩
 | some ad =>
  obtain ⟨v',w',hr,h2,h3,h4,h5⟩:=run_append_own_at (P:=P) X B t ty e i0 z 1 bytes T.ty hi cT bz dW T.zc (by decide) v n xs fM ad us.length cap us (by omega) (fun j u hu=>by
   have hj:=(List.getElem?_eq_some_iff.1 hu).1;obtain ⟨b,o,e1,e2,e3⟩:=q5 (by omega);simp at e1; subst e1
   rw [Addr.add_mid,e3 j hj,<- hu,List.getElem?_eq_getElem hj]) h1 (by unfold maxLen; omega) (by have:(n+us.length)*bytes<=1000000000*64:=Nat.mul_le_mul (by omega) T.small; omega) hX
  exact ⟨v',w',hr,h2,h3⟩
theorem Any.call {P:Program} {md:Region.Mode} {ops:Array Oper} {Q:Exit->Act->World->Prop} {i t:Nat} {oi:Oper} {T:World->Prop} {l:Array Bool} {a:Act} (d:Option Tmp) (hi:ops[i]?=some oi) (hd:oi.dst=d) (hw:Region.wanted oi (yielded ops a.tmps)=true) (f:FuncId) (args:Array Value)
  (hr:(execOp a.eval oi).run P w=.ok (.enter f args) w)
  (hc:Calls P f args w fun e w'=>∃ v,e=.returned v/\iJ t T (l.setIfInBounds i true) w'/\Any P md ops Q (iJ t T) n (l.setIfInBounds i true) (a.put d v) w') :
  wpOp P ops Q i (fun a' w'=>iJ t T (l.setIfInBounds i true) w'/\Any P md ops Q (iJ t T) n (l.setIfInBounds i true) a' w') a w:=by
 subst hd;unfold wpOp;simp only [hi,hw,if_true]
 left
 unfold Oper.wp;rw [hr,Oper.upon_enter];refine hc.mono fun e w' ⟨v,h1,h2,h3⟩=>?_;subst h1;exact ⟨h2,h3⟩
variable {P:Program} {md:Region.Mode} {ops:Array Oper} {Q:Exit->Act->World->Prop} {S:Array Bool->World->Prop}
theorem Any.Sl {i t:Nat} {oi ot:Oper} {T:World->Prop} (hi:ops[i]?=some oi) (wH:∀ (j:Nat) (o:Oper) cs b,ops[j]?=some o->o.op≠.select cs b)
  (hQ:∀ c a w,Q (.panic c) (a.put oi.dst v) w->Q (.panic c) a w) (pD:t≠i) (ht:ops[t]?=some ot) (hw:∃ e∈ot.after,Region.binds md e=true/\e.on=i)
  (hS:∀ l w,S (l.setIfInBounds i true) w↔S l w) (N1:∀ l w,l.getD t false=false->S l w->T w) :
  ∀ (n:Nat) (l:Array Bool) (a:Act) (w:World),l.getD t false=false ->
   (∀ j oj,ops[j]?=some oj->j≠i->l.getD j true=false->(∀ e∈oj.after,Region.binds md e=true->e.on≠i)->oi.apart ops oj=true) ->
   i∈Region.ready md ops l->YieldsIf P ops T oi v a->S l w ->
   Any P md ops Q S n (l.setIfInBounds i true) (a.put oi.dst v) w->Any P md ops Q S (n+1) l a w:=by
 intro n
 induction n with
 | zero =>
  intro l a w hl _ hr hy hT H;refine ⟨fun h0=>absurd (h0▸hr) (by simp),fun j hj=>?_⟩
  by_cases j6:j=i
  ·subst j6; exact hy.wpOp hi (N1 _ _ hl hT) ⟨(hS _ _).2 hT,H⟩
  ·have kG:=ready_mono hj j6
   rw [H.1] at kG;simp at kG
 | succ n ih =>
  intro l a w hl pR hr hy hT H;refine ⟨fun h0=>absurd (h0▸hr) (by simp),fun j hj=>?_⟩
  by_cases j6:j=i
  ·subst j6; exact hy.wpOp hi (N1 _ _ hl hT) ⟨(hS _ _).2 hT,H⟩
  obtain ⟨xW,oj,rV,s_⟩:=mem_ready.1 hj;have oy:=(mem_ready.1 hr).1
  have oz:∀ e∈oj.after,Region.binds md e=true->e.on≠i:=by
   intro e he hb heq;have h1:=s_ e he hb;rw [heq] at h1
   by_cases aB:i<l.size
   ·simp [aB] at h1 oy; rw [oy] at h1; cases h1
   ·simp [Array.getElem?_eq_none (Nat.le_of_not_lt aB)] at h1
  have Vw:j≠t:=by
   rintro rfl;obtain ⟨e,he,hb,heq⟩:=hw;rw [ht] at rV; cases rV;exact oz e he hb heq
  have oA:=wpOp_putIf rV (pR j oj rV j6 xW oz) (fun cs b=>wH i oi cs b hi) (fun cs b=>wH j oj cs b rV) hQ hy (H.2 j (ready_mono hj j6));refine wpOp_mono (fun a' w' q=>?_) oA;obtain ⟨uS,Es,Et⟩:=q;rw [Array.setIfInBounds_comm _ _ (Ne.symm j6)] at Es Et
  have lC:(l.setIfInBounds j true).getD t false=false:=by rw [getD_set_ne false Vw]; exact hl
  have bT:=(hS _ _).1 Es;refine ⟨bT,ih _ _ _ lC ?_ (ready_mono hr (Ne.symm j6)) uS bT Et⟩;intro k ok hk LQ Eu Ev;refine pR k ok hk LQ ?_ Ev
  by_cases Ew:j=k
  ·rw [<- Ew]; exact xW
  ·rwa [getD_set_ne true Ew] at Eu
theorem Any.Sm {i:Nat} {oi:Oper} {T:World->Prop} (hi:ops[i]?=some oi) (wH:∀ (j:Nat) (o:Oper) cs b,ops[j]?=some o->o.op≠.select cs b)
  (hQ:∀ c a w,Q (.panic c) (a.put oi.dst v) w->Q (.panic c) a w)
  (hS:∀ l w,S (l.setIfInBounds i true) w↔S l w) (N1:∀ l w,S l w->T w) :
  ∀ (n:Nat) (l:Array Bool) (a:Act) (w:World),
   (∀ j oj,ops[j]?=some oj->j≠i->l.getD j true=false->(∀ e∈oj.after,Region.binds md e=true->e.on≠i)->oi.apart ops oj=true) ->
   i∈Region.ready md ops l->YieldsIf P ops T oi v a->S l w ->
   Any P md ops Q S n (l.setIfInBounds i true) (a.put oi.dst v) w->Any P md ops Q S (n+1) l a w:=by
 intro n
 induction n with
 | zero =>
  intro l a w _ hr hy hT H;refine ⟨fun h0=>absurd (h0▸hr) (by simp),fun j hj=>?_⟩
  by_cases j6:j=i
  ·subst j6; exact hy.wpOp hi (N1 _ _ hT) ⟨(hS _ _).2 hT,H⟩
  ·have kG:=ready_mono hj j6
   rw [H.1] at kG;simp at kG
 | succ n ih =>
  intro l a w pR hr hy hT H;refine ⟨fun h0=>absurd (h0▸hr) (by simp),fun j hj=>?_⟩
  by_cases j6:j=i
  ·subst j6; exact hy.wpOp hi (N1 _ _ hT) ⟨(hS _ _).2 hT,H⟩
  obtain ⟨xW,oj,rV,s_⟩:=mem_ready.1 hj;have oy:=(mem_ready.1 hr).1
  have oz:∀ e∈oj.after,Region.binds md e=true->e.on≠i:=by
   intro e he hb heq;have h1:=s_ e he hb;rw [heq] at h1
   by_cases aB:i<l.size
   ·simp [aB] at h1 oy; rw [oy] at h1; cases h1
   ·simp [Array.getElem?_eq_none (Nat.le_of_not_lt aB)] at h1
  have oA:=wpOp_putIf rV (pR j oj rV j6 xW oz) (fun cs b=>wH i oi cs b hi) (fun cs b=>wH j oj cs b rV) hQ hy (H.2 j (ready_mono hj j6));refine wpOp_mono (fun a' w' q=>?_) oA;obtain ⟨uS,Es,Et⟩:=q;rw [Array.setIfInBounds_comm _ _ (Ne.symm j6)] at Es Et;have bT:=(hS _ _).1 Es;refine ⟨bT,ih _ _ _ ?_ (ready_mono hr (Ne.symm j6)) uS bT Et⟩;intro k ok hk LQ Eu Ev;refine pR k ok hk LQ ?_ Ev
  by_cases Ew:j=k
  ·rw [<- Ew]; exact xW
  ·rwa [getD_set_ne true Ew] at Eu
def aI (t:Nat) (T T2:World->Prop) (l:Array Bool) (w:World):Prop:=iJ t T l w/\T2 w
theorem aI.set {t i:Nat} {T T2:World->Prop} (pD:t≠i) (l:Array Bool) (w:World):aI t T T2 (l.setIfInBounds i true) w↔aI t T T2 l w:=by
 unfold aI; rw [iJ.set pD]
theorem Any.Vx {i t:Nat} {oi:Oper} {T T2:World->Prop} {l:Array Bool} {a:Act} (d:Option Tmp) (hi:ops[i]?=some oi) (hd:oi.dst=d)
  (hs:Region.noSelect ops=true) (hf:Region.free md ops l i=true) (hr:(Region.ready md ops l).contains i=true)
  (hQ:∀ c a w,Q (.panic c) (a.put d v) w->Q (.panic c) a w) (pD:(t == i)=false) (hw:Region.waitsFor md ops t i=true) (hl:l.getD t false=false)
  (hy:YieldsIf P ops T oi v a) (hS:aI t T T2 l w)
  (h:Any P md ops Q (aI t T T2) n (l.setIfInBounds i true) (a.put d v) w):Any P md ops Q (aI t T T2) (n+1) l a w:=by
 subst hd;obtain ⟨ot,ht,hw⟩:=Region.waitsFor_spec hw
 have Uz:t≠i:=by simpa using pD
 refine Any.Sl hi (Region.noSelect_spec hs) hQ Uz ht hw (aI.set Uz) (fun l w hl hh=>?_) n l a w hl (Region.free_spec hi hf) (by simpa using hr) hy hS h
 rcases hh.1 with h1 | h1
 ·rw [hl] at h1; cases h1
 ·exact h1
theorem Any.Ce {i t:Nat} {oi:Oper} {T T2:World->Prop} {l:Array Bool} {a:Act} (d:Option Tmp) (hi:ops[i]?=some oi) (hd:oi.dst=d)
  (hs:Region.noSelect ops=true) (hf:Region.free md ops l i=true) (hr:(Region.ready md ops l).contains i=true)
  (hQ:∀ c a w,Q (.panic c) (a.put d v) w->Q (.panic c) a w) (pD:(t == i)=false)
  (hy:YieldsIf P ops T2 oi v a) (hS:aI t T T2 l w)
  (h:Any P md ops Q (aI t T T2) n (l.setIfInBounds i true) (a.put d v) w):Any P md ops Q (aI t T T2) (n+1) l a w:=by
 subst hd;exact Any.Sm hi (Region.noSelect_spec hs) hQ (aI.set (by simpa using pD)) (fun l w hh=>hh.2) n l a w (Region.free_spec hi hf) (by simpa using hr) hy hS h
theorem Any.run {i:Nat} {oi:Oper} {l:Array Bool} {a:Act} (d:Option Tmp) (hi:ops[i]?=some oi) (hd:oi.dst=d) (hw:Region.wanted oi (yielded ops a.tmps)=true)
  (hr:(execOp a.eval oi).run P w=.ok (.value v) w') (hS:S (l.setIfInBounds i true) w') (h:Any P md ops Q S n (l.setIfInBounds i true) (a.put d v) w') :
  wpOp P ops Q i (fun a' w'=>S (l.setIfInBounds i true) w'/\Any P md ops Q S n (l.setIfInBounds i true) a' w') a w:=pQ d hi hd hw hr ⟨hS,h⟩
theorem Any.cC {i:Nat} {oi:Oper} {l:Array Bool} {a:Act} (d:Option Tmp) (hi:ops[i]?=some oi) (hd:oi.dst=d) (hw:Region.wanted oi (yielded ops a.tmps)=true)
  (hr:(execOp a.eval oi).run P w=.ok .skip w') (hS:S (l.setIfInBounds i true) w') (h:Any P md ops Q S n (l.setIfInBounds i true) (a.put d undef) w') :
  wpOp P ops Q i (fun a' w'=>S (l.setIfInBounds i true) w'/\Any P md ops Q S n (l.setIfInBounds i true) a' w') a w:=xV d hi hd hw hr ⟨hS,h⟩
theorem Any.ask {i:Nat} {oi:Oper} {l:Array Bool} {a:Act} (d:Option Tmp) (hi:ops[i]?=some oi) (hd:oi.dst=d) (hw:Region.wanted oi (yielded ops a.tmps)=true) (f:FuncId) (args:Array Value)
  (hr:(execOp a.eval oi).run P w=.ok (.enter f args) w)
  (hc:Calls P f args w fun e w'=>∃ v,e=.returned v/\S (l.setIfInBounds i true) w'/\Any P md ops Q S n (l.setIfInBounds i true) (a.put d v) w') :
  wpOp P ops Q i (fun a' w'=>S (l.setIfInBounds i true) w'/\Any P md ops Q S n (l.setIfInBounds i true) a' w') a w:=by
 subst hd;unfold wpOp;simp only [hi,hw,if_true]
 left
 unfold Oper.wp;rw [hr,Oper.upon_enter];refine hc.mono fun e w' ⟨v,h1,h2,h3⟩=>?_;subst h1;exact ⟨h2,h3⟩
theorem LR {P:Program} {t e:TypeId} {z:Value} (T:rU P t e z bytes) (ty:TypeId) (b o n:Nat) (us:List Value) (hl:us.length=n) (hc:∀ i (h:i<us.length),X.cell? ⟨b,o+i,none⟩=some us[i]) (p c:Nat)
  (hu:X.cell? ⟨p,0,none⟩=some u) (hn:n<1000000) :
  ∃ v' X',(Builtin.append_ #[t,t] ty #[.slice (some ⟨b,o,none⟩) n n,.slice (some ⟨p,0,none⟩) 1 c]).run P X=.ok v' X'/\X'.ownsRow X.heap.size e 1 v' (n+1) (us++[u])/\Below X.heap.size X X'/\∃ a c,v'=.slice a (n+1) c:=by
 obtain ⟨i0,hi,cT,bz,dW⟩:=info_parts T.info
 obtain ⟨v',w',hr,h2,h3⟩:=run_append_arg_grows (P:=P) X t ty e i0 z 1 bytes T.ty hi cT bz dW T.zc (by decide) ⟨b,o,none⟩ n n us (by omega) (fun j x hj=>by
  have Ex:=(List.getElem?_eq_some_iff.1 hj).1
  rw [Addr.add_mid,hc j Ex,<- hj,List.getElem?_eq_getElem Ex]) ⟨p,0,none⟩ 1 c [u] rfl (fun j x hj=>by
  obtain rfl:j=0:=by have:=(List.getElem?_eq_some_iff.1 hj).1; simpa using this
  simp at hj; subst hj
  rw [show (⟨p,0,none⟩:Addr).add 0=⟨p,0,none⟩ from rfl]; exact hu) (by omega) (by unfold maxLen; omega) (by have:(n+1)*bytes<=1000000*64:=Nat.mul_le_mul (by omega) T.small; omega)
 exact ⟨v',w',hr,h2,(Below.refl _ _).grown h3 (Nat.le_refl _) (fun k hk=>by cases hk),dt h2⟩
end
section
open Go.RowKit
theorem _root_.d7 {P : Program} {md : Region.Mode} {ops : Array Oper} {Q : Exit -> Act -> World -> Prop} {T T2 : World -> Prop} {oi : Oper} {l : Array Bool} {a : Act} (i t : Nat) (v : Value) (d : Nat) (hi : ops[i]? = some oi) (hd : oi.dst = some d)
    (hy : YieldsIf P ops T2 oi v a) (hS : aI t T T2 l w) (h : Any P md ops Q (aI t T T2) n (l.setIfInBounds i true) (a.put (some d) v) w)
    (hs : Region.noSelect ops = true := by kernel_rfl) (hf : Region.free md ops l i = true := by kernel_rfl) (hr : (Region.ready md ops l).contains i = true := by kernel_rfl)
    (hQ : ∀ c a w, Q (.panic c) (a.put (some d) v) w -> Q (.panic c) a w := by exact fun _ _ _ h => h) (pD : (t == i) = false := by exact rfl) : Any P md ops Q (aI t T T2) (n + 1) l a w :=
  Any.Ce (some d) hi hd hs hf hr hQ pD hy hS h
theorem _root_.d8 {P : Program} {md : Region.Mode} {ops : Array Oper} {Q : Exit -> Act -> World -> Prop} {T T2 : World -> Prop} {oi : Oper} {l : Array Bool} {a : Act} (i t : Nat) (v : Value) (d : Nat) (hS : aI t T T2 l w) (h : Any P md ops Q (aI t T T2) n (l.setIfInBounds i true) (a.put (some d) v) w)
    (hi : ops[i]? = some oi := by exact rfl) (hd : oi.dst = some d := by exact rfl) (hy : YieldsIf P ops T2 oi v a := by exact .inl ⟨rfl, fun w _ => Go.Proofs.Rg.bL (v := _) _ rfl rfl⟩)
    (hs : Region.noSelect ops = true := by kernel_rfl) (hf : Region.free md ops l i = true := by kernel_rfl) (hr : (Region.ready md ops l).contains i = true := by kernel_rfl)
    (hQ : ∀ c a w, Q (.panic c) (a.put (some d) v) w -> Q (.panic c) a w := by exact fun _ _ _ h => h) (pD : (t == i) = false := by exact rfl) : Any P md ops Q (aI t T T2) (n + 1) l a w :=
  Any.Ce (some d) hi hd hs hf hr hQ pD hy hS h
end
section
open Go Go.RowKit
variable {P:Program} {md:Region.Mode} {ops:Array Oper} {Q:Exit->Act->World->Prop} {S:Array Bool->World->Prop}
theorem put_comm (a:Act) {d d':Tmp} (u v:Value) (h:d≠d'):(a.put (some d) u).put (some d') v=(a.put (some d') v).put (some d) u:=by
 unfold Act.put;simp only [Array.setIfInBounds_comm u v h]
def Does (P:Program) (ops:Array Oper) (Q:Exit->Act->World->Prop) (i d:Nat) (I:World->Prop) (R:Value->World->Prop) (K:World->World->Prop) (b:Act) (W:World):Prop :=
 wpOp P ops Q i (fun c W'=>∃ v,c=b.put (some d) v/\I W'/\R v W'/\K W W') b W

theorem Any.inv {J:Nat->Array Bool->Act->World->Prop} {k:Nat} (h0:∀ l a w,J 0 l a w->Any P md ops Q S k l a w)
  (hs:∀ m l a w,J (m+1) l a w->Region.ready md ops l≠[]/\∀ i∈Region.ready md ops l,wpOp P ops Q i (fun a' w'=>S (l.setIfInBounds i true) w'/\J m (l.setIfInBounds i true) a' w') a w) :
  ∀ m l a w,J m l a w->Any P md ops Q S (k+m) l a w
 | 0,l,a,w,h=>h0 l a w h
 | m+1,l,a,w,h=>by
  obtain ⟨h1,h2⟩:=hs m l a w h;exact Any.all rfl h1 fun i hi=>wpOp_mono (fun a' w' q=>⟨q.1,Any.inv h0 hs m _ a' w' q.2⟩) (h2 i hi)
end
end Go.Proofs.Rg
namespace Go.Proofs.YtpedbljnhnoohaaGreat
open Go.RowKit
open Go.Proofs
attribute [local irreducible] Go.Calls
theorem Ab (v:Value) (l:List Int) (w:World) (h:Rg.Ints w v l) (h1:1<=l.length) (h2:l.length<=64) :
  Calls Tryz.prog 68 #[v] w fun e w'=>e=.returned (.int .i64 (Ma.bB l))/\Below w.heap.size w w':=by
 obtain ⟨a,cap,rfl,hc,hm,_,aR⟩:=h.shape;obtain ⟨b,o,rfl,hb,hr⟩:=aR (by omega);have Hr:=U hr;clear hr aR h
 have hz:∀ (cs:Array Value),cs=Array.replicate 64 (.bool false)->(w.alloc (.cells cs 132)).rowIs w.heap.size 132 64 (fun j=>.bool (decide ((j:Int)∈l.take 0))):=by
  rintro cs rfl;have:=World.rowIs_alloc w (Array.replicate 64 (.bool false)) 132 (fun j=>.bool (decide ((j:Int)∈l.take 0))) (fun i hi=>by simp at hi; simp [hi])
  simpa using this
 have HZ:=U hz;clear hz
 go_enter Tryz.func68,Tryz.ntmps68
 go_wp2
 go_loopw [16] (fun i wr=>∃ k:Nat,k<=l.length/\i=.int .i64 k/\Hid (Ma.wy l k)/\Hid (wr.rowIs w.heap.size 132 64 (fun j=>.bool (decide ((j:Int)∈l.take k))))/\Below w.heap.size w wr) (fun i _=>l.length - (intOf i).toNat)
 case atStart=>exact ⟨0,by omega,rfl,Ma.wz l,HZ.p _ rfl,(Below.refl _ _).alloc (Nat.le_refl _) _⟩
 case round =>
  obtain ⟨k,hk,rfl,hp,hs,bC⟩:=hrel;obtain ⟨hc,hf⟩:=Rg.rS bC
  by_cases aB:k<l.length
  ·have e0:wr.cell? ⟨b,o+k,none⟩=some (.int .i64 l[k]):=(hc b (o+k) hb).trans (Hr.p k aB)
   have hB:b<wr.heap.size:=Nat.lt_of_lt_of_le hb bC.size;generalize hx:l[k]=x at e0;have Hx:=U hx;clear hx hc hf
   by_cases h0:x<0
   ·go_wp2
    go_ret;exact ⟨Rg.iT (Ma.uN h1 h2 (Ma.Kv aB (by rw [Hx.p]; exact h0))).symm,by assumption⟩
   by_cases h3:x<l.length
   ·obtain ⟨n,rfl⟩:=Int.eq_ofNat_of_zero_le (by omega:0<=x)
    have hn:n<64:=by omega
    have c1:=hs.p.cell hn;have f1:=hs.p.frozen n
    cases hd:decide ((n:Int)∈l.take k)
    ·rw [hd] at c1
     go_wp2
     go_roundw
     case rel =>
      refine ⟨k+1,by omega,by go_num,Ma.A8 hp.p aB (by rw [Hx.p]; omega) (by rw [Hx.p]; omega) (by rw [Hx.p]; exact of_decide_eq_false hd),?_,bC.setCell (Nat.le_refl _) _⟩;refine (hs.p.set n _).congr fun i hi=>?_;rw [Ma.pO aB,Hx.p]
      by_cases e:i=n
      ·simp [e]
      ·rw [if_neg e,if_neg (by omega)]
     case measure=>simp [intOf]; omega
    ·rw [hd] at c1
     go_wp2;go_ret;exact ⟨Rg.iT (Ma.uN h1 h2 (Ma.Ei aB (by rw [Hx.p]; exact of_decide_eq_true hd))).symm,by assumption⟩
   ·go_wp2
    go_ret;exact ⟨Rg.iT (Ma.uN h1 h2 (Ma.Kw aB (by rw [Hx.p]; omega))).symm,by assumption⟩
  ·obtain rfl:k=l.length:=by omega
   go_wp2;go_ret;exact ⟨Rg.iT (Ma.nC h1 h2 (Ma.Eh hp.p)).symm,by assumption⟩
theorem dQ (v:Value) (l:List Int) (w:World) (h:Rg.Ints w v l) :
  Calls Tryz.prog 68 #[v] w fun e w'=>e=.returned (.int .i64 (Ma.bB l))/\Below w.heap.size w w':=by
 by_cases h1:1<=l.length
 ·by_cases h2:l.length<=64
  ·exact Ab v l w h h1 h2
  ·have hp:=U (Ma.A9 (l:=l) (by omega))
   obtain ⟨a,cap,rfl,hc,hm,_,aR⟩:=h.shape;clear aR h
   have N2:64<l.length:=by omega
   go_enter Tryz.func68,Tryz.ntmps68
   go_wp2;go_ret;exact ⟨Rg.iT hp.p.symm,Below.refl _ _⟩
 ·have hp:=U (Ma.A9 (l:=l) (by omega))
  obtain ⟨a,cap,rfl,hc,hm,_,aR⟩:=h.shape;clear aR h
  have N2:l.length<1:=by omega
  go_enter Tryz.func68,Tryz.ntmps68
  go_wp2;go_ret;exact ⟨Rg.iT hp.p.symm,Below.refl _ _⟩

theorem tu:(Tryz.prog.info? 3).map (fun i=>(i.zero,i.size,i.bytes))=some (some (.int .i64 0),1,8):=by kernel_rfl
theorem mE (n:Nat) (hn:n<=1000000) (w:World):(Instr.makeSlice 27 (.int .i64 (n:Int)) (.int .i64 (n:Int))).run Tryz.prog w=.ok (.slice (some ⟨w.heap.size,0,none⟩) n n) (w.alloc (.cells (madeCells #[.int .i64 0] n) 3)) :=
 run_make_row' 27 3 (.int .i64 0) 8 Tryz.underlying27 tu rfl .i64 .i64 n (by omega) (by omega) w
theorem Cf (n:Nat) (w:World) (hn:n<=1000) :
  Calls Tryz.prog 144 #[.int .i64 n] w fun e w'=>∃ v,e=.returned v/\Rg.rT w w' v (Ma.bh n)/\Below w.heap.size w w':=by
 have dp:=mE n (by omega) w;have cJ:=U (World.rowIs_made w (.int .i64 0) n 3)
 go_enter Tryz.func144,Tryz.ntmps144
 go_wp2;clear dp
 go_loopw [9] (fun i wr=>∃ k:Nat,k<=n/\i=.int .i64 k/\Hid (wr.rowIs w.heap.size 3 n (fun j=>.int .i64 (if j<k then (j:Int) else 0)))/\Below w.heap.size w wr) (fun i _=>n - (intOf i).toNat)
 case atStart=>exact ⟨0,by omega,rfl,cJ.p.congr (fun i hi=>by simp),(Below.refl _ _).alloc (Nat.le_refl _) _⟩
 case round =>
  obtain ⟨k,hk,rfl,hs,bC⟩:=hrel
  by_cases aB:k<n
  ·have c1:=hs.p.cell aB
   have f1:=hs.p.frozen k;simp only [Nat.lt_irrefl,if_false] at c1;go_wp2
   go_roundw
   case rel =>
    refine ⟨k+1,by omega,by go_num,?_,bC.setCell (Nat.le_refl _) _⟩;refine (hs.p.set k _).congr fun i hi=>?_
    by_cases e:i=k
    ·subst e; simp
    ·rw [if_neg e]
     by_cases e2:i<k
     ·rw [if_pos e2,if_pos (by omega)]
     ·rw [if_neg e2,if_neg (by omega)]
   case measure=>simp [intOf]; omega
  ·obtain rfl:k=n:=by omega
   go_wp2;go_ret;refine ⟨_,rfl,⟨Rg.NP.iq hs.p (by rw [Ma.fC]) (by omega) (fun i hi=>?_),Rg.fP.mk _ _ _ _⟩,by assumption⟩;rw [Ma.uP];rw [Ma.fC] at hi;rw [if_pos hi]
theorem Cg (v:Value) (a:List Nat) (w:World) (h:Rg.NP w v a) (ha:Ma.j4 a) (hn:a.length<=1000) (h1:1<=a.length) :
  Calls Tryz.prog 203 #[v] w fun e w'=>∃ v,e=.returned v/\Rg.rT w w' v (Ma.aX a)/\Below w.heap.size w w':=by
 obtain ⟨ad,cap,rfl,hc,_,_,aR⟩:=h.shape;obtain ⟨b,o,rfl,hb,hr⟩:=aR (by omega);have Hr:=U hr;clear hr aR h;have dp:=mE a.length (by omega) w;have cJ:=U (World.rowIs_made w (.int .i64 0) a.length 3)
 go_enter Tryz.func203,Tryz.ntmps203
 go_wp2;clear dp
 go_loopw [11] (fun i wr=>∃ k:Nat,k<=a.length/\i=.int .i64 k/\Hid (wr.rowIs w.heap.size 3 a.length (fun j=>.int .i64 (if j∈a.take k then ((a.idxOf j:Nat):Int) else 0)))/\Below w.heap.size w wr) (fun i _=>a.length - (intOf i).toNat)
 case atStart=>exact ⟨0,by omega,rfl,cJ.p.congr (fun i hi=>by simp),(Below.refl _ _).alloc (Nat.le_refl _) _⟩
 case round =>
  obtain ⟨k,hk,rfl,hs,bC⟩:=hrel;obtain ⟨hc,hf⟩:=Rg.rS bC
  by_cases aB:k<a.length
  ·have nI:k<a.length:=aB
   have e0:wr.cell? ⟨b,o+k,none⟩=some (.int .i64 ((a[k]:Nat):Int)):=(hc b (o+k) hb).trans (Hr.p k nI);have xf:a[k]<a.length:=Ma.xI ha nI;have xX:=Ma.nG ha nI
   have kG:∀ i,i∈a.take (k+1)↔(i∈a.take k∨i=a[k]):=fun i=>by rw [List.take_succ_eq_append_getElem nI,List.mem_append,List.mem_singleton]
   generalize hx:a[k]=x at *;have Hx:=U hx;have N3:=U xX;have pS:=U kG;clear hx hc hf xX kG;have c1:=hs.p.cell xf;have f1:=hs.p.frozen x;generalize (Value.int .i64 (if x∈a.take k then ((a.idxOf x:Nat):Int) else 0))=u0 at c1;go_wp2
   go_roundw
   case rel =>
    refine ⟨k+1,by omega,by go_num,?_,bC.setCell (Nat.le_refl _) _⟩;refine (hs.p.set x _).congr fun i hi=>?_
    by_cases e:i=x
    ·subst e; rw [if_pos rfl,if_pos ((pS.p i).2 (.inr rfl)),N3.p]
    ·rw [if_neg e]
     by_cases e2:i∈a.take k
     ·rw [if_pos e2,if_pos ((pS.p i).2 (.inl e2))]
     ·rw [if_neg e2,if_neg (fun e3=>((pS.p i).1 e3).elim e2 e)]
   case measure=>simp [intOf]; omega
  ·obtain rfl:k=a.length:=by omega
   go_wp2;go_ret;refine ⟨_,rfl,⟨Rg.NP.iq hs.p (by rw [Ma.cR]) (by omega) (fun i hi=>?_),Rg.fP.mk _ _ _ _⟩,by assumption⟩;rw [Ma.qU];rw [Ma.cR] at hi;rw [List.take_of_length_le (Nat.le_refl _),if_pos (Ma.s5 ha hi)]

theorem Ey (n:Nat) (w:World) (h1:1<=n) (hn:n<=64) :
  Calls Tryz.prog 114 #[.int .i64 n] w fun e w'=>∃ v,e=.returned (.tuple #[v,.int .i64 0])/\Rg.rT w w' v (Ma.bh n)/\Below w.heap.size w w':=by
 go_enter Tryz.func114,Tryz.ntmps114
 go_wp2_with (go_at_call 144; refine (Cf _ _ (by omega)).mono ?_; rintro e w1 ⟨v,rfl,hv,hb⟩)
 go_ret2
 exact ⟨_,rfl,hv,hb⟩
theorem oC {k:IntKind} {a b:Int} (h:b=a):Ending.returned (.int k a)=.returned (.int k b):=by rw [h]
theorem uU {l:List Int} (h:Rg.Ints w v l) (hb:Below w0.heap.size w0 w) :
  Calls Tryz.prog 68 #[v] w fun e w'=>e=.returned (.int .i64 (Ma.bB l))/\Below w0.heap.size w0 w' :=
 (dQ v l w h).mono fun _ _ ⟨a,b⟩=>⟨a,Rg.acc hb b⟩
theorem xY (v:Value) (ll:List (List Int)) (w:World) (h:Rg.Rows w v ll) (h1:1<=ll.length) :
  Calls Tryz.prog 142 #[v] w fun e w'=>e=.returned (.int .i64 (Ma.wG ll))/\Below w.heap.size w w':=by
 obtain ⟨ad,cap,rfl,hc,hm,_,aR⟩:=h.shape;obtain ⟨b,o,rfl,hb,hr⟩:=aR (by omega);obtain ⟨u0,Yw,LS⟩:=hr 0 (by omega);obtain ⟨n0,a0,c0,s9,rfl,hl0⟩:=LS.len;have Hr:=U hr;clear hr aR h LS;have Hn0:=U s9;clear s9
 have hn:(ll.headD []).length=n0:=by rw [<- Hn0.p]; cases ll with | nil=>simp at h1 | cons x r=>rfl
 have HN:=U hn;clear hn
 go_enter Tryz.func142,Tryz.ntmps142
 go_wp2
 go_loopw [10] (fun i wr=>∃ k:Nat,k<=ll.length/\i=.int .i64 k/\Hid (Ma.dT (ll.drop k)=Ma.dT ll)/\Below w.heap.size w wr) (fun i _=>ll.length - (intOf i).toNat)
 case atStart=>exact ⟨0,by omega,rfl,rfl,Below.refl _ _⟩
 case round =>
  obtain ⟨k,hk,rfl,hp,bC⟩:=hrel
  by_cases aB:k<ll.length
  ·obtain ⟨u,eu,hu⟩:=Hr.p k aB
   have e0:wr.cell? ⟨b,o+k,none⟩=some u:=(bC.cell (p:=⟨b,o+k,none⟩) hb).trans eu;have fR:=hu.jj bC
   by_cases hz:Ma.bB ll[k]=0
   ·have Hz:=U hz
    have mW:((Ma.bB ll[k]) != 0)=false:=by rw [hz]; rfl
    clear hz eu hu
    go_wp2_with (go_at_call 68; refine (uU fR bC).mono ?_; rintro e w1 ⟨rfl,lR⟩)
    go_roundw
    case rel=>exact ⟨k+1,by omega,by go_num,(Ma.xU aB Hz.p).symm.trans hp.p,lR⟩
    case measure=>simp [intOf]; omega
   ·have Hz:=U hz
    have mW:((Ma.bB ll[k]) != 0)=true:=by rw [bne_iff_ne]; exact hz
    clear hz eu hu
    go_wp2_with (go_at_call 68; refine (uU fR bC).mono ?_; rintro e w1 ⟨rfl,lR⟩)
    go_ret;have hh:=(Ma.Ba aB Hz.p).symm.trans hp.p;exact ⟨oC (by rw [Ma.LO (by rw [<- hh]; exact Hz.p),<- hh]),lR⟩
  ·obtain rfl:k=ll.length:=by omega
   have pE:Ma.dT ll=0:=hp.p.symm.trans (Ma.LK (Nat.le_refl _));have Hf:=U ((Ma.NV pE).trans (by rw [HN.p]));clear pE hp;go_wp2
   go_loopw [22] (fun i wr=>∃ k:Nat,k<=ll.length/\i=.int .i64 k/\Hid (Ma.po n0 (ll.drop k)=Ma.po n0 ll)/\Below w.heap.size w wr) (fun i _=>ll.length - (intOf i).toNat)
   case atStart=>exact ⟨0,by omega,rfl,rfl,bC⟩
   case round =>
    obtain ⟨k,hk,rfl,hp,xZ⟩:=hrel;have Yx:=(xZ.cell (p:=⟨b,o+0,none⟩) hb).trans Yw
    by_cases lS:k<ll.length
    ·obtain ⟨u,eu,hu⟩:=Hr.p k lS
     have e0:=(xZ.cell (p:=⟨b,o+k,none⟩) hb).trans eu;obtain ⟨n2,a2,c2,cN,rfl,rX⟩:=hu.len;rw [Nat.add_zero] at Yx;clear eu hu Yw;have Yy:=U cN;clear cN
     by_cases hz:n2=n0
     ·have mW:((n2:Int) != (n0:Int))=false:=by rw [hz]; simp
      have Hz:=U hz;clear hz;go_wp2
      go_roundw
      case rel=>exact ⟨k+1,by omega,by go_num,(Ma.Ii lS (by rw [Yy.p,Hz.p])).symm.trans hp.p,xZ⟩
      case measure=>simp [intOf]; omega
     ·have mW:((n2:Int) != (n0:Int))=true:=by rw [bne_iff_ne]; omega
      have Hz:=U hz;clear hz;go_wp2;go_ret;exact ⟨oC (by rw [Hf.p,<- hp.p]; exact Ma.LM lS (by rw [Yy.p]; exact Hz.p)),xZ⟩
    ·clear Yx
     go_wp2;go_ret;exact ⟨oC (by rw [Hf.p,<- hp.p]; exact Ma.LN (by omega)),xZ⟩

theorem Be {z:Int} (h:Rg.Rows w v ll) (h1:1<=ll.length) (hz:Hid (Ma.wG ll=z)) (hb:Below w0.heap.size w0 w) :
  Calls Tryz.prog 142 #[v] w fun e w'=>e=.returned (.int .i64 z)/\Below w0.heap.size w0 w' :=
 (xY v ll w h h1).mono fun _ _ ⟨a,b⟩=>⟨by rw [a,hz.p],Rg.acc hb b⟩
theorem Bf {a:List Nat} (ha:Ma.j4 a) (h1:1<=a.length) (h2:a.length<=64):Ma.bB (Ma.af a)=0 :=
 Ma.nC (by rw [Ma.az]; exact h1) (by rw [Ma.az]; exact h2) (Ma.nD ha)
theorem x3 (gv:Value) (d:Int) (ll:List (List Int)) (w:World) (h:Rg.Rows w gv ll) (h1:1<=d) (h2:d<=64) (h3:ll.length<=16) :
  Calls Tryz.prog 88 #[.agg #[.int .i64 d,gv]] w fun e w'=>e=.returned (.int .i64 (Ma.j3 d ll))/\Below w.heap.size w w':=by
 obtain ⟨ad,cap,rfl,hc,hm,_,aR⟩:=h.shape;have Hr:=U aR;clear aR h
 go_enter Tryz.func88,Tryz.ntmps88
 go_wp2
 go_loopw [21] (fun i wr=>∃ k:Nat,k<=ll.length/\i=.int .i64 k/\Hid (Ma.j3 d (ll.drop k)=Ma.j3 d ll)/\Hid (Below (w.heap.size+1) (w.alloc (.cells #[.int .i64 d,.slice ad ll.length cap] 43)) wr)) (fun i _=>ll.length - (intOf i).toNat)
 case atStart=>exact ⟨0,by omega,rfl,rfl,Below.refl _ _⟩
 case round =>
  obtain ⟨k,hk,rfl,hp,bC⟩:=hrel;have lT:Below w.heap.size w wr:=((Below.refl _ w).alloc (Nat.le_refl _) _).trans (bC.p.mono (by omega))
  have cd:wr.cell? ⟨w.heap.size,0,none⟩=some (.int .i64 d):=by
   rw [bC.p.cell (by show w.heap.size<_; omega)]; rw [Rg.aL]; rfl
  have eS:w.heap.size<wr.heap.size:=by have:=bC.p.size; simp at this; omega
  by_cases aB:k<ll.length
  ·obtain ⟨b,o,rfl,hb,hr⟩:=Hr.p (by omega)
   obtain ⟨u,eu,hu⟩:=hr k aB;have e0:wr.cell? ⟨b,o+k,none⟩=some u:=(lT.cell (p:=⟨b,o+k,none⟩) hb).trans eu;have fR:=hu.jj lT;obtain ⟨n,a1,c1,hn,rfl,hl⟩:=hu.len;have Hn:=U hn;clear hr eu hu hn
   by_cases hz:Ma.bB ll[k]=0
   ·have Hz:=U hz
    have mW:((Ma.bB ll[k]) != 0)=false:=by rw [hz]; rfl
    clear hz;have LU:∀ {e:Ending} {w':World},Below wr.heap.size wr w'->w'.cell? ⟨w.heap.size,0,none⟩=some (.int .i64 d):=fun hw=>(hw.cell (p:=⟨w.heap.size,0,none⟩) eS).trans cd
    by_cases hd:(n:Int)=d
    ·have hdd:((n:Int) != d)=false:=by rw [hd]; simp
     have Hd:=U hd;clear hd
     go_wp2_with (go_at_call 68; refine (dQ _ _ _ fR).mono ?_; rintro e w1 ⟨rfl,lR⟩; have cd1:=(lR.cell (p:=⟨w.heap.size,0,none⟩) eS).trans cd)
     go_roundw
     case rel=>exact ⟨k+1,by omega,by go_num,(Ma.A_ aB Hz.p (by rw [Hn.p]; exact Hd.p)).symm.trans hp.p,bC.p.trans (lR.mono eS)⟩
     case measure=>simp [intOf]; omega
    ·have hdd:((n:Int) != d)=true:=by rw [bne_iff_ne]; exact hd
     have Hd:=U hd;clear hd
     go_wp2_with (go_at_call 68; refine (dQ _ _ _ fR).mono ?_; rintro e w1 ⟨rfl,lR⟩; have cd1:=(lR.cell (p:=⟨w.heap.size,0,none⟩) eS).trans cd)
     go_ret;exact ⟨oC (by rw [<- hp.p]; exact Ma.Ek aB Hz.p (by rw [Hn.p]; exact Hd.p)),Rg.acc lT lR⟩
   ·have Hz:=U hz
    have mW:((Ma.bB ll[k]) != 0)=true:=by rw [bne_iff_ne]; exact hz
    clear hz
    go_wp2_with (go_at_call 68; refine (uU fR lT).mono ?_; rintro e w1 ⟨rfl,lR⟩)
    go_ret;exact ⟨oC (by rw [<- hp.p]; exact Ma.Ej aB Hz.p),lR⟩
  ·go_wp2
   go_ret;exact ⟨oC (by rw [<- hp.p]; exact Ma.Em (by omega)),lT⟩
theorem xg (gv:Value) (d:Int) (ll:List (List Int)) (w:World) (h:Rg.Rows w gv ll) :
  Calls Tryz.prog 88 #[.agg #[.int .i64 d,gv]] w fun e w'=>e=.returned (.int .i64 (Ma.gM d ll))/\Below w.heap.size w w':=by
 by_cases h1:1<=d
 ·by_cases h2:d<=64
  ·by_cases h3:ll.length<=16
   ·rw [Ma.NU h1 h2 h3]; exact x3 gv d ll w h h1 h2 h3
   ·have hg:=U (Ma.Ih h1 h2 h3)
    obtain ⟨ad,cap,rfl,hc,hm,_,aR⟩:=h.shape;clear aR h
    have h3':16<ll.length:=by omega
    clear h3
    go_enter Tryz.func88,Tryz.ntmps88
    go_wp2;go_ret;exact ⟨oC hg.p,(Below.refl _ _).alloc (Nat.le_refl _) _⟩
  ·have hg:=U (Ma.wF (d:=d) (ll:=ll) (by omega))
   have N4:64<d:=by omega
   clear h2 h
   go_enter Tryz.func88,Tryz.ntmps88
   go_wp2;go_ret;exact ⟨oC hg.p,(Below.refl _ _).alloc (Nat.le_refl _) _⟩
 ·have hg:=U (Ma.wF (d:=d) (ll:=ll) (by omega))
  have Yz:d<1:=by omega
  clear h1 h
  go_enter Tryz.func88,Tryz.ntmps88
  go_wp2;go_ret;exact ⟨oC hg.p,(Below.refl _ _).alloc (Nat.le_refl _) _⟩

theorem cw:Rg.rU Tryz.prog 27 3 (.int .i64 0) 8:=⟨Tryz.underlying27,tu,rfl,by decide⟩
def Ij (l:List Nat):List Value:=l.map fun (x:Nat)=>Value.int .i64 (x:Int)
theorem uV (l:List Nat) (x:Nat):Ij (l++[x])=Ij l++[.int .i64 (x:Int)]:=by simp [Ij]
theorem Ez (n:Nat) (w:World) (hn:n<=1000) :
  Calls Tryz.prog 66 #[.int .i64 n] w fun e w'=>∃ v,e=.returned v/\Rg.rT w w' v (Ma.bh n)/\Below w.heap.size w w':=by
 go_enter Tryz.func66,Tryz.ntmps66
 go_wp2
 go_loopw [3,4] (fun v i wr=>∃ k:Nat,k<=n/\i=.int .i64 k/\Hid (wr.ownsRow w.heap.size 3 1 v k (Ij (Ma.bh k)))/\Hid (Below w.heap.size w wr)) (fun _ i _=>n - (intOf i).toNat)
 case atStart=>exact ⟨0,by omega,rfl,World.ownsRow_nil _ _ _ _,Below.refl _ _⟩
 case round =>
  obtain ⟨k,hk,rfl,hs,bC⟩:=hrel
  by_cases aB:k<n
  ·go_wp2_with (at_builtin; refine Rg.Ep rfl _ _ 27 rfl cw hs.p bC.p _ (by simp [Value.oneCell']) rfl rfl (by omega) ?_; intro v' w1 lD cZ _ _ _)
   go_roundw
   case rel=>exact ⟨k+1,by omega,by go_num,by rw [show Ma.bh (k+1)=Ma.bh k++[k] from List.range_succ,uV]; exact lD,cZ⟩
   case measure=>simp [intOf]; omega
  ·obtain rfl:k=n:=by omega
   go_wp2;go_ret;exact ⟨_,rfl,⟨Rg.NP.dr hs.p (by omega),Rg.fP.dr hs.p⟩,bC.p⟩
theorem xh {a b:List Nat} {k:Nat} (hk:k<a.length):Ma.ar (a.take (k+1)) b=Ma.ar (a.take k) b++[b.getD a[k] 0]:=by
 rw [List.take_succ_eq_append_getElem hk]; unfold Ma.ar; rw [List.map_append]; rfl
theorem eV (va vb:Value) (a b:List Nat) (w:World) (h:Rg.NP w va a) (h':Rg.NP w vb b) (gi:∀ x∈a,x<b.length) (hn:a.length<=1000) :
  Calls Tryz.prog 34 #[va,vb] w fun e w'=>∃ v,e=.returned v/\Rg.rT w w' v (Ma.ar a b)/\Below w.heap.size w w':=by
 obtain ⟨ad,cap,rfl,hc,_,_,aR⟩:=h.shape;obtain ⟨pT,du,rfl,d_,jF,_,dv⟩:=h'.shape;have H1:=U aR;have H2:=U dv;clear aR dv h h'
 go_enter Tryz.func34,Tryz.ntmps34
 go_wp2
 go_loopw [5,6] (fun v i wr=>∃ k:Nat,k<=a.length/\i=.int .i64 k/\Hid (wr.ownsRow w.heap.size 3 1 v k (Ij (Ma.ar (a.take k) b)))/\Hid (Below w.heap.size w wr)) (fun _ i _=>a.length - (intOf i).toNat)
 case atStart=>exact ⟨0,by omega,rfl,World.ownsRow_nil _ _ _ _,Below.refl _ _⟩
 case round =>
  obtain ⟨k,hk,rfl,hs,bC⟩:=hrel
  by_cases aB:k<a.length
  ·obtain ⟨b1,o1,rfl,cZ,dg⟩:=H1.p (by omega)
   have e1:=(bC.p.cell (p:=⟨b1,o1+k,none⟩) cZ).trans (dg k aB);have hx:=gi _ (List.getElem_mem aB);have oA:=xh (b:=b) aB;have hg:=Ma.getD_lt hx;generalize a[k]=x at e1 hx oA hg;have Vy:=U oA;obtain ⟨b2,o2,rfl,eB,tx⟩:=H2.p (by omega);have e2:=(bC.p.cell (p:=⟨b2,o2+x,none⟩) eB).trans (tx x hx);generalize b[x]=y at e2 hg;have Hg:=U hg;clear hg oA dg tx
   go_wp2_with (at_builtin; refine Rg.Ep rfl _ _ 27 rfl cw hs.p bC.p _ (by simp [Value.oneCell']) rfl rfl (by omega) ?_; intro v' w1 lD cZ _ _ _)
   go_roundw
   case rel=>exact ⟨k+1,by omega,by go_num,by rw [Vy.p,Hg.p,uV]; exact lD,cZ⟩
   case measure=>simp [intOf]; omega
  ·obtain rfl:k=a.length:=by omega
   go_wp2;go_ret;exact ⟨_,rfl,⟨Rg.NP.dr (n:=a.length) (by have:=hs.p; rwa [List.take_length] at this) (by omega),Rg.fP.dr hs.p⟩,bC.p⟩
theorem pU (v:Value) (a:List Nat) (w:World) (h:Rg.NP w v a) (ha:Ma.j4 a) (hn:a.length<=1000) :
  Calls Tryz.prog 35 #[v] w fun e w'=>∃ v,e=.returned v/\Rg.rT w w' v (Ma.aX a)/\Below w.heap.size w w':=by
 obtain ⟨ad,cap,rfl,hc,_,_,aR⟩:=h.shape;have Hr:=U aR;clear aR h;have dp:=mE a.length (by omega) w;have cJ:=U (World.rowIs_made w (.int .i64 0) a.length 3)
 go_enter Tryz.func35,Tryz.ntmps35
 go_wp2;clear dp
 go_loopw [4] (fun i wr=>∃ k:Nat,k<=a.length/\i=.int .i64 k/\Hid (wr.rowIs w.heap.size 3 a.length (fun j=>.int .i64 (if j∈a.take k then ((a.idxOf j:Nat):Int) else 0)))/\Below w.heap.size w wr) (fun i _=>a.length - (intOf i).toNat)
 case atStart=>exact ⟨0,by omega,rfl,cJ.p.congr (fun i hi=>by simp),(Below.refl _ _).alloc (Nat.le_refl _) _⟩
 case round =>
  obtain ⟨k,hk,rfl,hs,bC⟩:=hrel;obtain ⟨hc,hf⟩:=Rg.rS bC
  by_cases aB:k<a.length
  ·obtain ⟨b,o,rfl,hb,hr⟩:=Hr.p (by omega)
   have e0:wr.cell? ⟨b,o+k,none⟩=some (.int .i64 ((a[k]:Nat):Int)):=(hc b (o+k) hb).trans (hr k aB);have xf:a[k]<a.length:=Ma.xI ha aB;have xX:=Ma.nG ha aB
   have kG:∀ i,i∈a.take (k+1)↔(i∈a.take k∨i=a[k]):=fun i=>by rw [List.take_succ_eq_append_getElem aB,List.mem_append,List.mem_singleton]
   generalize hx:a[k]=x at *;have N3:=U xX;have pS:=U kG;clear hx hc hf xX kG hr;have c1:=hs.p.cell xf;have f1:=hs.p.frozen x;generalize (Value.int .i64 (if x∈a.take k then ((a.idxOf x:Nat):Int) else 0))=u0 at c1;go_wp2
   go_roundw
   case rel =>
    refine ⟨k+1,by omega,by go_num,?_,bC.setCell (Nat.le_refl _) _⟩;refine (hs.p.set x _).congr fun i hi=>?_
    by_cases e:i=x
    ·subst e; rw [if_pos rfl,if_pos ((pS.p i).2 (.inr rfl)),N3.p]
    ·rw [if_neg e]
     by_cases e2:i∈a.take k
     ·rw [if_pos e2,if_pos ((pS.p i).2 (.inl e2))]
     ·rw [if_neg e2,if_neg (fun e3=>((pS.p i).1 e3).elim e2 e)]
   case measure=>simp [intOf]; omega
  ·obtain rfl:k=a.length:=by omega
   go_wp2;go_ret;refine ⟨_,rfl,⟨Rg.NP.iq hs.p (by rw [Ma.cR]) (by omega) (fun i hi=>?_),Rg.fP.mk _ _ _ _⟩,by assumption⟩;rw [Ma.qU];rw [Ma.cR] at hi;rw [List.take_of_length_le (Nat.le_refl _),if_pos (Ma.s5 ha hi)]

theorem uW:(Tryz.prog.info? 4).map (fun i=>(i.zero,i.size,i.bytes))=some (some (.bool false),1,1):=by kernel_rfl
theorem N5 (n:Nat) (hn:n<=1000000) (w:World):(Instr.makeSlice 91 (.int .i64 (n:Int)) (.int .i64 (n:Int))).run Tryz.prog w=.ok (.slice (some ⟨w.heap.size,0,none⟩) n n) (w.alloc (.cells (madeCells #[.bool false] n) 4)) :=
 run_make_row' 91 4 (.bool false) 1 Tryz.underlying91 uW rfl .i64 .i64 n (by omega) (by omega) w
theorem Ch (v:Value) (l:List Int) (w:World) (h:Rg.Ints w v l) (h1:1<=l.length) (h2:l.length<=1000) :
  Calls Tryz.prog 38 #[v,.int .i64 l.length] w fun e w'=>e=.returned (.bool (decide (Ma.s4 l)))/\Below w.heap.size w w':=by
 obtain ⟨a,cap,rfl,hc,hm,_,aR⟩:=h.shape;obtain ⟨b,o,rfl,hb,hr⟩:=aR (by omega);have Hr:=U hr;clear hr aR h;have dp:=N5 l.length (by omega) w;have cJ:=U (World.rowIs_made w (.bool false) l.length 4)
 have hne:((l.length:Int) != (l.length:Int))=false:=by simp
 generalize hD:decide (Ma.s4 l)=D;have HD:=U hD;clear hD
 go_enter Tryz.func38,Tryz.ntmps38
 go_wp2;clear dp
 go_loopw [6] (fun i wr=>∃ k:Nat,k<=l.length/\i=.int .i64 k/\Hid (Ma.wy l k)/\Hid (wr.rowIs w.heap.size 4 l.length (fun j=>.bool (decide ((j:Int)∈l.take k))))/\Below w.heap.size w wr) (fun i _=>l.length - (intOf i).toNat)
 case atStart=>exact ⟨0,by omega,rfl,Ma.wz l,cJ.p.congr (fun i hi=>by simp),(Below.refl _ _).alloc (Nat.le_refl _) _⟩
 case round =>
  obtain ⟨k,hk,rfl,hp,hs,bC⟩:=hrel;obtain ⟨hc,hf⟩:=Rg.rS bC
  by_cases aB:k<l.length
  ·have e0:wr.cell? ⟨b,o+k,none⟩=some (.int .i64 l[k]):=(hc b (o+k) hb).trans (Hr.p k aB)
   have hB:b<wr.heap.size:=Nat.lt_of_lt_of_le hb bC.size;generalize hx:l[k]=x at e0;have Hx:=U hx;clear hx hc hf
   by_cases h0:x<0
   ·go_wp2
    go_ret;exact ⟨Rg.dU (by rw [<- HD.p]; exact (decide_eq_false (Ma.Kv aB (by rw [Hx.p]; exact h0))).symm),by assumption⟩
   by_cases h3:x<l.length
   ·obtain ⟨n,rfl⟩:=Int.eq_ofNat_of_zero_le (by omega:0<=x)
    have hn:n<l.length:=by omega
    have c1:=hs.p.cell hn;have f1:=hs.p.frozen n
    cases hd:decide ((n:Int)∈l.take k)
    ·rw [hd] at c1
     go_wp2
     go_roundw
     case rel =>
      refine ⟨k+1,by omega,by go_num,Ma.A8 hp.p aB (by rw [Hx.p]; omega) (by rw [Hx.p]; omega) (by rw [Hx.p]; exact of_decide_eq_false hd),?_,bC.setCell (Nat.le_refl _) _⟩;refine (hs.p.set n _).congr fun i hi=>?_;rw [Ma.pO aB,Hx.p]
      by_cases e:i=n
      ·simp [e]
      ·rw [if_neg e,if_neg (by omega)]
     case measure=>simp [intOf]; omega
    ·rw [hd] at c1
     go_wp2;go_ret;exact ⟨Rg.dU (by rw [<- HD.p]; exact (decide_eq_false (Ma.Ei aB (by rw [Hx.p]; exact of_decide_eq_true hd))).symm),by assumption⟩
   ·go_wp2
    go_ret;exact ⟨Rg.dU (by rw [<- HD.p]; exact (decide_eq_false (Ma.Kw aB (by rw [Hx.p]; omega))).symm),by assumption⟩
  ·obtain rfl:k=l.length:=by omega
   go_wp2;go_ret;exact ⟨Rg.dU (by rw [<- HD.p]; exact (decide_eq_true (Ma.Eh hp.p)).symm),by assumption⟩

theorem NP.ints {l:List Nat} (h:Rg.NP w v l):Rg.Ints w v (Ma.af l):=h

theorem cM:Rg.rU Tryz.prog 26 3 (.int .i64 0) 8:=⟨Tryz.underlying26,tu,rfl,by decide⟩
theorem dC:(Tryz.prog.info? 27).map (fun i=>(i.zero,i.size,i.bytes))=some (some (.slice none 0 0),1,24):=by kernel_rfl
theorem cp:Rg.rU Tryz.prog 41 27 (.slice none 0 0) 24:=⟨Tryz.underlying41,dC,rfl,by decide⟩
theorem ah {ad:Addr} (h:w.cell? ad=some v):(loadVar 3 ad).run Tryz.prog w=.ok v w:=by
 simp [loadVar,isAgg,run_underlying Tryz.underlying3,load];simp [Sem.run,h]
theorem tz (X:World) (u v:Value) (hu:∃ a n c,u=.slice a n c) (hv:∃ a n c,v=.slice a n c):(Instr.buildSlice 41 2 #[(0,u),(1,v)]).run Tryz.prog X=.ok (.slice (some ⟨X.heap.size,0,none⟩) 2 2) (X.alloc (.cells #[u,v] 27)):=by
 obtain ⟨i0,hi,cT,bz,dW⟩:=info_parts dC;obtain ⟨a,n,c,rfl⟩:=hu;obtain ⟨a',n',c',rfl⟩:=hv;refine run_buildSlice X 41 27 2 _ _ i0 _ Tryz.underlying41 hi cT (by rw [bz]; decide) (by rw [bz]; decide) ?_;generalize (fun x=>((Value.slice none 0 0).cells)[x % (Value.slice none 0 0).cells.size]!)=f;rw [bz];have h1:Array.range (2*1)=#[0,1]:=rfl;simp [Instr.fill,Value.cells,h1]
theorem rY:(Tryz.prog.info? 43).map (fun i=>(i.zero,i.size,i.bytes))=some (some (.agg #[.int .i64 0,.slice none 0 0]),2,32):=by kernel_rfl
theorem gT {b:Nat} (d:Int) (a:Option Addr) (n c:Nat) (h1:w.cell? ⟨b,0,none⟩=some u1) (h2:w.cell? ⟨b,1,none⟩=some u2) (f1:w.frozen? ⟨b,0,none⟩=false) (f2:w.frozen? ⟨b,1,none⟩=false) :
  (storeVar 43 ⟨b,0,none⟩ (.agg #[.int .i64 d,.slice a n c])).run Tryz.prog w=.ok () ((w.setCell ⟨b,0,none⟩ (.int .i64 d)).setCell ⟨b,1,none⟩ (.slice a n c)):=by
 obtain ⟨i0,hi,cT,bz,dW⟩:=info_parts rY
 have g2:(w.setCell ⟨b,0,none⟩ (.int .i64 d)).cell? ⟨b,1,none⟩=some u2:=by
  rw [World.cell?_setCell_other (h:=by intro e; injection e with e1 e2; omega) ..]
  exact h2
 have gf:(w.setCell ⟨b,0,none⟩ (.int .i64 d)).frozen? ⟨b,1,none⟩=false:=by rw [World.frozen?_setCell]; exact f2
 have pV:(⟨b,0,none⟩:Addr).add 0=⟨b,0,none⟩:=by simp [Addr.add]
 have mX:(⟨b,0,none⟩:Addr).add 1=⟨b,1,none⟩:=by simp [Addr.add]
 simp [storeVar,sizeOf,typeInfo,hi,bz,Value.cells,storeCells,store,pV,mX];simp [Sem.run,h1,f1,g2,gf]
theorem fS {b:Nat} {x y:Value} (h1:w.cell? ⟨b,0,none⟩=some x) (h2:w.cell? ⟨b,1,none⟩=some y):(loadVar 43 ⟨b,0,none⟩).run Tryz.prog w=.ok (.agg #[x,y]) w:=by
 obtain ⟨i0,hi,cT,bz,dW⟩:=info_parts rY
 have pV:(⟨b,0,none⟩:Addr).add 0=⟨b,0,none⟩:=by simp [Addr.add]
 have mX:(⟨b,0,none⟩:Addr).add 1=⟨b,1,none⟩:=by simp [Addr.add]
 have hg:(isAgg 43).run Tryz.prog w=.ok true w:=by kernel_rfl
 simp [loadVar,hg,sizeOf,typeInfo,hi,bz,loadCells,loadCellsFrom,load,pV,mX];simp [Sem.run,h1,h2]
theorem x4 {fn:Func} {p:Tmp} (h:fn.results=#[.cell p 43]) (tmps:Array Value) {b:Nat} {x y:Value} (hp:tmps.getD p undef=.pointer (some ⟨b,0,none⟩)) (h1:w.cell? ⟨b,0,none⟩=some x) (h2:w.cell? ⟨b,1,none⟩=some y) :
  (results fn tmps).run Tryz.prog w=.ok (.agg #[x,y]) w:=by
 have uX:tmps[p]?.getD undef=.pointer (some ⟨b,0,none⟩):=by simpa using hp
 simp [results,h,uX,asAddr,fS h1 h2]
theorem tA {o:Oper} {a:Act} (x y:Operand) (ho:o.op=.buildSlice 41 2 #[(0,x),(1,y)]) (hx:a.eval x=u1) (hy:a.eval y=u2)
  (hr:(Instr.buildSlice 41 2 #[(0,u1),(1,u2)]).run Tryz.prog w=.ok v w'):(execOp a.eval o).run Tryz.prog w=.ok (.value v) w':=by
 subst hx hy;unfold execOp;simp only [ho,Sem.run_bind,Sem.run_pure];simp only [List.map_toArray,List.map_cons,List.map_nil];rw [hr];rfl
theorem x7 {b:Nat} (x y:Value) (h1:W.cell? ⟨b,0,none⟩=some u1) (h2:W.cell? ⟨b,1,none⟩=some u2) (hb:Below B w W) (hB:B<=b:=by omega) :
  ((W.setCell ⟨b,0,none⟩ x).setCell ⟨b,1,none⟩ y).cell? ⟨b,0,none⟩=some x/\((W.setCell ⟨b,0,none⟩ x).setCell ⟨b,1,none⟩ y).cell? ⟨b,1,none⟩=some y/\Below B w ((W.setCell ⟨b,0,none⟩ x).setCell ⟨b,1,none⟩ y):=by
 have g2:(W.setCell ⟨b,0,none⟩ x).cell? ⟨b,1,none⟩=some u2:=by
  rw [World.cell?_setCell_other (h:=by intro e; injection e with e1 e2; omega) ..]
  exact h2
 refine ⟨?_,World.cell?_setCell_same (h:=g2) ..,(hb.setCell hB _).setCell hB _⟩
 rw [World.cell?_setCell_other (h:=by intro e; injection e with e1 e2; omega) ..]
 exact World.cell?_setCell_same (h:=h1) ..
theorem cA (w:World) (cs:Array Value) (t:TypeId) (n j:Nat):((w.alloc (.cells cs t)).drewN n).frozen? ⟨w.heap.size,j,none⟩=false:=by
 have h:(w.alloc (.cells cs t)).frozen? ⟨w.heap.size,j,none⟩=false:=by simp
 exact h
theorem LW {P:Program} {ops:Array Oper} {rest:List Oper} {o:Oper} {a:Act} {Q:Exit->Act->World->Prop} (d:Option Tmp) (hg:o.guard=none) (hd:o.dst=d) (f:FuncId) (args:Array Value)
  (hr:(execOp a.eval o).run P w=.ok (.enter f args) w) (hc:Calls P f args w fun e w'=>∃ v,e=.returned v/\wpList P ops Q rest (a.put d v) w'):wpList P ops Q (o :: rest) a w:=by
 subst hd;refine wpList_plain hg fun K hK=>?_;unfold Oper.wp;rw [hr,Oper.upon_enter];refine hc.mono fun e w' ⟨v,h1,h2⟩=>?_;subst h1;exact hK _ _ h2
theorem ir {o:Oper} {a:Act} (ho:o.op=.alloc 43):(execOp a.eval o).run Tryz.prog w=.ok (.value (.pointer (some ⟨w.heap.size,0,none⟩))) (w.alloc (.cells #[.int .i64 0,.slice none 0 0] 43)):=by
 obtain ⟨i0,hi,cT,bz,dW⟩:=info_parts rY;unfold execOp;simp [ho,Instr.alloc,typeInfo,zeroValue,hi,cT,newVar,Value.cells,Result.andThen];rfl
theorem uY:(Tryz.prog.info? 3).map (fun i=>(i.zero,i.size,i.bytes))=some (some (.int .i64 0),1,8):=by kernel_rfl
theorem aj {o:Oper} {a:Act} (F:FuncId) (x y:Operand) (pW:Array TypeId) (ho:o.op=.call { callee:=.value (.func F),args:=#[x,y],argTypes:=pW }) (hx:a.eval x=u1) (hy:a.eval y=u2)
  (hF:(callFunc F #[u1,u2]).run Tryz.prog w=.ok (.enter F #[u1,u2]) w):(execOp a.eval o).run Tryz.prog w=.ok (.enter F #[u1,u2]) w:=by
 unfold execOp;have hf:a.eval (.func F)=.func (.func F) #[] #[]:=rfl;simp [ho,hx,hy,hf,resolve,invoke,Deferred.ofValue,hF]
theorem aV {o:Oper} {a:Act} (x:Operand) (i:Nat) (ho:o.op=.extract x i) {vs:Array Value} (hx:a.eval x=.tuple vs) (hv:vs[i]?=some v):(execOp a.eval o).run Tryz.prog w=.ok (.value v) w:=by
 unfold execOp;simp [ho,hx,hv,Instr.extract]
theorem gU {o:Oper} {a:Act} (t e:TypeId) (len:Nat) (parts:Array (Nat × Operand)) (ho:o.op=.buildSlice t len parts) (zs:List Int)
  (hu:Tryz.prog.underlying t=some (.slice e)) (eS:(Tryz.prog.info? e).map (·.size)=some 1) (hz:((Tryz.prog.info? e).bind (·.zero)).isSome=true)
  (hlen:len=zs.length) (N6:0<len) (aaI:len<=2 ^ 24)
  (Sn:parts.toList=(zs.zipIdx 0).map fun x=>(x.2,Operand.const (Value.int .i64 x.1))) :
  (execOp a.eval o).run Tryz.prog w=.ok (.value (.slice (some ⟨w.heap.size,0,none⟩) len len)) (w.alloc (.cells (zs.map (Value.int .i64)).toArray e)):=by
 cases Ik:Tryz.prog.info? e with
 | none=>simp [Ik] at eS
 | some ie =>
  simp only [Ik,Option.map_some,Option.some.injEq,Option.bind_some] at eS hz;obtain ⟨z,hzz⟩:=Option.isSome_iff_exists.1 hz
  have h1:=run_buildSlice w t e len (parts.map fun (i,x)=>(i,a.eval x)) ((zs.map (Value.int .i64)).toArray) ie z hu Ik hzz (by rw [eS]; omega) (by rw [eS]; omega) (by
   rw [parts_eval a parts .i64 zs Sn,eS]
   exact Great.fill_flat _ _ (fun v hv=>by obtain ⟨n,_,rfl⟩:=List.mem_map.1 hv; rfl) (by simp [hlen]))
  unfold execOp;simp only [ho,Sem.run_bind,h1,Result.andThen_ok,Sem.run_pure]
theorem jw (w:World) (t:TypeId) (zs:List Int) (hl:zs.length<=1000):Rg.Ints (w.alloc (.cells (zs.map (Value.int .i64)).toArray t)) (.slice (some ⟨w.heap.size,0,none⟩) zs.length zs.length) zs:=by
 refine ⟨_,zs.length,by simp,by simp,by unfold maxLen; omega,by simp [Rg.xe]; omega,fun _=>⟨w.heap.size,0,rfl,by simp,fun i hi=>?_⟩⟩;rw [Nat.zero_add,Rg.aL];simp only [List.getElem?_toArray];exact List.getElem?_eq_getElem hi
theorem pX:(Tryz.prog.info? 3).map (·.size)=some 1:=by kernel_rfl
theorem wI:((Tryz.prog.info? 3).bind (·.zero)).isSome=true:=by kernel_rfl
theorem j7 {o:Oper} {a:Act} (F:FuncId) (pW:Array TypeId) (ho:o.op=.call { callee:=.value (.func F),args:=#[],argTypes:=pW })
  (hF:(callFunc F #[]).run Tryz.prog w=.ok (.enter F #[]) w):(execOp a.eval o).run Tryz.prog w=.ok (.enter F #[]) w:=by
 unfold execOp;have hf:a.eval (.func F)=.func (.func F) #[] #[]:=rfl;simp [ho,hf,resolve,invoke,Deferred.ofValue,hF]
theorem dV {o:Oper} {a:Act} {u3:Value} (F:FuncId) (x y z:Operand) (pW:Array TypeId) (ho:o.op=.call { callee:=.value (.func F),args:=#[x,y,z],argTypes:=pW }) (hx:a.eval x=u1) (hy:a.eval y=u2) (hz:a.eval z=u3)
  (hF:(callFunc F #[u1,u2,u3]).run Tryz.prog w=.ok (.enter F #[u1,u2,u3]) w):(execOp a.eval o).run Tryz.prog w=.ok (.enter F #[u1,u2,u3]) w:=by
 unfold execOp;have hf:a.eval (.func F)=.func (.func F) #[] #[]:=rfl;simp [ho,hx,hy,hz,hf,resolve,invoke,Deferred.ofValue,hF]
theorem kH {o:Oper} {a:Act} (x y z:Operand) (ho:o.op=.pick x y z) (hx:a.eval x=.bool true) (hy:a.eval y=v):(execOp a.eval o).run Tryz.prog w=.ok (.value v) w:=by
 unfold execOp;simp [ho,hx,hy,asBool]
theorem aE {o:Oper} {a:Act} (F:FuncId) (x:Operand) (pW:Array TypeId) (ho:o.op=.call { callee:=.value (.func F),args:=#[x],argTypes:=pW }) (hx:a.eval x=u1)
  (hF:(callFunc F #[u1]).run Tryz.prog w=.ok (.enter F #[u1]) w):(execOp a.eval o).run Tryz.prog w=.ok (.enter F #[u1]) w:=by
 unfold execOp;have hf:a.eval (.func F)=.func (.func F) #[] #[]:=rfl;simp [ho,hx,hf,resolve,invoke,Deferred.ofValue,hF]
theorem Ac {o:Oper} {a:Act} (x:Operand) (ho:o.op=.build 43 #[(0,x)]) (hx:a.eval x=.int .i64 d) :
  (execOp a.eval o).run Tryz.prog w=.ok (.value (.agg #[.int .i64 d,.slice none 0 0])) w:=by
 unfold execOp;simp only [ho,Sem.run_bind,Sem.run_pure];simp only [List.map_toArray,List.map_cons,List.map_nil,hx]
 have h:(Instr.build 43 #[(0,.int .i64 d)]).run Tryz.prog w=.ok (.agg #[.int .i64 d,.slice none 0 0]) w:=by kernel_rfl
 first | (rw [h]; rfl) | (erw [h]; rfl)
theorem dw {o:Oper} {a:Act} {b:Nat} (x:Operand) (ho:o.op=.fieldAddr 43 x 1) (hx:a.eval x=.pointer (some ⟨b,0,none⟩)) :
  (execOp a.eval o).run Tryz.prog w=.ok (.value (.pointer (some ⟨b,1,none⟩))) w:=by
 have h:(Instr.fieldAt 43 (.pointer (some ⟨b,0,none⟩)) 1).run Tryz.prog w=.ok (.pointer (some ⟨b,1,none⟩)) w:=by kernel_rfl
 unfold execOp;simp only [ho,hx,Sem.run_bind,Sem.run_pure,h,Result.andThen_ok]
theorem Il {P:Program} {ops:Array Oper} {rest:List Oper} {o:Oper} {a:Act} {Q:Exit->Act->World->Prop} (d:Option Tmp) (hw:Region.wanted o (yielded ops a.tmps)=true) (hd:o.dst=d)
  (hr:(execOp a.eval o).run P w=.ok (.value v) w') (h:wpList P ops Q rest (a.put d v) w'):wpList P ops Q (o :: rest) a w:=by
 subst hd;unfold wpList;rw [if_pos hw]
 left
 unfold Oper.wp;rw [hr];exact h
theorem a_ {P:Program} {ops:Array Oper} {rest:List Oper} {o:Oper} {a:Act} {Q:Exit->Act->World->Prop} (d:Option Tmp) (hw:Region.wanted o (yielded ops a.tmps)=true) (hd:o.dst=d) (f:FuncId) (args:Array Value)
  (hr:(execOp a.eval o).run P w=.ok (.enter f args) w) (hc:Calls P f args w fun e w'=>∃ v,e=.returned v/\wpList P ops Q rest (a.put d v) w'):wpList P ops Q (o :: rest) a w:=by
 subst hd;unfold wpList;rw [if_pos hw]
 left
 unfold Oper.wp;rw [hr,Oper.upon_enter];refine hc.mono fun e w' ⟨v,h1,h2⟩=>?_;subst h1;exact h2
theorem dG {o:Oper} {a:Act} {u v:Int} (x y:Operand) (ho:o.op=.binOp .eql 30 x y 30) (hx:a.eval x=.int .i64 u) (hy:a.eval y=.int .i64 v) (h:u=v):(execOp a.eval o).run Tryz.prog w=.ok (.value (.bool true)) w:=by
 subst h
 have h:(binOp .eql 30 (.int .i64 u) (.int .i64 u)).run Tryz.prog w=.ok (.bool true) w:=by
  simp [binOp,Op.intCmp]
 have hg:(eqGuard .eql 30 x y (.int .i64 u) (.int .i64 u)).run Tryz.prog w=.ok () w:=by
  simp [eqGuard]
 unfold execOp;simp only [ho,hx,hy,Sem.run_bind,Sem.run_pure,hg,h,Result.andThen_ok]
theorem bN {o:Oper} {a:Act} {u v:Int} {R:Value} (op:BinOp) (t:TypeId) (x y:Operand) (ho:o.op=.binOp op t x y t) (hx:a.eval x=.int .i64 u) (hy:a.eval y=.int .i64 v) (h1:(binOp op t (.int .i64 u) (.int .i64 v)).run Tryz.prog w=.ok R w):(execOp a.eval o).run Tryz.prog w=.ok (.value R) w:=by
 have hg:(eqGuard op t x y (.int .i64 u) (.int .i64 v)).run Tryz.prog w=.ok () w:=by
  simp [eqGuard]
 unfold execOp;simp only [ho,hx,hy,Sem.run_bind,Sem.run_pure,hg,h1,Result.andThen_ok]
theorem Im {u v r:Int} (t:TypeId) (h:u*v=r) (hb:-9223372036854775808<=r/\r<=9223372036854775807):(binOp .mul t (.int .i64 u) (.int .i64 v)).run Tryz.prog w=.ok (.int .i64 r) w:=by
 simp [binOp,Op.intArith,h,IntWalk.i64_in r hb]
theorem cg {u v r:Int} (t:TypeId) (h:u+v=r) (hb:-9223372036854775808<=r/\r<=9223372036854775807):(binOp .add t (.int .i64 u) (.int .i64 v)).run Tryz.prog w=.ok (.int .i64 r) w:=by
 simp [binOp,Op.intArith,h,IntWalk.i64_in r hb]
theorem lU {u v r:Int} (t:TypeId) (h:u - v=r) (hb:-9223372036854775808<=r/\r<=9223372036854775807):(binOp .sub t (.int .i64 u) (.int .i64 v)).run Tryz.prog w=.ok (.int .i64 r) w:=by
 simp [binOp,Op.intArith,h,IntWalk.i64_in r hb]
theorem N7 {u v r:Int} (t:TypeId) (hv:v≠0) (h:u.tdiv v=r) (hb:-9223372036854775808<=r/\r<=9223372036854775807):(binOp .quo t (.int .i64 u) (.int .i64 v)).run Tryz.prog w=.ok (.int .i64 r) w:=by
 simp [binOp,Op.intDiv,hv,h,IntWalk.i64_in r hb]
theorem iN {u v:Int} {b:Bool} (t:TypeId) (h:decide (u=v)=b):(binOp .eql t (.int .i64 u) (.int .i64 v)).run Tryz.prog w=.ok (.bool b) w:=by
 subst h;simp [binOp,Op.intCmp];rfl
theorem fD {u v:Int} {b:Bool} (t:TypeId) (h:decide (v<u)=b):(binOp .gtr t (.int .i64 u) (.int .i64 v)).run Tryz.prog w=.ok (.bool b) w:=by
 subst h;simp [binOp,Op.intCmp]
theorem bu {o:Oper} {a:Act} (x:Operand) (t:TypeId) (b:Bool) (ho:o.op=.unOp .not t x) (hx:a.eval x=.bool b):(execOp a.eval o).run Tryz.prog w=.ok (.value (.bool !b)) w:=by
 have h1:(Op.unary .not (.bool b)).run Tryz.prog w=.ok (.bool !b) w:=by
  simp [Op.unary]
 unfold execOp;simp only [ho,hx,Sem.run_bind,Sem.run_pure,h1,Result.andThen_ok]
theorem EA {o:Oper} {a:Act} (x y z:Operand) (ho:o.op=.pick x y z) (hx:a.eval x=.bool false) (hz:a.eval z=v):(execOp a.eval o).run Tryz.prog w=.ok (.value v) w:=by
 unfold execOp;simp [ho,hx,hz,asBool]
theorem j8 {o:Oper} {a:Act} (e:TypeId) (x:Operand) (t:TypeId) (ho:o.op=.call { callee:=.builtin .len,args:=#[x],argTypes:=#[t] }) (ht:Tryz.prog.underlying t=some (.slice e)) (ad:Option Addr) (n c:Nat) (hx:a.eval x=.slice ad n c):(execOp a.eval o).run Tryz.prog w=.ok (.value (.int .i64 (n:Int))) w:=by
 have hw:goInt (n:Int)=.int .i64 (n:Int):=rfl;unfold execOp;simp [ho,hx,resolve,invoke,builtin,Builtin.len_,run_underlying ht,Result.andThen,hw]
theorem EB {P:Program} {ops:Array Oper} {rest:List Oper} {o:Oper} {a:Act} {Q:Exit->Act->World->Prop} (d:Option Tmp) (hw:Region.wanted o (yielded ops a.tmps)=false) (hd:o.dst=d)
  (h:wpList P ops Q rest (a.put d undef) w):wpList P ops Q (o :: rest) a w:=by
 subst hd;unfold wpList;rw [if_neg (by rw [hw]; decide)];exact h
theorem Io {a:Addr} (h:w.cell? a=some v):a.spot=none:=by
 unfold World.cell? at h
 split at h
 ·split at h
  ·cases h
  ·rename_i hs; simpa using hs
 ·cases h
theorem LX {a:Addr} {b o:Nat} (h:a=⟨b,o,none⟩) (i:Nat):a.add i=⟨b,o+i,none⟩:=by
 subst h;unfold Addr.add
 split
 ·rename_i h0; subst h0; rfl
 ·rfl
theorem Sp:Tryz.prog.cellsOf 3=1:=by kernel_rfl
theorem fN {a:Addr} (h:w.cell? a=some v):a.block<w.heap.size:=by
 unfold World.cell? at h
 split at h
 ·rename_i hh; exact (Array.getElem?_eq_some_iff.1 hh).1
 ·cases h
end Go.Proofs.YtpedbljnhnoohaaGreat
namespace Go.Proofs.Rg
section
open Go.RowKit
theorem _root_.d9 {P : Program} {ops : Array Oper} {rest : List Oper} {o : Oper} {a : Act} {Q : Exit -> Act -> World -> Prop} (d : Nat) (hr : (execOp a.eval o).run P w = .ok (.value v) w') (h : wpList P ops Q rest (a.put (some d) v) w') (hw : Region.wanted o (yielded ops a.tmps) = true := by exact rfl) (hd : o.dst = some d := by exact rfl) : wpList P ops Q (o :: rest) a w := Go.Proofs.YtpedbljnhnoohaaGreat.Il (some d) hw hd hr h
theorem _root_.f8 {P : Program} {ops : Array Oper} {rest : List Oper} {o : Oper} {a : Act} {Q : Exit -> Act -> World -> Prop} (d : Nat) {f : FuncId} {args : Array Value} (hr : (execOp a.eval o).run P w = .ok (.enter f args) w) (hc : Calls P f args w fun e w' => ∃ v, e = .returned v /\ wpList P ops Q rest (a.put (some d) v) w') (hg : o.guard = none := by exact rfl) (hd : o.dst = some d := by exact rfl) : wpList P ops Q (o :: rest) a w := Go.Proofs.YtpedbljnhnoohaaGreat.LW (some d) hg hd f args hr hc
theorem _root_.f9 {p : Prop} [Decidable p] (h : p := by omega) : decide p = true := decide_eq_true h
theorem _root_.g7 {p : Prop} [Decidable p] (h : ¬ p := by omega) : decide p = false := decide_eq_false h
end
section
open Go.RowKit Go.Proofs.YtpedbljnhnoohaaGreat
theorem _root_.g8 {P : Program} {ops : Array Oper} {rest : List Oper} {o : Oper} {a : Act} {Q : Exit -> Act -> World -> Prop} (d : Nat) (h : wpList P ops Q rest (a.put (some d) undef) w) (hw : Region.wanted o (yielded ops a.tmps) = false := by kernel_rfl) (hd : o.dst = some d := by exact rfl) : wpList P ops Q (o :: rest) a w := EB (some d) hw hd h
theorem _root_.g9 (v : Value) (p : Addr) {P : Program} {o : Oper} {a : Act} {t : TypeId} {x : Operand} (hr : (loadVar t p).run P w = .ok v w) (ho : o.op = .load t x := by exact rfl) (hx : a.eval x = .pointer (some p) := by exact rfl) : (execOp a.eval o).run P w = .ok (.value v) w := fQ (v := v) t x ho p hx hr
theorem _root_.i3 (R : Value) (op : BinOp) {o : Oper} {a : Act} {u v : Int} {t : TypeId} {x y : Operand} (ho : o.op = .binOp op t x y t := by exact rfl) (hx : a.eval x = .int .i64 u := by exact rfl) (hy : a.eval y = .int .i64 v := by exact rfl) (h : (binOp op t (.int .i64 u) (.int .i64 v)).run Tryz.prog w = .ok R w) : (execOp a.eval o).run Tryz.prog w = .ok (.value R) w := bN op t x y ho hx hy h
theorem _root_.i4 {o : Oper} {a : Act} {e : TypeId} {x : Operand} {t : TypeId} (ht : Tryz.prog.underlying t = some (.slice e)) {ad : Option Addr} {c:Nat} (ho : o.op = .call { callee := .builtin .len, args := #[x], argTypes := #[t] } := by exact rfl) (hx : a.eval x = .slice ad n c := by exact rfl) : (execOp a.eval o).run Tryz.prog w = .ok (.value (.int .i64 (n : Int))) w := j8 e x t ho ht ad n c hx
theorem _root_.i5 (v : Value) {o : Oper} {a : Act} {x y z : Operand} (ho : o.op = .pick x y z := by exact rfl) (hx : a.eval x = .bool false := by exact rfl) (hz : a.eval z = v := by exact rfl) : (execOp a.eval o).run Tryz.prog w = .ok (.value v) w := EA x y z ho hx hz
theorem _root_.i6 (v : Value) {o : Oper} {a : Act} {x y z : Operand} (ho : o.op = .pick x y z := by exact rfl) (hx : a.eval x = .bool true := by exact rfl) (hy : a.eval y = v := by exact rfl) : (execOp a.eval o).run Tryz.prog w = .ok (.value v) w := kH x y z ho hx hy
theorem _root_.i7 (v : Value) {o : Oper} {a : Act} {x : Operand} {i : Nat} {vs : Array Value} (ho : o.op = .extract x i := by exact rfl) (hx : a.eval x = .tuple vs := by exact rfl) (hv : vs[i]? = some v := by exact rfl) : (execOp a.eval o).run Tryz.prog w = .ok (.value v) w := aV x i ho hx hv
theorem _root_.i8 {P : Program} {md : Region.Mode} {ops : Array Oper} {Q : Exit -> Act -> World -> Prop} {T T2 : World -> Prop} {oi : Oper} {l : Array Bool} {a : Act} (i t : Nat) (v : Value) (d : Nat) (hi : ops[i]? = some oi) (hd : oi.dst = some d) (hy : YieldsIf P ops T oi v a) (hS : aI t T T2 l w) (h : Any P md ops Q (aI t T T2) n (l.setIfInBounds i true) (a.put (some d) v) w)
    (hs : Region.noSelect ops = true := by kernel_rfl) (hf : Region.free md ops l i = true := by kernel_rfl) (hr : (Region.ready md ops l).contains i = true := by kernel_rfl) (hQ : ∀ c a w, Q (.panic c) (a.put (some d) v) w -> Q (.panic c) a w := by exact fun _ _ _ h => h) (pD : (t == i) = false := by exact rfl) (hw : Region.waitsFor md ops t i = true := by kernel_rfl) (hl : l.getD t false = false := by exact rfl) : Any P md ops Q (aI t T T2) (n + 1) l a w := Any.Vx (some d) hi hd hs hf hr hQ pD hw hl hy hS h
theorem _root_.i9 {P : Program} {md : Region.Mode} {ops : Array Oper} {Q : Exit -> Act -> World -> Prop} {S : Array Bool -> World -> Prop} {oi : Oper} {l : Array Bool} {a : Act} (i d : Nat) (hi : ops[i]? = some oi) (hd : oi.dst = some d) (hr : (execOp a.eval oi).run P w = .ok (.value v) w') (hS : S (l.setIfInBounds i true) w') (h : Any P md ops Q S n (l.setIfInBounds i true) (a.put (some d) v) w') (hw : Region.wanted oi (yielded ops a.tmps) = true := by exact rfl) (hre : Region.ready md ops l = [i] := by kernel_rfl) : Any P md ops Q S (n + 1) l a w := Any.one hre (Any.run (some d) hi hd hw hr hS h)
theorem _root_.j0 (ad : Addr) {P : Program} {ops : Array Oper} {o : Oper} {a : Act} {T : World -> Prop} {t : TypeId} {x : Operand} (hr : ∀ w, T w -> (loadVar t ad).run P w = .ok v w) (hg : Region.wanted o (yielded ops a.tmps) = true := by exact rfl) (ho : o.op = .load t x := by exact rfl) (hx : a.eval x = .pointer (some ad) := by exact rfl) : YieldsIf P ops T o v a := Cd t x hg ho ad hx hr
end
end Go.Proofs.Rg
namespace Go.Proofs.Ob
abbrev En:=Nat × Int × Nat × List Nat
def Vz (T:List En):List Nat:=T.map (·.1)
def EC (gs:List (List Nat)) (s x:Nat):Nat:=(gs.getD s []).getD x 0
def gV (gs:List (List Nat)) (e:En) (T:List En) (s:Nat):List En :=
 if EC gs s e.1∈Vz T then T else T++[(EC gs s e.1,(e.1:Int),s+1,e.2.2.2++[s+1])]
def YA (gs:List (List Nat)) (e:En) (T:List En) (n:Nat):List En:=(List.range n).foldl (gV gs e) T
def Sq (gs:List (List Nat)) (p:Nat):Nat->List En
 | 0=>[(p,-1,0,[])]
 | k+1=>match (Sq gs p k)[k]? with
  | some e=>YA gs e (Sq gs p k) gs.length
  | none=>Sq gs p k
def tree (gs:List (List Nat)) (D p:Nat):List En:=Sq gs p D
theorem iU {e:En} {T:List En} {s:Nat} (h:EC gs s e.1∈Vz T):gV gs e T s=T:=by unfold gV; rw [if_pos h]
theorem eU {e:En} {T:List En} {s:Nat} (h:EC gs s e.1∉Vz T):gV gs e T s=T++[(EC gs s e.1,(e.1:Int),s+1,e.2.2.2++[s+1])]:=by unfold gV; rw [if_neg h]
def Cl (D:Nat) (gs:List (List Nat)):Prop:=∀ s,s<gs.length->∀ x,x<D->EC gs s x<D
def VA (gs:List (List Nat)) (D:Nat) (w:List Nat):List Nat:=w.foldl (fun a g=>Ma.ar a (gs.getD (g - 1) [])) (Ma.bh D)
def wd (T:List En) (q:Nat):List Nat:=((T.find? fun e=>e.1 == q).map (·.2.2.2)).getD []

def rD:List Int->Int->List Int
 | [],x=>[x]
 | a :: r,x=>if a<x then a :: rD r x else x :: a :: r
def jk (l:List Int):List Int:=l.foldl rD []
def N8 (x y:Int):Bool:=decide (x<=y)
theorem rZ:∀ (out:List Int) (x:Int),(rD out x).Perm (x :: out)
 | [],x=>List.Perm.refl _
 | a :: r,x=>by
  show (if a<x then a :: rD r x else x :: a :: r).Perm _
  split
  ·exact ((rZ r x).cons a).trans (List.Perm.swap x a r)
  ·exact List.Perm.refl _
theorem tB:∀ (out:List Int) (x:Int),out.Pairwise (·<=·)->(rD out x).Pairwise (·<=·)
 | [],x,_=>by simp [rD]
 | a :: r,x,h=>by
  rw [List.pairwise_cons] at h;show (if a<x then a :: rD r x else x :: a :: r).Pairwise _
  split
  ·rename_i hax
   rw [List.pairwise_cons];refine ⟨fun y hy=>?_,tB r x h.2⟩
   rcases List.mem_cons.1 ((rZ r x).mem_iff.1 hy) with rfl | hy
   ·omega
   ·exact h.1 y hy
  ·rename_i hax
   rw [List.pairwise_cons,List.pairwise_cons];refine ⟨fun y hy=>?_,h.1,h.2⟩
   rcases List.mem_cons.1 hy with rfl | hy
   ·omega
   ·have:=h.1 y hy; omega
theorem qV:∀ (l out:List Int),out.Pairwise (·<=·)->(l.foldl rD out).Perm (l++out)/\(l.foldl rD out).Pairwise (·<=·)
 | [],out,h=>⟨List.Perm.refl _,h⟩
 | x :: l,out,h=>by
  obtain ⟨h1,h2⟩:=qV l (rD out x) (tB out x h);refine ⟨h1.trans ?_,h2⟩;exact ((rZ out x).append_left l).trans (List.perm_middle)
theorem tC:∀ {l l':List Int},l.Perm l'->l.Pairwise (·<=·)->l'.Pairwise (·<=·)->l=l'
 | [],l',h,_,_=>(List.nil_perm.1 h).symm▸rfl
 | a :: r,[],h,_,_=>by simp at h
 | a :: r,b :: r',h,h1,h2=>by
  rw [List.pairwise_cons] at h1 h2
  have e1:a<=b:=by
   rcases List.mem_cons.1 (h.mem_iff.2 (List.mem_cons_self ..):b∈a :: r) with e | hb
   ·omega
   ·exact h1.1 b hb
  have e2:b<=a:=by
   rcases List.mem_cons.1 (h.mem_iff.1 (List.mem_cons_self ..):a∈b :: r') with e | hb
   ·omega
   ·exact h2.1 a hb
  obtain rfl:a=b:=by omega
  rw [tC ((List.perm_cons a).1 h) h1.2 h2.2]
theorem uZ (l:List Int):jk l=l.mergeSort N8:=by
 obtain ⟨h1,h2⟩:=qV l [] List.Pairwise.nil;rw [List.append_nil] at h1;refine tC (h1.trans (List.mergeSort_perm l N8).symm) h2 ?_;have:=List.pairwise_mergeSort (le:=N8) (fun a b c h h'=>by unfold N8 at *; rw [decide_eq_true_iff] at *; omega) (fun a b=>by unfold N8; simp; omega) l;exact this.imp (fun h=>of_decide_eq_true h)
end Go.Proofs.Ob
namespace Go.Proofs.YtpedbljnhnoohaaGreat
open Go.RowKit
open Go.Proofs
section
attribute [local irreducible] Go.Calls
theorem oD (v1 v2:Value) (a c:List Nat) (w:World) (h:Rg.NP w v1 a) (h':Rg.NP w v2 c) (LU:∀ x∈a,x<c.length) (hn:a.length<=1000) (h1:1<=a.length) (h2:1<=c.length) :
  Calls Tryz.prog 143 #[v1,v2] w fun e w'=>∃ v,e=.returned v/\Rg.rT w w' v (Ma.ar a c)/\Below w.heap.size w w':=by
 obtain ⟨ad,cap,rfl,hc,_,_,aR⟩:=h.shape;obtain ⟨b,o,rfl,hb,hr⟩:=aR (by omega);obtain ⟨pT,du,rfl,d_,_,_,dv⟩:=h'.shape;obtain ⟨b2,o2,rfl,eB,tx⟩:=dv (by omega);have Hr:=U hr;have VB:=U tx;have VC:=U LU;clear hr aR h tx dv h' LU;have dp:=mE a.length (by omega) w;have cJ:=U (World.rowIs_made w (.int .i64 0) a.length 3)
 go_enter Tryz.func143,Tryz.ntmps143
 go_wp2;clear dp
 go_loopw [13] (fun i wr=>∃ k:Nat,k<=a.length/\i=.int .i64 k/\Hid (wr.rowIs w.heap.size 3 a.length (fun j=>.int .i64 (if j<k then ((c.getD (a.getD j 0) 0:Nat):Int) else 0)))/\Below w.heap.size w wr) (fun i _=>a.length - (intOf i).toNat)
 case atStart=>exact ⟨0,by omega,rfl,cJ.p.congr (fun i hi=>by simp),(Below.refl _ _).alloc (Nat.le_refl _) _⟩
 case round =>
  obtain ⟨k,hk,rfl,hs,bC⟩:=hrel;obtain ⟨hc,hf⟩:=Rg.rS bC
  by_cases aB:k<a.length
  ·have e0:wr.cell? ⟨b,o+k,none⟩=some (.int .i64 ((a[k]:Nat):Int)):=(hc b (o+k) hb).trans (Hr.p k aB)
   have xf:a[k]<c.length:=VC.p _ (List.getElem_mem aB);have Ad:a.getD k 0=a[k]:=Ma.getD_lt aB
   have e1:wr.cell? ⟨b2,o2+a[k],none⟩=some (.int .i64 ((c.getD (a.getD k 0) 0:Nat):Int)):=by
    rw [Ad,Ma.getD_lt xf];exact (hc b2 (o2+a[k]) eB).trans (VB.p a[k] xf)
   generalize a[k]=x at *;have Hga:=U Ad;generalize hy:c.getD (a.getD k 0) 0=y at *;have Hy:=U hy;clear hc hf Ad hy;have c1:=hs.p.cell aB;have f1:=hs.p.frozen k;simp only [Nat.lt_irrefl,if_false] at c1;go_wp2
   go_roundw
   case rel =>
    refine ⟨k+1,by omega,by go_num,?_,bC.setCell (Nat.le_refl _) _⟩;refine (hs.p.set k _).congr fun i hi=>?_
    by_cases e:i=k
    ·subst e; rw [if_pos rfl,if_pos (by omega),Hy.p]
    ·rw [if_neg e]
     by_cases e2:i<k
     ·rw [if_pos e2,if_pos (by omega)]
     ·rw [if_neg e2,if_neg (by omega)]
   case measure=>simp [intOf]; omega
  ·obtain rfl:k=a.length:=by omega
   go_wp2;go_ret;refine ⟨_,rfl,⟨Rg.NP.iq hs.p (by rw [Ma.cI]) (by omega) (fun i hi=>?_),Rg.fP.mk _ _ _ _⟩,by assumption⟩;rw [Ma.uQ];rw [Ma.cI] at hi;rw [if_pos hi,Ma.getD_lt hi]
theorem Bg {a c:List Nat} (ha:Ma.j4 a) (hc:Ma.j4 c) (h1:1<=a.length) (h2:a.length<=64) (hl:a.length=c.length):Ma.wG [Ma.af a,Ma.af c]=0:=by
 have e1:=Bf ha h1 h2;have e2:=Bf hc (by omega) (by omega)
 have e3:(Ma.af c).length=(Ma.af a).length:=by rw [Ma.az,Ma.az]; omega
 simp [Ma.wG,Ma.dT,Ma.po,e1,e2,e3]
theorem ED (v1 v2:Value) (a c:List Nat) (w:World) (h:Rg.NP w v1 a) (h':Rg.NP w v2 c) (ha:Ma.j4 a) (hc:Ma.j4 c) (hl:a.length=c.length) (h1:1<=a.length) (h2:a.length<=64) :
  Calls Tryz.prog 113 #[v1,v2] w fun e w'=>∃ v,e=.returned (.tuple #[v,.int .i64 0])/\Rg.rT w w' v (Ma.ar a c)/\Below w.heap.size w w':=by
 have hz:=U (Bg ha hc h1 h2 hl);have HL:=U hl;clear hl;have hv:=h;have YB:=h';obtain ⟨ad,cap,rfl,_⟩:=h.shape;obtain ⟨pT,du,rfl,_⟩:=h'.shape;have iV:=tz w (.slice ad a.length cap) (.slice pT c.length du) ⟨_,_,_,rfl⟩ ⟨_,_,_,rfl⟩;have lT:Below w.heap.size w (w.alloc (.cells #[.slice ad a.length cap,.slice pT c.length du] 27)):=(Below.refl _ _).alloc (Nat.le_refl _) _;have k_:=Rg.Rows.two 27 hv YB
 go_enter Tryz.func113,Tryz.ntmps113
 go_upto_region 1 with (fail);refine c6 ?_;refine d5 7 (.slice ad a.length cap) ?_;go_frame;refine d5 8 (.slice pT c.length du) ?_;go_frame;refine d4 9 (tA _ _ rfl rfl rfl iV) ?_;go_frame;refine f8 10 (aE 142 _ _ rfl rfl (by kernel_rfl)) ?_;refine (Be k_ (Nat.le_succ 1) hz lT).mono ?_;rintro e w1 ⟨rfl,cZ⟩;refine ⟨_,rfl,?_⟩;go_frame;refine d6 6 (.int .i64 0) ?_;go_frame;clear iV lT k_
 go_wp2_with (go_at_call 143; refine (oD _ _ a c _ (hv.jj cZ) (YB.jj cZ) (fun x hx=>by have:=ha.1 x hx; have:=HL.p; omega) (by omega) h1 (by have:=HL.p; omega)).mono ?_; rintro e w2 ⟨v2,rfl,Sr,eB⟩)
 go_ret2
 exact ⟨_,rfl,⟨Sr.1,Sr.2.mono cZ.size⟩,Rg.acc cZ eB⟩

theorem N9 (v:Value) (l:List Int) (x:Int) (w:World) (h:Rg.Ints w v l) :
  Calls Tryz.prog 41 #[v,.int .i64 x] w fun e w'=>e=.returned (.bool (decide (x∈l)))/\Below w.heap.size w w':=by
 obtain ⟨ad,cap,rfl,_,u_,_,aR⟩:=h.shape;have Hc:=U aR;clear aR h
 go_enter Tryz.func41,Tryz.ntmps41
 go_wp2
 go_loopw [5] (fun i wr=>∃ k:Nat,k<=l.length/\i=.int .i64 k/\Hid (x∉l.take k)/\Hid (Below w.heap.size w wr)) (fun i _=>l.length - (intOf i).toNat)
 case atStart=>exact ⟨0,by omega,rfl,U (by simp),U (Below.refl _ _)⟩
 case round =>
  obtain ⟨k,hk,rfl,hs,bC⟩:=hrel
  by_cases aB:k<l.length
  ·obtain ⟨b,o,rfl,hb,hc⟩:=Hc.p (by omega)
   have c0:=(bC.p.cell (p:=⟨b,o+k,none⟩) hb).trans (hc k aB);obtain ⟨y,hy⟩:∃ y,Hid (y=l[k]):=⟨_,U rfl⟩;rw [<- hy.p] at c0
   have dD:(k:Int)<(l.length:Int):=by omega
   clear hc hb
   by_cases he:y=x
   ·have hm:decide (x∈l)=true:=by rw [decide_eq_true_iff,<- he,hy.p]; exact List.getElem_mem aB
    have HM:=U hm;clear hm
    have e1:(y == x)=true:=by simp [he]
    go_wp2;go_ret;exact ⟨by rw [HM.p]; rfl,bC.p⟩
   ·have e1:(y == x)=false:=by simp [he]
    have HE:=U he;go_wp2
    go_roundw
    case rel =>
     refine ⟨k+1,by omega,by go_num,U ?_,bC⟩;rw [List.take_succ_eq_append_getElem aB,List.mem_append]
     rintro (hm | hm)
     ·exact hs.p hm
     ·rw [List.mem_singleton] at hm
      exact HE.p (hy.p.trans hm.symm)
    case measure=>simp [intOf]; omega
  ·obtain rfl:k=l.length:=by omega
   have hm:decide (x∈l)=false:=by rw [decide_eq_false_iff_not]; have:=hs.p; rwa [List.take_length] at this
   have HM:=U hm;clear hm;go_wp2;go_ret;exact ⟨by rw [HM.p]; rfl,bC.p⟩
end
section
open Go.Proofs.Ob
attribute [local irreducible] Go.Calls
theorem aP {o:Oper} {a:Act} {ad:Addr} (x:Operand) (ho:o.op=.nilCheck x) (hx:a.eval x=.pointer (some ad)):(execOp a.eval o).run Tryz.prog w=.ok (.value (.pointer (some ad))) w:=by
 unfold execOp;simp only [ho,hx,Sem.run_pure]
theorem ag {o:Oper} {a:Act} {t:TypeId} {i:Nat} {r:Value} (x:Operand) (ho:o.op=.fieldAddr t x i) (hx:a.eval x=v) (h:(Instr.fieldAt t v i).run Tryz.prog w=.ok r w):(execOp a.eval o).run Tryz.prog w=.ok (.value r) w:=by
 unfold execOp;simp only [ho,hx,Sem.run_bind,Sem.run_pure,h,Result.andThen_ok]
theorem bm {o:Oper} {a:Act} {t e:TypeId} (x y:Operand) (ho:o.op=.indexAddr t x y) (hu:Tryz.prog.underlying t=some (.array n e)) (eS:(Tryz.prog.info? e).map (·.size)=some 1) (b of i:Nat) (hx:a.eval x=.pointer (some ⟨b,of,none⟩)) (hy:a.eval y=.int .i64 (i:Int)) (hi:i<n) :
  (execOp a.eval o).run Tryz.prog w=.ok (.value (.pointer (some ⟨b,of+i,none⟩))) w:=by
 obtain ⟨ie,Ik,hs⟩:=Option.map_eq_some_iff.1 eS;have h1:(0:Int)<=(i:Int)/\(i:Int)<(n:Int):=⟨by omega,by omega⟩
 have hr:(Instr.indexAt t (.pointer (some ⟨b,of,none⟩)) (.int .i64 (i:Int))).run Tryz.prog w=.ok (.pointer (some ⟨b,of+i,none⟩)) w:=by
  simp [Instr.indexAt,asIntOf,run_underlying hu,sizeOf,typeInfo,Ik,hs,h1,Addr.add,Instr.sureAddr]
  first | done | rfl | (rw [if_pos hi]; split <;> simp_all)
 unfold execOp;simp only [ho,hx,hy,Sem.run_bind,Sem.run_pure,hr,Result.andThen_ok]

theorem tD (X:World) (x:Int):(Instr.buildSlice 26 1 #[(0,.int .i64 x)]).run Tryz.prog X=.ok (.slice (some ⟨X.heap.size,0,none⟩) 1 1) (X.alloc (.cells #[.int .i64 x] 3)):=by
 obtain ⟨i0,hi,cT,bz,dW⟩:=info_parts uY;refine run_buildSlice X 26 3 1 _ _ i0 _ Tryz.underlying26 hi cT (by rw [bz]; decide) (by rw [bz]; decide) ?_;generalize (fun x=>((Value.int IntKind.i64 0).cells)[x % (Value.int IntKind.i64 0).cells.size]!)=f;rw [bz];have h1:Array.range (1*1)=#[0]:=rfl;simp [Instr.fill,Value.cells,h1]
theorem cy {b o:Nat} (v:Int) (h:w.cell? ⟨b,o,none⟩=some u) (hf:w.frozen? ⟨b,o,none⟩=false) :
  (storeVar 3 ⟨b,o,none⟩ (.int .i64 v)).run Tryz.prog w=.ok () (w.setCell ⟨b,o,none⟩ (.int .i64 v)):=by
 obtain ⟨i0,hi,cT,bz,dW⟩:=info_parts uY
 have h0:(⟨b,o,none⟩:Addr).add 0=⟨b,o,none⟩:=by simp [Addr.add]
 simp [storeVar,sizeOf,typeInfo,hi,bz,Value.cells,storeCells,store,h0];simp [Sem.run,h,hf]
theorem fE {b o:Nat} (v:Bool) (h:w.cell? ⟨b,o,none⟩=some u) (hf:w.frozen? ⟨b,o,none⟩=false) :
  (storeVar 4 ⟨b,o,none⟩ (.bool v)).run Tryz.prog w=.ok () (w.setCell ⟨b,o,none⟩ (.bool v)):=by
 obtain ⟨i0,hi,cT,bz,dW⟩:=info_parts uW
 have h0:(⟨b,o,none⟩:Addr).add 0=⟨b,o,none⟩:=by simp [Addr.add]
 simp [storeVar,sizeOf,typeInfo,hi,bz,Value.cells,storeCells,store,h0];simp [Sem.run,h,hf]

theorem gl {P:Program} {t e:TypeId} {z:Value} (T:Rg.rU P t e z bytes) (ty:TypeId) (fM:X.ownsRow B e 1 v n xs) (hX:B<=X.heap.size) (p c:Nat)
  (hu:X.cell? ⟨p,0,none⟩=some u) (h1:u.oneCell'=true) (hn:n<1000000) :
  ∃ v' X',(Builtin.append_ #[t,t] ty #[v,.slice (some ⟨p,0,none⟩) 1 c]).run P X=.ok v' X'/\X'.ownsRow B e 1 v' (n+1) (xs++[u])/\X.grownBy X' v.ownBlock/\(v'.ownBlock=v.ownBlock∨v'.ownBlock=some X.heap.size)/\∃ a c,v'=.slice a (n+1) c:=by
 obtain ⟨i0,hi,cT,bz,dW⟩:=info_parts T.info
 obtain ⟨v',w',hr,h2,h3,h4,h5⟩:=run_append_own_at (P:=P) X B t ty e i0 z 1 bytes T.ty hi cT bz dW T.zc (by decide) v n xs fM ⟨p,0,none⟩ 1 c [u] rfl (fun j x hj=>by
  obtain rfl:j=0:=by have:=(List.getElem?_eq_some_iff.1 hj).1; simpa using this
  simp at hj; subst hj
  rw [show (⟨p,0,none⟩:Addr).add 0=⟨p,0,none⟩ from rfl]; exact hu) (by simpa using h1) (by unfold maxLen; omega) (by have:(n+1)*bytes<=1000000*64:=Nat.mul_le_mul (by omega) T.small; omega) hX
 exact ⟨v',w',hr,h2,h3,h5,Rg.dt h2⟩
theorem aD {o:Oper} {a:Act} {t e:TypeId} {z:Value} (T:Rg.rU Tryz.prog t e z bytes) (x y:Operand) (ho:o.op=.indexAddr t x y) (b of len cap i:Nat) (hx:a.eval x=.slice (some ⟨b,of,none⟩) len cap) (hy:a.eval y=.int .i64 (i:Int)) (hi:i<len) :
  (execOp a.eval o).run Tryz.prog w=.ok (.value (.pointer (some ⟨b,of+i,none⟩))) w:=by
 have:=Rg.tq T w b of len cap i hi;unfold execOp;simp only [ho,hx,hy,Sem.run_bind,Sem.run_pure,Result.andThen_ok,this]
theorem rE {ad:Addr} (h:w.cell? ad=some v):(loadVar 4 ad).run Tryz.prog w=.ok v w:=by
 simp [loadVar,isAgg,run_underlying Tryz.underlying4,load];simp [Sem.run,h]
theorem N_:(Tryz.prog.info? 3).map (·.size)=some 1:=by kernel_rfl
theorem YC:(Tryz.prog.info? 4).map (·.size)=some 1:=by kernel_rfl

def GG (d:Nat) (gs:List (List Nat)):Prop:=∀ s∈gs,Ma.j4 s/\s.length=d
theorem Oa {s:Nat} (hs:s<gs.length):gs.getD s []=gs[s]:=by
 rw [List.getD_eq_getElem?_getD,List.getElem?_eq_getElem hs,Option.getD_some]
theorem Oc {s x:Nat} (hs:s<gs.length) (hx:x<gs[s].length):EC gs s x=gs[s][x]:=by
 unfold EC;rw [Oa hs,Ma.getD_lt hx]
theorem GG.cl (h:GG D gs):Cl D gs:=fun s hs x hx=>by
 obtain ⟨h1,h2⟩:=h _ (List.getElem_mem hs);rw [Oc hs (by omega)];have:=h1.1 _ (List.getElem_mem (show x<gs[s].length by omega));omega
theorem mix:Tryz.prog.follows .mixedOrders=true:=by kernel_rfl

theorem Od (h:Ma.gM d ll=0):∃ (D:Nat) (gs:List (List Nat)),d=D/\ll=gs.map Ma.af/\GG D gs/\1<=D/\D<=64/\gs.length<=16:=by
 unfold Ma.gM at h
 split at h
 ·rename_i h1
  split at h
  ·rename_i h2
   have hz:=Ma.uO h;obtain ⟨D,rfl⟩:∃ D:Nat,d=D:=⟨d.toNat,by omega⟩
   have hex:∀ l∈ll,∃ p,l=Ma.af p/\Ma.j4 p/\p.length=D:=fun l hl=>by
    obtain ⟨a,b⟩:=hz l hl;obtain ⟨_,_,c⟩:=Ma.jh a;obtain ⟨p,rfl,hp⟩:=Ma.lQ c;rw [Ma.az] at b;exact ⟨p,rfl,hp,by omega⟩
   clear h hz
   have:∃ gs:List (List Nat),ll=gs.map Ma.af/\GG D gs:=by
    clear h2
    induction ll with
    | nil=>exact ⟨[],rfl,fun s hs=>by simp at hs⟩
    | cons l r ih =>
     obtain ⟨gs,rfl,hg⟩:=ih (fun x hx=>hex x (List.mem_cons_of_mem _ hx));obtain ⟨p,rfl,h3,h4⟩:=hex l (List.mem_cons_self ..)
     exact ⟨p :: gs,rfl,fun s hs=>by
      rcases List.mem_cons.1 hs with rfl | hs
      ·exact ⟨h3,h4⟩
      ·exact hg s hs⟩
   obtain ⟨gs,rfl,hg⟩:=this;exact ⟨D,gs,rfl,rfl,hg,by omega,by omega,by simpa using h2⟩
  ·simp at h
 ·simp at h

theorem LY {P:Program} {t e:TypeId} {z:Value} (T:Rg.rU P t e z bytes) (ty:TypeId) (fM:X.ownsRow B e 1 v n xs) (hX:B<=X.heap.size) (p c:Nat)
  (hu:X.cell? ⟨p,0,none⟩=some u) (h1:u.oneCell'=true) (hn:n<1000000) :
  ∃ v' X',(Builtin.append_ #[t,t] ty #[v,.slice (some ⟨p,0,none⟩) 1 c]).run P X=.ok v' X'/\X'.ownsRow B e 1 v' (n+1) (xs++[u])/\X.grownBy X' v.ownBlock/\(v'.ownBlock=v.ownBlock∨v'.ownBlock=some X.heap.size)/\(∃ a c,v'=.slice a (n+1) c) /\
   (∀ g,v.ownBlock=some g->∀ i,i<n->X'.cell? ⟨g,i,none⟩=X.cell? ⟨g,i,none⟩):=by
 obtain ⟨v',X',r1,r2,r3,r4,r5⟩:=gl T ty fM hX p c hu h1 hn;refine ⟨v',X',r1,r2,r3,r4,r5,fun g hg i hi=>?_⟩;obtain ⟨i0,oy,cT,bz,dW⟩:=info_parts T.info;have ho:=fM
 obtain ⟨hl,⟨rfl,_⟩ | ⟨g',cap,cur,rfl,hB,hh,Yv,VD,jG,ht⟩⟩:=fM
 ·simp [Value.ownBlock] at hg
 ·have r_:g'=g:=by simpa [Value.ownBlock] using hg
  subst r_
  by_cases VE:n+1<=cap
  ·have hR:=run_append_room (P:=P) X t ty e i0 T.ty oy g' n cap cur hh ⟨p,0,none⟩ 1 c [u] (by rw [bz]; rfl) (fun j x hj=>by
    obtain rfl:j=0:=by have:=(List.getElem?_eq_some_iff.1 hj).1; simpa using this
    simp at hj; subst hj
    rw [show (⟨p,0,none⟩:Addr).add 0=⟨p,0,none⟩ from rfl]; exact hu) (by simpa using h1) VE (by rw [bz,jG]; simp; omega)
   rw [r1] at hR
   injection hR with e1 e2
   subst e1;have c1:=r2.cellAt (j:=i) (by omega);have c2:=ho.cellAt (j:=i) (by omega);rw [c1,c2,List.getElem?_append_left (by omega)]
  ·obtain rfl:n=cap:=by omega
   have hR:=Rg.LR (P:=P) T ty g' 0 n xs (by omega) (fun j hj=>by
    have c2:=ho.cellAt (j:=j) (by omega)
    rw [Nat.zero_add,c2,List.getElem?_eq_getElem hj]) p c hu hn
   obtain ⟨v2,X2,q1,_,q3,_⟩:=hR;rw [r1] at q1
   injection q1 with e1 e2
   subst e2;exact q3.cell (p:=⟨g',i,none⟩) (Array.getElem?_eq_some_iff.1 hh).1
def LZ (l:List Int):List Value:=l.map (Value.int .i64)
theorem L0 (l:List Int) (x:Int):LZ (l++[x])=LZ l++[.int .i64 x]:=by simp [LZ]
structure T3 (B:Nat) (w:World) (v1 v2 v3:Value) (l1 l2 l3:List Int):Prop where
 o1:w.ownsRow B 3 1 v1 l1.length (LZ l1)
 o2:w.ownsRow B 3 1 v2 l2.length (LZ l2)
 o3:w.ownsRow B 3 1 v3 l3.length (LZ l3)
 a12:Rg.ji v1 v2
 VF:Rg.ji v1 v3
 YD:Rg.ji v2 v3
def Tmp (w:World) (p:Nat) (x:Int) (v1 v2 v3:Value):Prop:=p<w.heap.size/\w.cell? ⟨p,0,none⟩=some (.int .i64 x)/\v1.ownBlock≠some p/\v2.ownBlock≠some p/\v3.ownBlock≠some p
theorem T3.jj {v3:Value} {l1 l2 l3:List Int} (h:T3 B w v1 v2 v3 l1 l2 l3) (hb:Below w.heap.size w w'):T3 B w' v1 v2 v3 l1 l2 l3 :=
 ⟨Rg.bK h.o1 hb,Rg.bK h.o2 hb,Rg.bK h.o3 hb,h.a12,h.VF,h.YD⟩
theorem Tmp.jj {p:Nat} {x:Int} {v3:Value} (h:Tmp w p x v1 v2 v3) (hb:Below w.heap.size w w'):Tmp w' p x v1 v2 v3 :=
 ⟨Nat.lt_of_lt_of_le h.1 hb.size,(hb.cell (p:=⟨p,0,none⟩) h.1).trans h.2.1,h.2.2⟩
theorem T3.tmp {v3:Value} {l1 l2 l3:List Int} (h:T3 B w v1 v2 v3 l1 l2 l3) (x:Int):Tmp (w.alloc (.cells #[.int .i64 x] 3)) w.heap.size x v1 v2 v3 :=
 ⟨by simp,by rw [Rg.aL]; rfl,fun e=>by have:=(h.o1.lt _ e).2; omega,fun e=>by have:=(h.o2.lt _ e).2; omega,fun e=>by have:=(h.o3.lt _ e).2; omega⟩
theorem Ss {v':Value} {s p:Nat} (h:v'.ownBlock=v.ownBlock∨v'.ownBlock=some s) (h1:v.ownBlock≠some p) (hp:p<s):v'.ownBlock≠some p:=by
 rcases h with h | h
 ·rw [h]; exact h1
 ·rw [h]; simp; omega
theorem T3.Ep {v3:Value} {l1 l2 l3:List Int} (h:T3 B w v1 v2 v3 l1 l2 l3) (hB:B<=w.heap.size) {p:Nat} {x:Int} (hp:Tmp w p x v1 v2 v3) (hl:l1.length<1000000) (ty:TypeId) :
  ∃ a c X,(Builtin.append_ #[26,26] ty #[v1,.slice (some ⟨p,0,none⟩) 1 1]).run Tryz.prog w=.ok (.slice a (l1.length+1) c) X/\T3 B X (.slice a (l1.length+1) c) v2 v3 (l1++[x]) l2 l3/\w.heap.size<=X.heap.size /\
   (∀ p' x',Tmp w p' x' v1 v2 v3->Tmp X p' x' (.slice a (l1.length+1) c) v2 v3)/\(∀ g,v1.ownBlock=some g->∀ i,i<l1.length->X.cell? ⟨g,i,none⟩=w.cell? ⟨g,i,none⟩)/\(∀ {B0:Nat} {W0:World},B0<=B->Below B0 W0 w->Below B0 W0 X):=by
 obtain ⟨v',X,r1,r2,r3,r4,⟨a,c,rfl⟩,r6⟩:=LY (P:=Tryz.prog) cM ty h.o1 hB p 1 hp.2.1 rfl hl;refine ⟨a,c,X,r1,⟨by rw [L0,List.length_append]; exact r2,h.a12.keep h.o2 r3,h.VF.keep h.o3 r3,h.a12.grow h.o2 r4 (Nat.le_refl _),h.VF.grow h.o3 r4 (Nat.le_refl _),h.YD⟩,r3.size,fun p' x' ht=>?_,r6,fun h0 hb=>hb.grown r3 (by omega) (fun j hj=>by have:=(h.o1.lt j hj).1; omega)⟩;exact ⟨Nat.lt_of_lt_of_le ht.1 r3.size,r3.cell ht.2.1 (fun e=>ht.2.2.1 e.symm),Ss r4 ht.2.2.1 ht.1,ht.2.2.2⟩

def Gd (d:Nat) (p:List Nat):Prop:=Ma.j4 p/\p.length=d
theorem Gd.mul {d:Nat} {p:List Nat} (h:Gd d p) (h':Gd d q):Gd d (Ma.ar p q):=⟨Ma.Bd h.1 h'.1 (h.2.trans h'.2.symm),by rw [Ma.cI]; exact h.2⟩
theorem Gd.one (D:Nat):Gd D (Ma.bh D):=⟨Ma.Bb D,Ma.fC D⟩
theorem Gd.inv {s:List Nat} (hs:Gd D s):Gd D (Ma.aX s):=⟨Ma.Bc hs.1,by rw [Ma.cR]; exact hs.2⟩
theorem Gd.lt {a b:List Nat} (ha:Gd D a) (hb:Gd D b):∀ x∈a,x<b.length:=fun x hx=>by
 have:=ha.1.1 x hx; have:=ha.2; have:=hb.2; omega
theorem bY {o:Oper} {a:Act} {b:Nat} (x:Operand) (ho:o.op=.fieldAddr 43 x 0) (hx:a.eval x=.pointer (some ⟨b,0,none⟩)) :
  (execOp a.eval o).run Tryz.prog w=.ok (.value (.pointer (some ⟨b,0,none⟩))) w:=by
 have h:(Instr.fieldAt 43 (.pointer (some ⟨b,0,none⟩)) 0).run Tryz.prog w=.ok (.pointer (some ⟨b,0,none⟩)) w:=by kernel_rfl
 unfold execOp;simp only [ho,hx,Sem.run_bind,Sem.run_pure,h,Result.andThen_ok]
end
end Go.Proofs.YtpedbljnhnoohaaGreat
namespace Go.Proofs.Cm
open Go.Proofs
def Gd (n:Nat) (p:List Nat):Prop:=Ma.j4 p/\p.length=n
def ap (x:List Nat) (i:Nat):Nat:=x.getD i 0
theorem j9 {x:List Nat} {i:Nat} (h:i<x.length):ap x i=x[i]:=by simp [ap,List.getD,List.getElem?_eq_getElem h]
theorem bI {x:List Nat} (h:Gd n x) {i:Nat} (hi:i<n):ap x i<n:=by
 have hl:i<x.length:=by rw [h.2]; exact hi
 rw [j9 hl,<- h.2];exact h.1.1 _ (List.getElem_mem hl)
theorem iu {x:List Nat} (h:Gd n x) {i:Nat} (hi:i<n) (hj:j<n) (e:ap x i=ap x j):i=j:=by
 have h1:i<x.length:=by rw [h.2]; exact hi
 have h2:j<x.length:=by rw [h.2]; exact hj
 rw [j9 h1,j9 h2] at e;exact (List.getElem_inj h.1.2).1 e
theorem iw {a b:List Nat} (ha:a.length=n) (hb:b.length=n) (h:∀ i,i<n->ap a i=ap b i):a=b:=by
 apply List.ext_getElem (by omega)
 intro i h1 h2;have:=h i (by omega)
 rwa [j9 h1,j9 h2] at this
theorem dM (n:Nat):Gd n (Ma.bh n):=⟨Ma.Bb n,Ma.fC n⟩
theorem aT {a b:List Nat} (ha:Gd n a) (hb:Gd n b):Gd n (Ma.ar a b):=⟨Ma.Bd ha.1 hb.1 (ha.2.trans hb.2.symm),by rw [Ma.cI]; exact ha.2⟩
theorem aH {a:List Nat} (ha:Gd n a):Gd n (Ma.aX a):=⟨Ma.Bc ha.1,by rw [Ma.cR]; exact ha.2⟩
theorem cD {i:Nat} (h:i<n):ap (Ma.bh n) i=i:=by
 rw [j9 (by rw [Ma.fC]; exact h),Ma.uP]
theorem bs {a b:List Nat} (ha:Gd n a) {i:Nat} (h:i<n):ap (Ma.ar a b) i=ap b (ap a i):=by
 have hl:i<a.length:=by rw [ha.2]; exact h
 rw [j9 (by rw [Ma.cI]; exact hl),Ma.uQ,j9 hl]; rfl
theorem eW {s:List Nat} (hs:Gd n s) {i:Nat} (h:i<n):ap (Ma.aX s) (ap s i)=i:=by
 have hl:i<s.length:=by rw [hs.2]; exact h
 have h2:=bI hs h;rw [j9 (x:=Ma.aX s) (by rw [Ma.cR,hs.2]; exact h2),Ma.qU,j9 hl];exact Ma.nG hs.1 hl
theorem gA {s:List Nat} (hs:Gd n s) {i:Nat} (h:i<n):ap s (ap (Ma.aX s) i)=i:=by
 have h1:=bI (aH hs) h;have h2:=eW (aH hs) h;refine iu (aH hs) (bI hs h1) h ?_;rw [eW hs h1]
theorem mul_assoc {a b c:List Nat} (ha:Gd n a) (hb:Gd n b):Ma.ar (Ma.ar a b) c=Ma.ar a (Ma.ar b c):=by
 refine iw (n:=n) (by rw [Ma.cI,Ma.cI]; exact ha.2) (by rw [Ma.cI]; exact ha.2) fun i hi=>?_;rw [bs (aT ha hb) hi,bs ha hi,bs ha hi,bs hb (bI ha hi)]
theorem one_mul {x:List Nat} (hx:Gd n x):Ma.ar (Ma.bh n) x=x :=
 iw (n:=n) (by rw [Ma.cI,Ma.fC]) hx.2 fun i hi=>by rw [bs (dM n) hi,cD hi]
theorem mul_one {x:List Nat} (hx:Gd n x):Ma.ar x (Ma.bh n)=x :=
 iw (n:=n) (by rw [Ma.cI]; exact hx.2) hx.2 fun i hi=>by rw [bs hx hi,cD (bI hx hi)]
theorem lV {x:List Nat} (hx:Gd n x):Ma.ar x (Ma.aX x)=Ma.bh n :=
 iw (n:=n) (by rw [Ma.cI]; exact hx.2) (Ma.fC n) fun i hi=>by rw [bs hx hi,eW hx hi,cD hi]
theorem inv_mul {x:List Nat} (hx:Gd n x):Ma.ar (Ma.aX x) x=Ma.bh n :=
 iw (n:=n) (by rw [Ma.cI,Ma.cR]; exact hx.2) (Ma.fC n) fun i hi=>by rw [bs (aH hx) hi,gA hx hi,cD hi]
theorem inv_one (n:Nat):Ma.aX (Ma.bh n)=Ma.bh n:=by
 have:=lV (dM n)
 rwa [one_mul (aH (dM n))] at this
theorem mul_inv_cancel {x u:List Nat} (hx:Gd n x) (hu:Gd n u):Ma.ar (Ma.ar x (Ma.aX u)) u=x:=by
 rw [mul_assoc hx (aH hu),inv_mul hu,mul_one hx]
theorem jd {x u:List Nat} (hx:Gd n x) (hu:Gd n u):Ma.ar (Ma.ar x u) (Ma.aX u)=x:=by
 rw [mul_assoc hx hu,lV hu,mul_one hx]
structure cj (n:Nat) (H:List Nat->Prop):Prop where
 gd:∀ x,H x->Gd n x
 one:H (Ma.bh n)
 mul:∀ x y,H x->H y->H (Ma.ar x y)
 inv:∀ x,H x->H (Ma.aX x)
inductive Gr (n:Nat) (gs:List Nat->Prop):List Nat->Prop
 | one:Gr n gs (Ma.bh n)
 | gen (s:List Nat) (h:gs s):Gr n gs s
 | mul (x y:List Nat) (hx:Gr n gs x) (hy:Gr n gs y):Gr n gs (Ma.ar x y)
 | inv (x:List Nat) (hx:Gr n gs x):Gr n gs (Ma.aX x)
theorem Gr.bV {gs:List Nat->Prop} (h:∀ s,gs s->Gd n s):cj n (Gr n gs):=by
 refine ⟨fun x hx=>?_,.one,fun x y=>.mul x y,fun x=>.inv x⟩
 induction hx with
 | one=>exact dM n
 | gen s hs=>exact h s hs
 | mul x y _ _ i1 i2=>exact aT i1 i2
 | inv x _ i1=>exact aH i1
theorem Gr.sub {gs:List Nat->Prop} (hH:cj n H) (h:∀ s,gs s->H s) {x:List Nat} (hx:Gr n gs x):H x:=by
 induction hx with
 | one=>exact hH.one
 | gen s hs=>exact h s hs
 | mul x y _ _ i1 i2=>exact hH.mul _ _ i1 i2
 | inv x _ i1=>exact hH.inv _ i1
theorem Gr.mono {gs gs':List Nat->Prop} (h:∀ s,gs s->gs' s) {x:List Nat} (hx:Gr n gs x):Gr n gs' x:=by
 induction hx with
 | one=>exact .one
 | gen s hs=>exact .gen s (h s hs)
 | mul x y _ _ i1 i2=>exact .mul _ _ i1 i2
 | inv x _ i1=>exact .inv _ i1
def Fx (i:Nat) (x:List Nat):Prop:=∀ j,j<i->ap x j=j
theorem Fx.mono {i:Nat} {x:List Nat} (h:Fx i x) (vd:j<=i):Fx j x:=fun k hk=>h k (Nat.lt_of_lt_of_le hk vd)
theorem Fx.one {i:Nat} (hi:i<=n):Fx i (Ma.bh n):=fun _ hj=>cD (Nat.lt_of_lt_of_le hj hi)
theorem Fx.mul {i:Nat} {x y:List Nat} (gx:Gd n x) (hi:i<=n) (hx:Fx i x) (hy:Fx i y):Fx i (Ma.ar x y):=fun j hj=>by
 rw [bs gx (Nat.lt_of_lt_of_le hj hi),hx j hj,hy j hj]
theorem Fx.inv {i:Nat} {x:List Nat} (gx:Gd n x) (hi:i<=n) (hx:Fx i x):Fx i (Ma.aX x):=fun j hj=>by
 have:=eW gx (Nat.lt_of_lt_of_le hj hi)
 rwa [hx j hj] at this
theorem Fx.all {x:List Nat} (gx:Gd n x) (hx:Fx n x):x=Ma.bh n :=
 iw gx.2 (Ma.fC n) fun i hi=>by rw [hx i hi,cD hi]
def St (H:List Nat->Prop) (i:Nat) (x:List Nat):Prop:=H x/\Fx i x
abbrev Tr:=Nat->Nat->Option (List Nat)
def Sd (n:Nat) (tr:Tr):Nat->List Nat->Prop
 | 0,x=>x=Ma.bh n
 | d+1,x=>∃ u,tr (n - (d+1)) (ap x (n - (d+1)))=some u/\Sd n tr d (Ma.ar x (Ma.aX u))
structure Rp (n lo:Nat) (tr:Tr):Prop where
 gd:∀ i p u,lo<=i->i<n->tr i p=some u->Gd n u
 fx:∀ i p u,lo<=i->i<n->tr i p=some u->Fx i u
 at_:∀ i p u,lo<=i->i<n->tr i p=some u->ap u i=p
 self:∀ i,lo<=i->i<n->tr i i=some (Ma.bh n)
theorem Sd.fx {n lo:Nat} {tr:Tr} (hr:Rp n lo tr):∀ {d:Nat} {x:List Nat},d<=n->lo<=n - d->Gd n x->Sd n tr d x->Fx (n - d) x
 | 0,x,hd,_,gx,h=>by
  cases h
  exact Fx.one (by omega)
 | d+1,x,hd,hl,gx,⟨u,hu,h⟩=>by
  have gu:=hr.gd _ _ _ hl (by omega) hu;have h1:=Sd.fx hr (by omega) (by omega) (aT gx (aH gu)) h;have h2:=mul_inv_cancel gx gu;have h3:=Fx.mul (i:=n - (d+1)) (aT gx (aH gu)) (by omega) (h1.mono (by omega)) (hr.fx _ _ _ hl (by omega) hu)
  rwa [h2] at h3
theorem Sd.one {n lo:Nat} {tr:Tr} (hr:Rp n lo tr):∀ {d:Nat},d<=n->lo<=n - d->Sd n tr d (Ma.bh n)
 | 0,_,_=>rfl
 | d+1,hd,hl=>⟨Ma.bh n,by rw [cD (by omega)]; exact hr.self _ hl (by omega),by rw [inv_one,one_mul (dM n)]; exact Sd.one hr (by omega) (by omega)⟩
theorem Sd.next {lo:Nat} {tr:Tr} (hr:Rp n lo tr) {d:Nat} (hd:d+1<=n) (hl:lo<=n - (d+1)) {x:List Nat} (gx:Gd n x) (hx:ap x (n - (d+1))=n - (d+1)):Sd n tr (d+1) x↔Sd n tr d x:=by
 have e:tr (n - (d+1)) (ap x (n - (d+1)))=some (Ma.bh n):=by rw [hx]; exact hr.self _ hl (by omega)
 constructor
 ·rintro ⟨u,hu,h⟩
  rw [e] at hu
  cases hu
  rwa [inv_one,mul_one gx] at h
 ·intro h
  exact ⟨_,e,by rw [inv_one,mul_one gx]; exact h⟩
theorem Sd.up {n lo:Nat} {tr:Tr} (hr:Rp n lo tr):∀ {k d:Nat},d+k<=n->lo<=n - (d+k)->∀ {x:List Nat},Gd n x->Fx (n - d) x->(Sd n tr (d+k) x↔Sd n tr d x)
 | 0,d,_,_,x,_,_=>Iff.rfl
 | k+1,d,h,hl,x,gx,hx=>by
  have h1:=Sd.next hr (d:=d+k) (by omega) hl gx (hx _ (by omega));exact h1.trans (Sd.up hr (by omega) (by omega) gx hx)
theorem Sd.cons {lo:Nat} {tr:Tr} (hr:Rp n lo tr) {d p:Nat} (hd:d+1<=n) (hl:lo<=n - (d+1)) {y u:List Nat} (gy:Gd n y) (hy:Sd n tr d y) (hu:tr (n - (d+1)) p=some u):Sd n tr (d+1) (Ma.ar y u):=by
 have gu:=hr.gd _ _ _ hl (by omega) hu;have fy:=Sd.fx hr (by omega) (by omega) gy hy
 have e:ap (Ma.ar y u) (n - (d+1))=p:=by
  rw [bs gy (by omega),fy _ (by omega),hr.at_ _ _ _ hl (by omega) hu]
 exact ⟨u,by rw [e]; exact hu,by rw [jd gy gu]; exact hy⟩
theorem Sd.mono {n:Nat} {tr EE:Tr}:∀ {d:Nat},(∀ i p u,n - d<=i->tr i p=some u->EE i p=some u)->∀ {x:List Nat},Sd n tr d x->Sd n EE d x
 | 0,_,_,e=>e
 | d+1,h,_,⟨u,hu,hs⟩=>⟨u,h _ _ _ (Nat.le_refl _) hu,Sd.mono (fun i p u hi=>h i p u (by omega)) hs⟩
structure ve (n lo:Nat) (gn:Nat->List Nat->Prop) (tr:Tr):Prop where
 rp:Rp n lo tr
 gd:∀ i s,lo<=i->i<n->gn i s->Gd n s
 low:∀ i s,lo<=i->i+1<n->gn (i+1) s->Gr n (gn i) s
 mem:∀ i p u,lo<=i->i<n->tr i p=some u->Gr n (gn i) u
 cl:∀ i p u s,lo<=i->i<n->tr i p=some u->gn i s->∃ v,tr i (ap s p)=some v/\Sd n tr (n - (i+1)) (Ma.ar (Ma.ar u s) (Ma.aX v))
theorem ve.sub {n lo:Nat} {gn:Nat->List Nat->Prop} {tr:Tr} (h:ve n lo gn tr) {i:Nat} (hl:lo<=i):∀ {k:Nat},i+k<n->∀ {x:List Nat},Gr n (gn (i+k)) x->Gr n (gn i) x
 | 0,_,x,hx=>hx
 | k+1,hk,x,hx=>h.sub hl (k:=k) (by omega) (Gr.sub (Gr.bV (fun s hs=>h.gd _ s (by omega) (by omega) hs)) (fun s hs=>h.low (i+k) s (by omega) (by omega) hs) hx)
theorem ve.gr {n lo:Nat} {gn:Nat->List Nat->Prop} {tr:Tr} (h:ve n lo gn tr) {i:Nat} (hl:lo<=i) (hi:i<n):∀ {d:Nat},i+d<=n->∀ {x:List Nat},Gd n x->Sd n tr d x->n - d≥i->Gr n (gn i) x
 | 0,_,x,_,e,_=>by cases e; exact .one
 | d+1,hd,x,gx,⟨u,hu,hs⟩,Ci=>by
  have gu:=h.rp.gd _ _ _ (by omega) (by omega) hu;have h1:=ve.gr h hl hi (d:=d) (by omega) (aT gx (aH gu)) hs (by omega)
  have h2:Gr n (gn i) u:=by
   have:=h.mem _ _ _ (by omega) (by omega) hu;exact h.sub hl (i:=i) (k:=n - (d+1) - i) (by omega) (by rwa [show i+(n - (d+1) - i)=n - (d+1) by omega])
  have:=Gr.mul _ _ h1 h2
  rwa [mul_inv_cancel gx gu] at this
def pw (n:Nat) (s:List Nat):Nat->List Nat
 | 0=>Ma.bh n
 | k+1=>Ma.ar (pw n s k) s
theorem ld {n:Nat} {s:List Nat} (hs:Gd n s):∀ k,Gd n (pw n s k)
 | 0=>dM n
 | k+1=>aT (ld hs k) hs
theorem Ky {n:Nat} {s:List Nat} (hs:Gd n s) (i:Nat):∀ j,pw n s (i+j)=Ma.ar (pw n s i) (pw n s j)
 | 0=>(mul_one (ld hs i)).symm
 | j+1=>by
  show Ma.ar (pw n s (i+j)) s=Ma.ar (pw n s i) (Ma.ar (pw n s j) s);rw [Ky hs i j,mul_assoc (ld hs i) (ld hs j)]
def wJ (n:Nat):Nat->List (List Nat)
 | 0=>[[]]
 | k+1=>(wJ n k).flatMap fun l=>(List.range n).map fun x=>x :: l
theorem Bh {n:Nat}:∀ {l:List Nat},(∀ x∈l,x<n)->l∈wJ n l.length
 | [],_=>by simp [wJ]
 | x :: l,h=>by
  have h1:=Bh (l:=l) (fun y hy=>h y (List.mem_cons_of_mem _ hy));have h2:=h x (List.mem_cons_self ..);rw [List.length_cons,wJ,List.mem_flatMap];exact ⟨l,h1,List.mem_map.2 ⟨x,List.mem_range.2 h2,rfl⟩⟩
theorem Su {s:List Nat} (hs:Gd n s) (k:Nat):pw n s k∈wJ n n:=by
 have h:=ld hs k;have:=Bh (n:=n) (l:=pw n s k) (fun x hx=>by rw [<- h.2]; exact h.1.1 x hx)
 rwa [h.2] at this
theorem VG {s:List Nat} (hs:Gd n s):∃ i j,i<j/\pw n s i=pw n s j:=by
 by_cases h:∃ i j,i<j/\pw n s i=pw n s j
 ·exact h
 exfalso
 have hn:((List.range ((wJ n n).length+1)).map (pw n s)).Nodup:=by
  rw [List.Nodup,List.pairwise_iff_getElem];intro i j hi hj vd e;simp at e;exact h ⟨i,j,vd,e⟩
 have:=List.Nodup.length_le_of_subset hn (l₂:=wJ n n) (fun x hx=>by
  obtain ⟨k,_,rfl⟩:=List.mem_map.1 hx
  exact Su hs k)
 simp at this;omega
theorem Sv {s:List Nat} (hs:Gd n s):∃ k,Ma.aX s=pw n s k:=by
 obtain ⟨i,j,vd,e⟩:=VG hs;obtain ⟨k,rfl⟩:∃ k,j=i+(k+1):=⟨j - i - 1,by omega⟩;refine ⟨k,?_⟩
 have h1:pw n s (k+1)=Ma.bh n:=by
  rw [Ky hs] at e
  have e2:Ma.ar (Ma.aX (pw n s i)) (pw n s i)=Ma.ar (Ma.aX (pw n s i)) (Ma.ar (pw n s i) (pw n s (k+1))):=by rw [<- e]
  rw [inv_mul (ld hs i),<- mul_assoc (aH (ld hs i)) (ld hs i),inv_mul (ld hs i),one_mul (ld hs (k+1))] at e2;exact e2.symm
 have h2:Ma.ar (Ma.ar (pw n s k) s) (Ma.aX s)=Ma.ar (Ma.bh n) (Ma.aX s):=by rw [<- h1]; rfl
 rw [jd (ld hs k) hs,one_mul (aH hs)] at h2;exact h2.symm
theorem L1 {gs:List Nat->Prop} (hg:∀ s,gs s->Gd n s) {P:List Nat->Prop} (hs:∀ x s,Gr n gs x->P x->gs s->P (Ma.ar x s)) :
  ∀ {x:List Nat},Gr n gs x->∀ y,Gr n gs y->P y->P (Ma.ar y x)/\P (Ma.ar y (Ma.aX x)):=by
 have G:=Gr.bV (n:=n) hg;intro x hx
 induction hx with
 | one=>intro y gy hy; rw [inv_one,mul_one (G.gd y gy)]; exact ⟨hy,hy⟩
 | gen s h =>
  intro y gy hy;refine ⟨hs y s gy hy h,?_⟩;obtain ⟨k,hk⟩:=Sv (hg s h);rw [hk]
  have:∀ k,Gr n gs (Ma.ar y (pw n s k))/\P (Ma.ar y (pw n s k)):=by
   intro k
   induction k with
   | zero=>show Gr n gs (Ma.ar y (Ma.bh n))/\P (Ma.ar y (Ma.bh n)); rw [mul_one (G.gd y gy)]; exact ⟨gy,hy⟩
   | succ k ih =>
    show Gr n gs (Ma.ar y (Ma.ar (pw n s k) s))/\P (Ma.ar y (Ma.ar (pw n s k) s));rw [<- mul_assoc (G.gd y gy) (ld (hg s h) k)];exact ⟨.mul _ _ ih.1 (.gen s h),hs _ s ih.1 ih.2 h⟩
  exact (this k).2
 | mul a b ha hb ia ib =>
  intro y gy hy
  have e:Ma.aX (Ma.ar a b)=Ma.ar (Ma.aX b) (Ma.aX a):=by
   have ga:=G.gd a ha;have gb:=G.gd b hb;refine iw (n:=n) (aH (aT ga gb)).2 (aT (aH gb) (aH ga)).2 fun i hi=>?_;rw [bs (aH gb) hi];have h1:=bI (aH gb) hi;have h2:=bI (aH ga) h1;refine iu (aT ga gb) (bI (aH (aT ga gb)) hi) h2 ?_;rw [gA (aT ga gb) hi,bs ga h2,gA ga h1,gA gb hi]
  refine ⟨?_,?_⟩
  ·have:=(ib (Ma.ar y a) (.mul _ _ gy ha) (ia y gy hy).1).1
   rwa [mul_assoc (G.gd y gy) (G.gd a ha)] at this
  ·have:=(ia (Ma.ar y (Ma.aX b)) (.mul _ _ gy (.inv _ hb)) (ib y gy hy).2).2
   rwa [mul_assoc (G.gd y gy) (aH (G.gd b hb)),<- e] at this
 | inv a ha ia =>
  intro y gy hy
  have e:Ma.aX (Ma.aX a)=a:=by
   have ga:=G.gd a ha;refine iw (n:=n) (aH (aH ga)).2 ga.2 fun i hi=>?_;refine iu (aH ga) (bI (aH (aH ga)) hi) (bI ga hi) ?_;rw [gA (aH ga) hi,eW ga hi]
  rw [e];exact ⟨(ia y gy hy).2,(ia y gy hy).1⟩
theorem Sw {gs:List Nat->Prop} (hg:∀ s,gs s->Gd n s) {P:List Nat->Prop} (h1:P (Ma.bh n)) (hs:∀ x s,Gr n gs x->P x->gs s->P (Ma.ar x s)) {x:List Nat} (hx:Gr n gs x):P x:=by
 have:=(L1 hg hs hx _ .one h1).1
 rwa [one_mul ((Gr.bV hg).gd x hx)] at this
structure rF (n:Nat) (H:List Nat->Prop) (tr:Tr):Prop where
 rp:Rp n 0 tr
 mem:∀ i p u,i<n->tr i p=some u->H u
 all:∀ i x,i<n->St H i x->∃ u,tr i (ap x i)=some u
theorem ve.Oe {n lo:Nat} {gn:Nat->List Nat->Prop} {tr:Tr} (h:ve n lo gn tr):∀ {d:Nat},d<=n->lo<=n - d->(∀ y z,Gd n y->Gd n z->Sd n tr d y->Sd n tr d z->Sd n tr d (Ma.ar y z))/\(0<d->∀ x,Gr n (gn (n - d)) x->Sd n tr d x)
 | 0,_,_=>⟨fun y z _ gz hy hz=>by
   have uS:y=Ma.bh n:=hy;have xi:z=Ma.bh n:=hz;show Ma.ar y z=Ma.bh n
   rw [uS,xi,one_mul (dM n)],fun h=>by omega⟩
 | d+1,hd,hl=>by
  obtain ⟨ih,_⟩:=ve.Oe h (d:=d) (by omega) (by omega)
  have hi:n - (d+1)<n:=by omega
  have ft:∀ s,gn (n - (d+1)) s->Gd n s:=fun s hs=>h.gd _ s hl hi hs
  have key:∀ x,Gr n (gn (n - (d+1))) x->Sd n tr (d+1) x:=by
   intro x hx;refine Sw ft (P:=Sd n tr (d+1)) (Sd.one h.rp hd hl) ?_ hx;intro x s gx ⟨u,hu,hy⟩ hs;have Gx:=(Gr.bV ft).gd x gx;have gu:=h.rp.gd _ _ _ hl hi hu;have gs:=ft s hs;obtain ⟨v,hv,hq⟩:=h.cl _ _ _ _ hl hi hu hs;have gv:=h.rp.gd _ _ _ hl hi hv;rw [show n - (n - (d+1)+1)=d by omega] at hq;have gy:=aT Gx (aH gu);have gq:=aT (aT gu gs) (aH gv);have h1:=Sd.cons h.rp hd hl (aT gy gq) (ih _ _ gy gq hy hq) hv
   have e:Ma.ar (Ma.ar (Ma.ar x (Ma.aX u)) (Ma.ar (Ma.ar u s) (Ma.aX v))) v=Ma.ar x s:=by
    rw [mul_assoc gy gq,mul_inv_cancel (aT gu gs) gv,<- mul_assoc gy gu,mul_inv_cancel Gx gu]
   rwa [e] at h1
  refine ⟨fun y z gy gz hy hz=>key _ (.mul _ _ (h.gr hl hi (by omega) gy hy (Nat.le_refl _)) (h.gr hl hi (by omega) gz hz (Nat.le_refl _))),fun _=>key⟩
theorem ve.EF {gn:Nat->List Nat->Prop} {tr:Tr} (h:ve n 0 gn tr) (hn:0<n):rF n (Gr n (gn 0)) tr:=by
 have ft:∀ s,gn 0 s->Gd n s:=fun s hs=>h.gd _ s (Nat.zero_le _) hn hs;refine ⟨h.rp,fun i p u hi hu=>?_,fun i x hi hx=>?_⟩
 ·have:=h.mem i p u (Nat.zero_le _) hi hu
  exact h.sub (i:=0) (Nat.le_refl _) (k:=i) (by omega) (by rwa [Nat.zero_add])
 ·have gx:=(Gr.bV ft).gd x hx.1
  have h1:=(h.Oe (d:=n) (Nat.le_refl _) (Nat.zero_le _)).2 hn x (by rw [Nat.sub_self]; exact hx.1);have h2:=(Sd.up h.rp (d:=n - i) (k:=i) (by omega) (Nat.zero_le _) gx (by rw [show n - (n - i)=i by omega]; exact hx.2)).1 (by rw [show n - i+i=n by omega]; exact h1);rw [show n - i=(n - i - 1)+1 by omega] at h2;obtain ⟨u,hu,_⟩:=h2;rw [show n - (n - i - 1+1)=i by omega] at hu;exact ⟨u,hu⟩
def lexLt (n:Nat) (y z:List Nat):Prop:=∃ j,j<n/\(∀ m,m<j->ap y m=ap z m)/\ap y j<ap z j
def my (n:Nat) (P:List Nat->Prop) (y:List Nat):Prop:=P y/\∀ z,P z->z=y∨lexLt n y z
theorem lexLt.asymm {m:Nat} {y z:List Nat} (h:lexLt n y z) (h':lexLt m z y):False:=by
 obtain ⟨j,_,h2,h3⟩:=h;obtain ⟨k,_,h5,h6⟩:=h'
 rcases Nat.lt_trichotomy j k with e | e | e
 ·have:=h5 j e; omega
 ·subst e; omega
 ·have:=h2 k e; omega
theorem my.uniq {P:List Nat->Prop} {y z:List Nat} (h:my n P y) (h':my n P z):y=z:=by
 rcases h.2 z h'.1 with e | e
 ·exact e.symm
 ·rcases h'.2 y h.1 with e' | e'
  ·exact e'
  ·exact (e.asymm e').elim
def LI (H:List Nat->Prop) (i k:Nat) (x y:List Nat):Prop :=
 (∃ h,St H (i+1) h/\y=Ma.ar h x)/\∀ h,St H (i+1) h->(∀ m,m<k->ap y m=ap (Ma.ar h x) m)∨∃ j,j<k/\(∀ m,m<j->ap y m=ap (Ma.ar h x) m)/\ap y j<ap (Ma.ar h x) j
theorem LI.start (hH:cj n H) {i:Nat} (hi:i<n) {x:List Nat} (gx:Gd n x):LI H i (i+1) x x:=by
 refine ⟨⟨Ma.bh n,⟨hH.one,Fx.one (by omega)⟩,(one_mul gx).symm⟩,fun h hh=>.inl fun m hm=>?_⟩;rw [bs (hH.gd h hh.1) (by omega),hh.2 m hm]
theorem LI.step (hH:cj n H) {tr:Tr} (ht:rF n H tr) {i k q:Nat} {x y u:List Nat} (gx:Gd n x) (hik:i<k) (hk:k<n) (h:LI H i k x y) (hu:tr k q=some u)
  (hq:∀ q',tr k q'≠none->ap y q<=ap y q'):LI H i (k+1) x (Ma.ar u y):=by
 obtain ⟨⟨h0,Cj,rfl⟩,h2⟩:=h;have gu:=ht.rp.gd _ _ _ (Nat.zero_le _) hk hu;have fu:=ht.rp.fx _ _ _ (Nat.zero_le _) hk hu;have g0:=hH.gd h0 Cj.1;have gy:=aT g0 gx
 have px:∀ m,m<k->ap (Ma.ar u (Ma.ar h0 x)) m=ap (Ma.ar h0 x) m:=fun m hm=>by rw [bs gu (by omega),fu m hm]
 refine ⟨⟨Ma.ar u h0,⟨hH.mul _ _ (ht.mem _ _ _ hk hu) Cj.1,Fx.mul gu (by omega) (fu.mono (by omega)) Cj.2⟩,(mul_assoc gu g0).symm⟩,fun h hh=>?_⟩
 rcases h2 h hh with h3 | ⟨j,hj,h4,h5⟩
 ·have gh:=hH.gd h hh.1
  have gz:=aT gh gx
  have fg:Fx k (Ma.ar (Ma.ar h x) (Ma.aX (Ma.ar h0 x))):=fun m hm=>by
   rw [bs gz (by omega),<- h3 m hm,eW gy (by omega)]
  have eg:Ma.ar (Ma.ar h x) (Ma.aX (Ma.ar h0 x))=Ma.ar h (Ma.aX h0):=by
   refine iw (n:=n) (aT gz (aH gy)).2 (aT gh (aH g0)).2 fun m hm=>?_;rw [bs gz hm,bs gh hm,bs gh hm];have h1:=bI gh hm;have N4:=bI (aH g0) h1
   have e:ap x (ap h m)=ap (Ma.ar h0 x) (ap (Ma.aX h0) (ap h m)):=by rw [bs g0 N4,gA g0 h1]
   rw [e,eW gy N4]
  have hgH:St H k (Ma.ar (Ma.ar h x) (Ma.aX (Ma.ar h0 x))):=⟨by rw [eg]; exact hH.mul _ _ hh.1 (hH.inv _ Cj.1),fg⟩;obtain ⟨v,hv⟩:=ht.all k _ hk hgH;have hle:=hq _ (by rw [hv]; simp)
  have ez:ap (Ma.ar h0 x) (ap (Ma.ar (Ma.ar h x) (Ma.aX (Ma.ar h0 x))) k)=ap (Ma.ar h x) k:=by
   rw [bs gz hk,gA gy (bI gz hk)]
  rw [ez] at hle
  have ey:ap (Ma.ar u (Ma.ar h0 x)) k=ap (Ma.ar h0 x) q:=by rw [bs gu hk,ht.rp.at_ _ _ _ (Nat.zero_le _) hk hu]
  rcases Nat.lt_or_eq_of_le hle with aB | heq
  ·exact .inr ⟨k,by omega,fun m hm=>by rw [px m hm]; exact h3 m hm,by rw [ey]; exact aB⟩
  ·exact .inl fun m hm=>by
    by_cases e:m=k
    ·subst e; rw [ey,heq]
    ·rw [px m (by omega)]; exact h3 m (by omega)
 ·exact .inr ⟨j,by omega,fun m hm=>by rw [px m (by omega)]; exact h4 m hm,by rw [px j hj]; exact h5⟩
theorem LI.done (hH:cj n H) {i:Nat} (hi:i<n) {x y:List Nat} (hx:St H i x) (h:LI H i n x y):my n (fun z=>St H i z/\ap z i=ap x i) y:=by
 obtain ⟨⟨h0,Cj,rfl⟩,h2⟩:=h;have gx:=hH.gd x hx.1;have g0:=hH.gd h0 Cj.1;refine ⟨⟨⟨hH.mul _ _ Cj.1 hx.1,Fx.mul g0 (by omega) (Cj.2.mono (by omega)) hx.2⟩,by rw [bs g0 hi,Cj.2 i (by omega)]⟩,fun z ⟨hz,hzi⟩=>?_⟩;have gz:=hH.gd z hz.1
 have hf:Fx (i+1) (Ma.ar z (Ma.aX x)):=fun m hm=>by
  rw [bs gz (by omega)]
  by_cases e:m=i
  ·subst e; rw [hzi,eW gx hi]
  ·rw [hz.2 m (by omega)]
   have:=eW gx (show m<n by omega)
   rwa [hx.2 m (by omega)] at this
 have e:=mul_inv_cancel gz gx
 rcases h2 _ ⟨hH.mul _ _ hz.1 (hH.inv _ hx.1),hf⟩ with h3 | h3
 ·rw [e] at h3
  exact .inl (iw (n:=n) gz.2 (aT g0 gx).2 fun m hm=>(h3 m hm).symm)
 ·rw [e] at h3
  obtain ⟨j,hj,h4,h5⟩:=h3;exact .inr ⟨j,hj,h4,h5⟩
structure ak (n:Nat) (H:List Nat->Prop) (O:List (List Nat)) (R:List (List (List Nat))):Prop where
 jH:O.length=n
 iK:R.length=n
 jk:∀ i,i<n->(O.getD i []).Pairwise (· < ·)
 orb:∀ i p,i<n->(p∈O.getD i []↔∃ x,St H i x/\ap x i=p)
 len:∀ i,i<n->(R.getD i []).length=(O.getD i []).length
 rep:∀ i k,i<n->k<(O.getD i []).length->my n (fun z=>St H i z/\ap z i=(O.getD i []).getD k 0) ((R.getD i []).getD k [])
theorem Bi:∀ {l l':List Nat},l.Pairwise (· < ·)->l'.Pairwise (· < ·)->(∀ x,x∈l↔x∈l')->l=l'
 | [],[],_,_,_=>rfl
 | [],y :: l',_,_,h=>by have:=(h y).2 (List.mem_cons_self ..); simp at this
 | x :: l,[],_,_,h=>by have:=(h x).1 (List.mem_cons_self ..); simp at this
 | x :: l,y :: l',h1,h2,h=>by
  rw [List.pairwise_cons] at h1 h2;have hx:=(h x).1 (List.mem_cons_self ..);have hy:=(h y).2 (List.mem_cons_self ..)
  have e:x=y:=by
   rcases List.mem_cons.1 hx with e | e
   ·exact e
   ·rcases List.mem_cons.1 hy with e' | e'
    ·exact e'.symm
    ·have:=h1.1 y e'; have:=h2.1 x e; omega
  subst e
  rw [Bi h1.2 h2.2 fun z=>⟨fun hz=>by
   rcases List.mem_cons.1 ((h z).1 (List.mem_cons_of_mem _ hz)) with e | e
   ·subst e; have:=h1.1 z hz; omega
   ·exact e,fun hz=>by
   rcases List.mem_cons.1 ((h z).2 (List.mem_cons_of_mem _ hz)) with e | e
   ·subst e; have:=h2.1 z hz; omega
   ·exact e⟩]
theorem getD_in {α:Type} {l:List α} {i:Nat} (h:i<l.length) (d:α):l.getD i d=l[i]:=by rw [List.getD,List.getElem?_eq_getElem h]; rfl
theorem ak.uniq {n:Nat} {H:List Nat->Prop} {O O':List (List Nat)} {R R':List (List (List Nat))} (h:ak n H O R) (h':ak n H O' R'):O=O'/\R=R':=by
 have hO:O=O':=by
  apply List.ext_getElem (by rw [h.jH,h'.jH])
  intro i h1 h2
  have hi:i<n:=by rw [<- h.jH]; exact h1
  have e1:O.getD i []=O[i]:=by simp [List.getD,List.getElem?_eq_getElem h1]
  have e2:O'.getD i []=O'[i]:=by simp [List.getD,List.getElem?_eq_getElem h2]
  rw [<- e1,<- e2];exact Bi (h.jk i hi) (h'.jk i hi) fun p=>(h.orb i p hi).trans (h'.orb i p hi).symm
 subst hO;refine ⟨rfl,?_⟩
 apply List.ext_getElem (by rw [h.iK,h'.iK])
 intro i h1 h2
 have hi:i<n:=by rw [<- h.iK]; exact h1
 have e1:R.getD i []=R[i]:=by simp [List.getD,List.getElem?_eq_getElem h1]
 have e2:R'.getD i []=R'[i]:=by simp [List.getD,List.getElem?_eq_getElem h2]
 rw [<- e1,<- e2]
 apply List.ext_getElem (by rw [h.len i hi,h'.len i hi])
 intro k k1 k2
 have hk:k<(O.getD i []).length:=by rw [<- h.len i hi]; exact k1
 have f1:(R.getD i []).getD k []=(R.getD i [])[k]:=getD_in k1 _;have f2:(R'.getD i []).getD k []=(R'.getD i [])[k]:=getD_in k2 _;rw [<- f1,<- f2];exact (h.rep i k hi hk).uniq (h'.rep i k hi hk)

def eG (n:Nat) (tr:Tr):Nat->List Nat->Nat × List Nat
 | 0,x=>(n,x)
 | d+1,x=>match tr (n - (d+1)) (ap x (n - (d+1))) with
  | none=>(n - (d+1),x)
  | some u=>eG n tr d (Ma.ar x (Ma.aX u))
theorem lN {tr:Tr} {d:Nat} {x:List Nat} (h:tr (n - (d+1)) (ap x (n - (d+1)))=none):eG n tr (d+1) x=(n - (d+1),x):=by
 unfold eG; rw [h]
theorem j_ {tr:Tr} {d:Nat} {x u:List Nat} (h:tr (n - (d+1)) (ap x (n - (d+1)))=some u):eG n tr (d+1) x=eG n tr d (Ma.ar x (Ma.aX u)):=by
 conv=>lhs; unfold eG
 rw [h]
theorem x8 {lo:Nat} {tr:Tr} (hr:Rp n lo tr) {i:Nat} (hl:lo<=i) (hi:i<n) {x u:List Nat} (gx:Gd n x) (fx:Fx i x) (hu:tr i (ap x i)=some u):Gd n (Ma.ar x (Ma.aX u))/\Fx (i+1) (Ma.ar x (Ma.aX u)):=by
 have gu:=hr.gd _ _ _ hl hi hu;have fu:=hr.fx _ _ _ hl hi hu;have au:=hr.at_ _ _ _ hl hi hu;refine ⟨aT gx (aH gu),fun j hj=>?_⟩;rw [bs gx (by omega)]
 by_cases e:j=i
 ·subst e; rw [<- au]; exact eW gu hi
 ·rw [fx j (by omega)]
  exact Fx.inv gu (by omega) fu j (by omega)
theorem pY {n lo:Nat} {tr:Tr} (hr:Rp n lo tr):∀ {d:Nat} {x:List Nat},d<=n->lo<=n - d->Gd n x->Fx (n - d) x ->
  (eG n tr d x).1<=n/\n - d<=(eG n tr d x).1/\Gd n (eG n tr d x).2/\Fx (eG n tr d x).1 (eG n tr d x).2/\((eG n tr d x).1<n->tr (eG n tr d x).1 (ap (eG n tr d x).2 (eG n tr d x).1)=none)
 | 0,x,_,_,gx,fx=>⟨Nat.le_refl _,by show n - 0<=n; omega,gx,fx,fun h=>absurd h (Nat.lt_irrefl _)⟩
 | d+1,x,hd,hl,gx,fx=>by
  cases h:tr (n - (d+1)) (ap x (n - (d+1))) with
  | none =>
   rw [lN h];exact ⟨by show n - (d+1)<=n; omega,Nat.le_refl _,gx,fx,fun _=>h⟩
  | some u =>
   rw [j_ h];obtain ⟨g1,f1⟩:=x8 hr hl (by omega) gx fx h;rw [show n - (d+1)+1=n - d by omega] at f1;obtain ⟨a,b,c⟩:=pY hr (d:=d) (by omega) (by omega) g1 f1;exact ⟨a,by omega,c⟩
theorem vg {n:Nat} {tr EE:Tr}:∀ {d:Nat} {x:List Nat},d<=n->(∀ i p u,n - d<=i->tr i p=some u->EE i p=some u)->Sd n EE (n - (eG n tr d x).1) (eG n tr d x).2->Sd n EE d x
 | 0,x,_,_,h=>by
  have:Sd n EE (n - n) x:=h
  rwa [Nat.sub_self] at this
 | d+1,x,hd,hm,hs=>by
  cases h:tr (n - (d+1)) (ap x (n - (d+1))) with
  | none =>
   rw [lN h] at hs;have:Sd n EE (n - (n - (d+1))) x:=hs
   rwa [show n - (n - (d+1))=d+1 by omega] at this
  | some u =>
   rw [j_ h] at hs;exact ⟨u,hm _ _ _ (Nat.le_refl _) h,vg (by omega) (fun i p u hi=>hm i p u (by omega)) hs⟩
theorem EG {n:Nat} {tr:Tr} {H:List Nat->Prop} (hH:cj n H):∀ {d:Nat} {x:List Nat},d<=n->(∀ i p u,n - d<=i->i<n->tr i p=some u->H u)->H x->H (eG n tr d x).2
 | 0,_,_,_,h=>h
 | d+1,x,hd,hm,hx=>by
  cases h:tr (n - (d+1)) (ap x (n - (d+1))) with
  | none=>rw [lN h]; exact hx
  | some u =>
   rw [j_ h];exact EG hH (by omega) (fun i p u hi=>hm i p u (by omega)) (hH.mul _ _ hx (hH.inv _ (hm _ _ _ (Nat.le_refl _) (by omega) h)))
structure Lv where
 gens:List (List Nat)
 orb:List Nat
 rep:Nat->Option (List Nat)
 tried:Nat->Nat
abbrev bq:=Nat->Lv
def bP (T:bq):Tr:=fun i p=>(T i).rep p
structure fK (n:Nat) (T:bq) (i:Nat):Prop where
 Ae:∀ s∈(T i).gens,Gd n s
 L2:∀ s∈(T i).gens,Fx i s
 low:i+1<n->∀ s∈(T (i+1)).gens,Gr n (·∈(T i).gens) s
 self:(T i).rep i=some (Ma.bh n)
 x9:∀ p u,(T i).rep p=some u->Gd n u
 EH:∀ p u,(T i).rep p=some u->Fx i u
 Ck:∀ p u,(T i).rep p=some u->ap u i=p
 Cn:∀ p u,(T i).rep p=some u->p<n
 EJ:∀ p u,(T i).rep p=some u->Gr n (·∈(T i).gens) u
 nd:(T i).orb.Nodup
 orb:∀ p,p∈(T i).orb↔∃ u,(T i).rep p=some u
 le:∀ q,(T i).tried q<=(T i).gens.length
 Of:∀ p,(T i).rep p=none->(T i).tried p=0
 pr:∀ q u k (hk:k<(T i).gens.length),(T i).rep q=some u->k<(T i).tried q->∃ v,(T i).rep (ap (T i).gens[k] q)=some v/\Sd n (bP T) (n - (i+1)) (Ma.ar (Ma.ar u (T i).gens[k]) (Ma.aX v))
def Af (T:bq) (i:Nat):Prop:=∀ q u,(T i).rep q=some u->(T i).tried q=(T i).gens.length
theorem fK.rp {lo:Nat} {T:bq} (h:∀ j,lo<=j->j<n->fK n T j):Rp n lo (bP T) :=
 ⟨fun i p u hl hi hu=>(h i hl hi).x9 p u hu,fun i p u hl hi hu=>(h i hl hi).EH p u hu,fun i p u hl hi hu=>(h i hl hi).Ck p u hu,fun i hl hi=>(h i hl hi).self⟩
theorem fK.VH {lo:Nat} {T:bq} (h:∀ j,lo<=j->j<n->fK n T j/\Af T j):ve n lo (fun i s=>s∈(T i).gens) (bP T):=by
 refine ⟨fK.rp fun j a b=>(h j a b).1,fun i s a b=>(h i a b).1.Ae s,fun i s a b=>(h i a (by omega)).1.low b s,fun i p u a b hu=>(h i a b).1.EJ p u hu,fun i p u s a b hu hs=>?_⟩;obtain ⟨k,hk,rfl⟩:=List.getElem_of_mem hs;exact (h i a b).1.pr p u k hk hu (by rw [(h i a b).2 p u hu]; exact hk)
theorem fK.sd {lo:Nat} {T:bq} (h:∀ j,lo<=j->j<n->fK n T j/\Af T j) (hl:lo<n) {x:List Nat} (hx:Gr n (·∈(T lo).gens) x):Sd n (bP T) (n - lo) x:=by
 have:=((fK.VH h).Oe (d:=n - lo) (by omega) (by omega)).2 (by omega) x;rw [show n - (n - lo)=lo by omega] at this;exact this hx
structure Ext (T T':bq):Prop where
 rep:∀ j p u,(T j).rep p=some u->(T' j).rep p=some u
 orb:∀ j,(T j).orb.length<=(T' j).orb.length
 gens:∀ j s,s∈(T j).gens->s∈(T' j).gens
theorem Ext.refl (T:bq):Ext T T:=⟨fun _ _ _ h=>h,fun _=>Nat.le_refl _,fun _ _ h=>h⟩
theorem Ext.trans {T T' YE:bq} (h:Ext T T') (h':Ext T' YE):Ext T YE:=⟨fun j p u e=>h'.rep j p u (h.rep j p u e),fun j=>Nat.le_trans (h.orb j) (h'.orb j),fun j s e=>h'.gens j s (h.gens j s e)⟩
theorem fK.UA {i:Nat} {T T':bq} (h:fK n T i) (he:T' i=T i) (hx:∀ j p u,(T j).rep p=some u->(T' j).rep p=some u) (px:i+1<n->∀ s∈(T' (i+1)).gens,Gr n (·∈(T i).gens) s):fK n T' i:=by
 refine ⟨by rw [he]; exact h.Ae,by rw [he]; exact h.L2,by rw [he]; exact px,by rw [he]; exact h.self,by rw [he]; exact h.x9,by rw [he]; exact h.EH,by rw [he]; exact h.Ck,by rw [he]; exact h.Cn,by rw [he]; exact h.EJ,by rw [he]; exact h.nd,by rw [he]; exact h.orb,by rw [he]; exact h.le,by rw [he]; exact h.Of,?_⟩;simp only [he];intro q u k hk hu hq;obtain ⟨v,h1,h2⟩:=h.pr q u k hk hu hq;exact ⟨v,h1,Sd.mono (fun j p u _ e=>hx j p u e) h2⟩
theorem fK.ext {i:Nat} {T T':bq} (h:fK n T i) (he:T' i=T i) (hx:Ext T T') (px:i+1<n->∀ s∈(T' (i+1)).gens,Gr n (·∈(T i).gens) s):fK n T' i:=h.UA he hx.rep px
theorem Af.ext {i:Nat} {T T':bq} (h:Af T i) (he:T' i=T i):Af T' i:=by
 unfold Af at *; rw [he]; exact h
def pZ (n:Nat) (T:bq):Nat->Nat
 | 0=>0
 | d+1=>(T (n - (d+1))).orb.length+pZ n T d
def Co (n:Nat) (T:bq) (i:Nat):Nat:=pZ n T (n - i)
theorem se {n:Nat} {T T':bq} (h:Ext T T'):∀ d,pZ n T d<=pZ n T' d
 | 0=>Nat.le_refl _
 | d+1=>Nat.add_le_add (h.orb _) (se h d)
theorem x_ {n:Nat} {T T':bq} (h:Ext T T') {i:Nat} (hi:i<n) (aB:(T i).orb.length<(T' i).orb.length):∀ d,d<=n->n - i<=d->pZ n T d<pZ n T' d
 | 0,_,hd=>by omega
 | d+1,YG,hd=>by
  by_cases e:n - i=d+1
  ·have:n - (d+1)=i:=by omega
   show (T (n - (d+1))).orb.length+pZ n T d<(T' (n - (d+1))).orb.length+pZ n T' d;rw [this];exact Nat.add_lt_add_of_lt_of_le aB (se h d)
  ·exact Nat.add_lt_add_of_le_of_lt (h.orb _) (x_ h hi aB d (by omega) (by omega))
theorem L3 {T T':bq} (h:Ext T T') (i:Nat):Co n T i<=Co n T' i:=se h _
theorem L4 {T T':bq} (h:Ext T T') {i:Nat} (hi:i<n) (hj:j<=i) (aB:(T i).orb.length<(T' i).orb.length):Co n T j<Co n T' j:=x_ h hi aB _ (by omega) (by omega)
theorem nJ {i:Nat} {T:bq} (h:fK n T i):(T i).orb.length<=n:=by
 have h1:(T i).orb ⊆ List.range n:=fun p hp=>by
  obtain ⟨u,hu⟩:=(h.orb p).1 hp;exact List.mem_range.2 (h.Cn p u hu)
 have:=List.Nodup.length_le_of_subset h.nd h1
 rwa [List.length_range] at this
theorem EK {n lo:Nat} {T:bq} (h:∀ j,lo<=j->j<n->fK n T j):∀ d,d<=n->lo<=n - d->pZ n T d<=d*n
 | 0,_,_=>by simp [pZ]
 | d+1,hd,hl=>by
  have h1:=nJ (h (n - (d+1)) hl (by omega));have h2:=EK h d (by omega) (by omega);show _+_<=_;rw [Nat.succ_mul]; omega
theorem Kz {lo:Nat} {T:bq} (h:∀ j,lo<=j->j<n->fK n T j) {i:Nat} (hi:lo<=i) (hn:n<=64):Co n T i<=4096:=by
 by_cases bG:i<=n
 ·have h1:=EK h (n - i) (by omega) (by omega)
  have h2:(n - i)*n<=64*64:=Nat.mul_le_mul (by omega) hn;unfold Co; omega
 ·unfold Co; rw [show n - i=0 by omega]; simp [pZ]
def gV (T:bq) (lo hi:Nat) (r:List Nat):bq:=fun j=>if lo<=j/\j<=hi then { T j with gens:=(T j).gens++[r] } else T j
theorem iU {T:bq} {lo hi:Nat} {r:List Nat} (h:lo<=j/\j<=hi):gV T lo hi r j={ T j with gens:=(T j).gens++[r] }:=if_pos h
theorem eU {T:bq} {lo hi:Nat} {r:List Nat} (h:¬ (lo<=j/\j<=hi)):gV T lo hi r j=T j:=if_neg h
theorem tE (T:bq) (lo hi:Nat) (r:List Nat):bP (gV T lo hi r)=bP T:=by
 funext j p
 unfold bP
 by_cases h:lo<=j/\j<=hi
 ·rw [iU h]
 ·rw [eU h]
theorem vh (T:bq) (lo hi:Nat) (r:List Nat) (j:Nat):(gV T lo hi r j).orb=(T j).orb:=by
 by_cases h:lo<=j/\j<=hi
 ·rw [iU h]
 ·rw [eU h]
theorem vk (T:bq) (lo hi:Nat) (r:List Nat):Ext T (gV T lo hi r) :=
 ⟨fun j p u h=>(show bP (gV T lo hi r) j p=some u by rw [tE]; exact h),fun j=>by rw [vh]; exact Nat.le_refl _,fun j s hs=>by
  by_cases h:lo<=j/\j<=hi
  ·rw [iU h]; exact List.mem_append_left _ hs
  ·rw [eU h]; exact hs⟩
theorem L5 {lo hi i:Nat} {T:bq} {r:List Nat} (h:fK n T i) (hl:lo<=i) (hr:Gd n r) (hf:Fx hi r):fK n (gV T lo hi r) i:=by
 have Cp:=fun p=>congrFun (congrFun (tE T lo hi r) i) p;have rG:∀ p,(gV T lo hi r i).rep p=(T i).rep p:=Cp
 by_cases jE:i<=hi
 ·have e:=iU (T:=T) (r:=r) ⟨hl,jE⟩
  have hg:∀ s,s∈(T i).gens->s∈(gV T lo hi r i).gens:=fun s hs=>by rw [e]; exact List.mem_append_left _ hs
  have hm:∀ s,s∈(gV T lo hi r i).gens->s∈(T i).gens∨s=r:=fun s hs=>by
   rw [e] at hs
   rcases List.mem_append.1 hs with hs | hs
   ·exact .inl hs
   ·exact .inr (List.mem_singleton.1 hs)
  have Sx:r∈(gV T lo hi r i).gens:=by rw [e]; exact List.mem_append_right _ (List.mem_singleton.2 rfl)
  refine ⟨fun s hs=>?_,fun s hs=>?_,fun h1 s hs=>?_,by rw [rG]; exact h.self,fun p u hu=>h.x9 p u (by rwa [rG] at hu),fun p u hu=>h.EH p u (by rwa [rG] at hu),fun p u hu=>h.Ck p u (by rwa [rG] at hu),fun p u hu=>h.Cn p u (by rwa [rG] at hu),
   fun p u hu=>(h.EJ p u (by rwa [rG] at hu)).mono hg,by rw [vh]; exact h.nd,fun p=>by rw [vh,rG]; exact h.orb p,fun q=>?_,fun p hp=>by rw [rG] at hp; rw [e]; exact h.Of p hp,?_⟩
  ·rcases hm s hs with hs | rfl
   ·exact h.Ae s hs
   ·exact hr
  ·rcases hm s hs with hs | rfl
   ·exact h.L2 s hs
   ·exact hf.mono jE
  ·by_cases h2:i+1<=hi
   ·rw [iU ⟨by omega,h2⟩] at hs
    rcases List.mem_append.1 hs with hs | hs
    ·exact (h.low h1 s hs).mono hg
    ·rw [List.mem_singleton] at hs; subst hs; exact .gen _ Sx
   ·rw [eU (by omega)] at hs
    exact (h.low h1 s hs).mono hg
  ·have:=h.le q
   rw [e]; simp; omega
  ·intro q u k hk hu hq
   rw [rG] at hu
   have L6:k<(T i).tried q:=by rw [e] at hq; exact hq
   have Sy:k<(T i).gens.length:=Nat.lt_of_lt_of_le L6 (h.le q)
   have eg:(gV T lo hi r i).gens[k]=(T i).gens[k]:=by simp only [e]; rw [List.getElem_append_left Sy]
   obtain ⟨v,h1,h2⟩:=h.pr q u k Sy hu L6;rw [eg];exact ⟨v,by rw [rG]; exact h1,by rw [tE]; exact h2⟩
 ·exact h.ext (eU (by omega)) (vk T lo hi r) fun h1 s hs=>by
   rw [eU (by omega)] at hs; exact h.low h1 s hs
def tick (T:bq) (i q:Nat):bq:=fun j=>if j=i then { T j with tried:=fun p=>if p=q then (T j).tried p+1 else (T j).tried p } else T j
def find (T:bq) (i p:Nat) (y:List Nat):bq:=fun j=>if j=i then { T j with orb:=(T j).orb++[p],rep:=fun z=>if z=p then some y else (T j).rep z } else T j
theorem ee (T:bq) (i q:Nat):tick T i q i={ T i with tried:=fun p=>if p=q then (T i).tried p+1 else (T i).tried p }:=if_pos rfl
theorem iW {T:bq} {i q:Nat} (h:j≠i):tick T i q j=T j:=if_neg h
theorem nK (T:bq) (i p:Nat) (y:List Nat):find T i p y i={ T i with orb:=(T i).orb++[p],rep:=fun z=>if z=p then some y else (T i).rep z }:=if_pos rfl
theorem p6 {T:bq} {i p:Nat} {y:List Nat} (h:j≠i):find T i p y j=T j:=if_neg h
theorem kb (T:bq) (i q:Nat):Ext T (tick T i q) :=
 ⟨fun j p u h=>by
  by_cases e:j=i
  ·subst e; rw [ee]; exact h
  ·rw [iW e]; exact h,fun j=>by
  by_cases e:j=i
  ·subst e; rw [ee]; exact Nat.le_refl _
  ·rw [iW e]; exact Nat.le_refl _,fun j s hs=>by
  by_cases e:j=i
  ·subst e; rw [ee]; exact hs
  ·rw [iW e]; exact hs⟩
theorem vn {T:bq} {i p:Nat} {y:List Nat} (hp:(T i).rep p=none):Ext T (find T i p y) :=
 ⟨fun j z u h=>by
  by_cases e:j=i
  ·subst e
   rw [nK];show (if z=p then some y else (T j).rep z)=some u;rw [if_neg,h];rintro rfl; rw [hp] at h; cases h
  ·rw [p6 e]; exact h,fun j=>by
  by_cases e:j=i
  ·subst e; rw [nK]; simp
  ·rw [p6 e]; exact Nat.le_refl _,fun j s hs=>by
  by_cases e:j=i
  ·subst e; rw [nK]; exact hs
  ·rw [p6 e]; exact hs⟩
theorem L7 {i q:Nat} {T T':bq} (h:fK n T i) {s uq v:List Nat} (hk:(T i).tried q<(T i).gens.length) (hs:(T i).gens[(T i).tried q]=s) (lf:(T i).rep q=some uq)
  (hi:T' i=tick T i q i) (hx:Ext T T') (px:i+1<n->∀ s∈(T' (i+1)).gens,Gr n (·∈(T i).gens) s) (hv:(T i).rep (ap s q)=some v) (VI:Sd n (bP T') (n - (i+1)) (Ma.ar (Ma.ar uq s) (Ma.aX v))):fK n T' i:=by
 rw [ee] at hi;refine ⟨by rw [hi]; exact h.Ae,by rw [hi]; exact h.L2,by rw [hi]; exact px,by rw [hi]; exact h.self,by rw [hi]; exact h.x9,by rw [hi]; exact h.EH,by rw [hi]; exact h.Ck,by rw [hi]; exact h.Cn,by rw [hi]; exact h.EJ,by rw [hi]; exact h.nd,by rw [hi]; exact h.orb,?_,?_,?_⟩
 ·rw [hi]
  intro p;show (if p=q then (T i).tried p+1 else (T i).tried p)<=(T i).gens.length
  split
  ·rename_i e; subst e; omega
  ·exact h.le p
 ·rw [hi]
  intro p hp;show (if p=q then (T i).tried p+1 else (T i).tried p)=0;rw [if_neg]
  ·exact h.Of p hp
  ·rintro rfl
   have uX:(T i).rep p=none:=hp;rw [lf] at uX; cases uX
 ·simp only [hi]
  intro p u k cU hu hp
  by_cases e:p=q
  ·subst e
   rw [if_pos rfl] at hp
   by_cases e2:k=(T i).tried p
   ·subst e2
    rw [lf] at hu; cases hu;rw [hs]; exact ⟨v,hv,VI⟩
   ·obtain ⟨v2,h1,h2⟩:=h.pr p u k cU hu (by omega)
    exact ⟨v2,h1,Sd.mono (fun j p u _ e=>hx.rep j p u e) h2⟩
  ·rw [if_neg e] at hp
   obtain ⟨v2,h1,h2⟩:=h.pr p u k cU hu hp;exact ⟨v2,h1,Sd.mono (fun j p u _ e=>hx.rep j p u e) h2⟩
theorem L8 {i q:Nat} {T:bq} (h:∀ j,i<=j->j<n->fK n T j) (bG:i<n) {s uq:List Nat} (hk:(T i).tried q<(T i).gens.length) (hs:(T i).gens[(T i).tried q]=s) (lf:(T i).rep q=some uq) (hp:(T i).rep (ap s q)=none) :
  fK n (find (tick T i q) i (ap s q) (Ma.ar uq s)) i:=by
 have hl:=h i (Nat.le_refl _) bG
 have L9:s∈(T i).gens:=by rw [<- hs]; exact List.getElem_mem hk
 have gs:=hl.Ae s L9;have gu:=hl.x9 q uq lf;have hq:=hl.Cn q uq lf;have gy:=aT gu gs;have hx:Ext T (find (tick T i q) i (ap s q) (Ma.ar uq s)):=(kb T i q).trans (vn (by rw [ee]; exact hp))
 have ei:find (tick T i q) i (ap s q) (Ma.ar uq s) i={ gens:=(T i).gens,orb:=(T i).orb++[ap s q],rep:=fun z=>if z=ap s q then some (Ma.ar uq s) else (T i).rep z,tried:=fun p=>if p=q then (T i).tried p+1 else (T i).tried p }:=by rw [nK,ee]
 have ay:ap (Ma.ar uq s) i=ap s q:=by rw [bs gu bG,hl.Ck q uq lf]
 have fy:Fx i (Ma.ar uq s):=Fx.mul gu (by omega) (hl.EH q uq lf) (hl.L2 s L9);refine ⟨by rw [ei]; exact hl.Ae,by rw [ei]; exact hl.L2,?_,?_,?_,?_,?_,?_,?_,?_,?_,?_,?_,?_⟩
 ·rw [ei]
  intro h1 z hz;rw [p6 (by omega),iW (by omega)] at hz;exact hl.low h1 z hz
 ·rw [ei]
  show (if i=ap s q then _ else _)=_;rw [if_neg,hl.self];intro e; rw [<- e,hl.self] at hp; cases hp
 ·rw [ei]
  intro p u hu;have fR:(if p=ap s q then some (Ma.ar uq s) else (T i).rep p)=some u:=hu
  split at fR
  ·cases fR; exact gy
  ·exact hl.x9 p u fR
 ·rw [ei]
  intro p u hu;have fR:(if p=ap s q then some (Ma.ar uq s) else (T i).rep p)=some u:=hu
  split at fR
  ·cases fR; exact fy
  ·exact hl.EH p u fR
 ·rw [ei]
  intro p u hu;have fR:(if p=ap s q then some (Ma.ar uq s) else (T i).rep p)=some u:=hu
  split at fR
  ·rename_i e; cases fR; rw [e]; exact ay
  ·exact hl.Ck p u fR
 ·rw [ei]
  intro p u hu;have fR:(if p=ap s q then some (Ma.ar uq s) else (T i).rep p)=some u:=hu
  split at fR
  ·rename_i e; rw [e]; exact bI gs hq
  ·exact hl.Cn p u fR
 ·rw [ei]
  intro p u hu;have fR:(if p=ap s q then some (Ma.ar uq s) else (T i).rep p)=some u:=hu
  split at fR
  ·cases fR; exact .mul _ _ (hl.EJ q uq lf) (.gen _ L9)
  ·exact hl.EJ p u fR
 ·rw [ei]
  show ((T i).orb++[ap s q]).Nodup;rw [List.nodup_append];refine ⟨hl.nd,by simp,?_⟩;intro a ha b hb e;rw [List.mem_singleton] at hb;subst hb; subst e;obtain ⟨u,hu⟩:=(hl.orb _).1 ha;rw [hp] at hu; cases hu
 ·rw [ei]
  intro p;show p∈(T i).orb++[ap s q]↔∃ u,(if p=ap s q then some (Ma.ar uq s) else (T i).rep p)=some u;rw [List.mem_append,List.mem_singleton]
  by_cases e:p=ap s q
  ·rw [if_pos e]; exact ⟨fun _=>⟨_,rfl⟩,fun _=>.inr e⟩
  ·rw [if_neg e,<- hl.orb p]; exact ⟨fun h=>h.resolve_right e,.inl⟩
 ·rw [ei]
  intro p;show (if p=q then (T i).tried p+1 else (T i).tried p)<=(T i).gens.length
  split
  ·rename_i e; subst e; omega
  ·exact hl.le p
 ·rw [ei]
  intro p q8;have mY:(if p=ap s q then some (Ma.ar uq s) else (T i).rep p)=none:=q8;show (if p=q then (T i).tried p+1 else (T i).tried p)=0
  split at mY
  ·cases mY
  ·rw [if_neg]
   ·exact hl.Of p mY
   ·rintro rfl; rw [lf] at mY; cases mY
 ·intro p u k tF hu gP
  have cU:k<(T i).gens.length:=by rw [ei] at tF; exact tF
  simp only [ei] at hu gP ⊢
  have Cp:∀ z v,(T i).rep z=some v->(if z=ap s q then some (Ma.ar uq s) else (T i).rep z)=some v:=fun z v hz=>by
   rw [if_neg,hz];rintro rfl; rw [hp] at hz; cases hz
  have hold:∀ p u k (cU:k<(T i).gens.length),(T i).rep p=some u->k<(T i).tried p->∃ v,(if ap (T i).gens[k] p=ap s q then some (Ma.ar uq s) else (T i).rep (ap (T i).gens[k] p))=some v/\Sd n (bP (find (tick T i q) i (ap s q) (Ma.ar uq s))) (n - (i+1)) (Ma.ar (Ma.ar u (T i).gens[k]) (Ma.aX v)):=fun p u k cU hu gP=>by
   obtain ⟨v,h1,h2⟩:=hl.pr p u k cU hu gP;exact ⟨v,Cp _ _ h1,Sd.mono (fun j p u _ e=>hx.rep j p u e) h2⟩
  by_cases e:p=ap s q
  ·
   rw [if_pos e] at hu
   exfalso
   by_cases e2:p=q
   ·rw [<- e2,e,hp] at lf; cases lf
   ·rw [if_neg e2] at gP
    have:=hl.Of p (by rw [e]; exact hp);omega
  ·rw [if_neg e] at hu
   by_cases e2:p=q
   ·subst e2
    rw [if_pos rfl] at gP
    by_cases e3:k=(T i).tried p
    ·subst e3
     rw [lf] at hu; cases hu;rw [hs,if_pos rfl];refine ⟨_,rfl,?_⟩;rw [lV gy];have hr:Rp n (i+1) (bP T):=fK.rp fun j a b=>h j (by omega) b;exact Sd.mono (fun j p u _ e=>hx.rep j p u e) (Sd.one hr (by omega) (by omega))
    ·exact hold p u k cU hu (by omega)
   ·rw [if_neg e2] at gP
    exact hold p u k cU hu gP
end Go.Proofs.Cm
namespace Go.Proofs.YtpedbljnhnoohaaGreat
open Go.RowKit
open Go.Proofs
section
attribute [local irreducible] Go.Calls
theorem bj {u v:Int} {b:Bool} (t:TypeId) (h:decide (u<v)=b):(binOp .lss t (.int .i64 u) (.int .i64 v)).run Tryz.prog w=.ok (.bool b) w:=by
 subst h;simp [binOp,Op.intCmp]
theorem Og {u v:Int} {b:Bool} (t:TypeId) (h:decide (u<=v)=b):(binOp .leq t (.int .i64 u) (.int .i64 v)).run Tryz.prog w=.ok (.bool b) w:=by
 subst h;simp [binOp,Op.intCmp]
theorem sf {u v:Int} {b:Bool} (t:TypeId) (h:decide (v<=u)=b):(binOp .geq t (.int .i64 u) (.int .i64 v)).run Tryz.prog w=.ok (.bool b) w:=by
 subst h;simp [binOp,Op.intCmp]
theorem aQ {u v:Int} {b:Bool} (t:TypeId) (h:decide (u≠v)=b):(binOp .neq t (.int .i64 u) (.int .i64 v)).run Tryz.prog w=.ok (.bool b) w:=by
 subst h
 by_cases e:u=v <;> simp [binOp,Op.intCmp,e]
def GI (w:World) (b:Nat) (d:Int) (a:Option Addr) (ll:List (List Int)) (c:Nat):Prop :=
 w.cell? ⟨b,0,none⟩=some (.int .i64 d)/\w.cell? ⟨b,1,none⟩=some (.slice a ll.length c)/\Rg.Rows w (.slice a ll.length c) ll/\b<w.heap.size
theorem GI.c0 {b:Nat} {a:Option Addr} {c:Nat} (h:GI w b d a ll c):w.cell? ⟨b,0,none⟩=some (.int .i64 d):=h.1
theorem GI.c1 {b:Nat} {a:Option Addr} {c:Nat} (h:GI w b d a ll c):w.cell? ⟨b,1,none⟩=some (.slice a ll.length c):=h.2.1
theorem GI.rows {b:Nat} {a:Option Addr} {c:Nat} (h:GI w b d a ll c):Rg.Rows w (.slice a ll.length c) ll:=h.2.2.1
theorem GI.lt {b:Nat} {a:Option Addr} {c:Nat} (h:GI w b d a ll c):b<w.heap.size:=h.2.2.2
theorem GI.jj {w w':World} {b:Nat} {d:Int} {a:Option Addr} {ll:List (List Int)} {c:Nat} (h:GI w b d a ll c) (hb:Below w.heap.size w w'):GI w' b d a ll c :=
 ⟨(hb.cell (p:=⟨b,0,none⟩) h.lt).trans h.c0,(hb.cell (p:=⟨b,1,none⟩) h.lt).trans h.c1,Rg.Rows.jj h.rows hb,Nat.lt_of_lt_of_le h.lt hb.size⟩
theorem GI.new {a:Option Addr} {c:Nat} (h:Rg.Rows w (.slice a ll.length c) ll):GI (w.alloc (.cells #[.int .i64 d,.slice a ll.length c] 43)) w.heap.size d a ll c :=
 ⟨by rw [Rg.aL]; rfl,by rw [Rg.aL]; rfl,Rg.Rows.jj h ((Below.refl _ _).alloc (Nat.le_refl _) _),by simp⟩
theorem GI.enter {gv:Value} (d:Int) (h:Rg.Rows w gv ll):∃ a c,gv=.slice a ll.length c/\GI (w.alloc (.cells #[.int .i64 d,.slice a ll.length c] 43)) w.heap.size d a ll c/\Below w.heap.size w (w.alloc (.cells #[.int .i64 d,.slice a ll.length c] 43)):=by
 obtain ⟨a,c,rfl,_⟩:=h.shape;exact ⟨a,c,rfl,GI.new h,(Below.refl _ _).alloc (Nat.le_refl _) _⟩
end
section
open Go.Proofs.Ob
attribute [local irreducible] Go.Calls
def PR (B:Nat) (w:World) (v:Value) (gs:List (List Nat)):Prop :=
 B<=w.heap.size/\∃ us,w.ownsRow B 27 1 v gs.length us/\Rg.lr w us gs/\Rg.pq us v.ownBlock
theorem PR.nil {B:Nat} {w:World} (h:B<=w.heap.size):PR B w (.slice none 0 0) []:=⟨h,[],World.ownsRow_nil _ _ _ _,Rg.lr.nil _,Rg.pq.nil _⟩
theorem PR.jj {B:Nat} {w w':World} {v:Value} {gs:List (List Nat)} (h:PR B w v gs) (hb:Below w.heap.size w w'):PR B w' v gs:=by
 obtain ⟨h0,us,h1,h2,h3⟩:=h;exact ⟨Nat.le_trans h0 hb.size,us,Rg.bK h1 hb,h2.jj hb,h3⟩
theorem PR.rows {B:Nat} {w:World} {v:Value} {gs:List (List Nat)} (h:PR B w v gs) (hl:gs.length<=1000000000):Rg.mV w v gs:=by
 obtain ⟨h0,us,h1,h2,h3⟩:=h;exact h2.rows (Rg.cS.dr h1 hl)
theorem PR.lt {B:Nat} {w:World} {v:Value} {gs:List (List Nat)} (h:PR B w v gs):∀ j,v.ownBlock=some j->B<=j/\j<w.heap.size:=by
 obtain ⟨h0,us,h1,h2,h3⟩:=h;exact fun j e=>h1.lt j e
theorem PR.off (h:PR B w v gs) (hu:Rg.fP w.heap.size u):Rg.q7 u v.ownBlock:=Rg.q7.fresh hu fun j e=>(h.lt j e).2
theorem PR.app {g:List Nat} (h:PR B w v gs) (hu:Rg.NP w u g) (hs:∃ a n c,u=.slice a n c) (ho:Rg.q7 u v.ownBlock) (hn:gs.length<1000000) (ty:TypeId) :
  ∃ v' X,(Builtin.append_ #[41,41] ty #[v,.slice (some ⟨w.heap.size,0,none⟩) 1 1]).run Tryz.prog (w.alloc (.cells #[u] 27))=.ok v' X /\
   PR B X v' (gs++[g])/\Below B w X/\(∀ v2 l2,Rg.NP w v2 l2->Rg.q7 v2 v.ownBlock->Rg.NP X v2 l2/\Rg.q7 v2 v'.ownBlock)/\(∃ a c,v'=.slice a (gs.length+1) c):=by
 obtain ⟨a,n,c,rfl⟩:=hs;obtain ⟨h0,us,h1,h2,h3⟩:=h;have EL:Below w.heap.size w (w.alloc (.cells #[.slice a n c] 27)):=(Below.refl _ _).alloc (Nat.le_refl _) _;obtain ⟨v',X,r1,r2,r3,r4,r5⟩:=gl (P:=Tryz.prog) cp ty (Rg.bK h1 EL) (by simp; omega) w.heap.size 1 (u:=.slice a n c) (by rw [Rg.aL]; rfl) rfl (by omega);have hE:=(h2.jj EL).snoc (hu.jj EL);have hO:=h3.snoc ho;have Ci:(w.alloc (.cells #[.slice a n c] 27)).heap.size<=X.heap.size:=r3.size
 have eS:(w.alloc (.cells #[.slice a n c] 27)).heap.size=w.heap.size+1:=by simp
 refine ⟨v',X,r1,⟨by omega,_,by rw [List.length_append]; exact r2,hE.grown hO r3,Rg.pq.next hO hE r4 (Nat.le_refl _)⟩,((Below.refl _ _).alloc h0 _).grown r3 (by omega) (fun j e=>(h1.lt j e).1),fun v2 l2 e1 e2=>?_,r5⟩;exact ⟨(e1.jj EL).grown e2 r3,Rg.q7.next e2 (e1.jj EL) r4 (Nat.le_refl _)⟩
theorem dx (X:World) (u:Value) (hs:∃ a n c,u=.slice a n c):(Instr.buildSlice 41 1 #[(0,u)]).run Tryz.prog X=.ok (.slice (some ⟨X.heap.size,0,none⟩) 1 1) (X.alloc (.cells #[u] 27)):=by
 obtain ⟨i0,hi,cT,bz,dW⟩:=info_parts dC;obtain ⟨a,n,c,rfl⟩:=hs;refine run_buildSlice X 41 27 1 _ _ i0 _ Tryz.underlying41 hi cT (by rw [bz]; decide) (by rw [bz]; decide) ?_;generalize (fun x=>((Value.slice none 0 0).cells)[x % (Value.slice none 0 0).cells.size]!)=f;rw [bz];have h1:Array.range (1*1)=#[0]:=rfl;simp [Instr.fill,Value.cells,h1]
theorem nE {a b:List Nat}:Ma.af a=Ma.af b↔a=b:=by
 constructor
 ·intro h
  have:=congrArg (fun l=>l.map Int.toNat) h
  simpa [Ma.af,List.map_map,Function.comp_def] using this
 ·rintro rfl; rfl
end
section
attribute [local irreducible] Go.Calls Go.wpStill
def UB (F:FuncId) (iX:Array Value) (mv:List (List Nat)) (p:List Nat->Bool) (w:World):Prop :=
 ∀ x,x∈mv->∀ w1 u,Below w.heap.size w w1->Rg.NP w1 u x->Calls Tryz.prog F (#[u]++iX) w1 fun e w2=>e=.returned (.bool (p x))/\Below w1.heap.size w1 w2
def wK (mv:List (List Nat)) (p:List Nat->Bool):Int:=match mv.findIdx? p with
 | some i=>i
 | none=>-1
theorem L_ {mv:List (List Nat)} {p:List Nat->Bool} {k:Nat} (hk:k<mv.length) (h:∀ i (hi:i<mv.length),i<k->p mv[i]=false) (hp:p mv[k]=true):wK mv p=k:=by
 have:mv.findIdx? p=some k:=by
  rw [List.findIdx?_eq_some_iff_getElem];exact ⟨hk,hp,fun j hj=>by simp [h j (by omega) hj]⟩
 unfold wK; rw [this]
theorem Ip {mv:List (List Nat)} {p:List Nat->Bool} (h:∀ i (hi:i<mv.length),p mv[i]=false):wK mv p = -1:=by
 have:mv.findIdx? p=none:=by
  rw [List.findIdx?_eq_none_iff];intro x hx;obtain ⟨i,hi,rfl⟩:=List.getElem_of_mem hx;exact h i hi
 unfold wK; rw [this]
theorem Mb (mv:List (List Nat)) (p:List Nat->Bool):decide (0<=wK mv p)=mv.any p:=by
 unfold wK
 cases h:mv.findIdx? p with
 | none =>
  rw [List.findIdx?_eq_none_iff] at h
  have:mv.any p=false:=by rw [List.any_eq_false]; intro x hx; simp [h x hx]
  rw [this]; rfl
 | some i =>
  rw [List.findIdx?_eq_some_iff_getElem] at h;obtain ⟨h1,h2,_⟩:=h
  have:mv.any p=true:=by rw [List.any_eq_true]; exact ⟨_,List.getElem_mem h1,h2⟩
  rw [this]; simp
theorem yd (vp:Value) (mv:List (List Nat)) (F:FuncId) (iX:Array Value) (p:List Nat->Bool) (w:World) (h:Rg.mV w vp mv) (hl:mv.length<=2000) (hF:∀ args w,(callFunc F args).run Tryz.prog w=.ok (.enter F args) w) (hf:UB F iX mv p w) :
  Calls Tryz.prog 135 #[vp,.func (.func F) #[] iX] w fun e w'=>e=.returned (.int .i64 (wK mv p))/\Below w.heap.size w w':=by
 obtain ⟨ad,cap,rfl,hc,hm,_,aR⟩:=h.shape;have Hr:=U aR;have HF:=U hf;clear h aR hf
 go_enter Tryz.func135,Tryz.ntmps135
 go_wp2
 go_loopw [8] (fun vi wr=>∃ k:Nat,k<=mv.length/\vi=.int .i64 k/\Hid (∀ i (hi:i<mv.length),i<k->p mv[i]=false)/\Hid (Below w.heap.size w wr)) (fun vi _=>mv.length - (intOf vi).toNat)
 case atStart=>exact ⟨0,by omega,rfl,fun i hi h0=>by omega,Below.refl _ _⟩
 case round =>
  obtain ⟨k,hk,rfl,oz,hb⟩:=hrel
  by_cases aB:k<mv.length
  ·obtain ⟨b,o,rfl,VJ,ye⟩:=Hr.p (by omega)
   obtain ⟨u,eu,hu⟩:=ye k aB;have e0:wr.cell? ⟨b,o+k,none⟩=some u:=(hb.p.cell (p:=⟨b,o+k,none⟩) VJ).trans eu;obtain ⟨un,ua,uc,xW,rfl,_⟩:=hu.len;obtain ⟨x,hx⟩:∃ x,x=mv[k]:=⟨_,rfl⟩;rw [<- hx] at hu xW;have jI:=HF.p x (by rw [hx]; exact List.getElem_mem _) wr _ hb.p (hu.jj hb.p);have nI:=U aB;have Hx:=U hx;clear ye eu hu xW hx
   cases hp:p x
   ·have Hp:=U hp
    have sm:=U (show Calls Tryz.prog F (#[.slice ua un uc]++iX) wr (fun e w2=>e=.returned (.bool false)/\Below wr.heap.size wr w2) from jI.mono fun e w2 ⟨h1,h2⟩=>⟨h1.trans (by rw [Hp.p]),h2⟩);clear jI hp
    go_wp2_with (refine sm.p.mono ?_; rintro e w1 ⟨rfl,cZ⟩)
    go_roundw
    case rel=>exact ⟨k+1,by omega,by go_num,fun i hi h0=>(by
     rcases Nat.lt_or_ge i k with h1 | h1
     ·exact oz.p i hi h1
     ·obtain rfl:i=k:=by omega
      rw [<- Hx.p]; exact Hp.p),Rg.acc hb.p cZ⟩
    case measure=>simp [intOf]; omega
   ·have Hp:=U hp
    have sm:=U (show Calls Tryz.prog F (#[.slice ua un uc]++iX) wr (fun e w2=>e=.returned (.bool true)/\Below wr.heap.size wr w2) from jI.mono fun e w2 ⟨h1,h2⟩=>⟨h1.trans (by rw [Hp.p]),h2⟩);clear jI hp
    go_wp2_with (refine sm.p.mono ?_; rintro e w1 ⟨rfl,cZ⟩)
    go_ret;exact ⟨Rg.iT (L_ nI.p oz.p (by rw [<- Hx.p]; exact Hp.p)).symm,Rg.acc hb.p cZ⟩
  ·obtain rfl:k=mv.length:=by omega
   go_wp2;go_ret;exact ⟨Rg.iT (Ip (fun i hi=>oz.p i hi hi)).symm,hb.p⟩
theorem mF (vp:Value) (mv:List (List Nat)) (F:FuncId) (iX:Array Value) (p:List Nat->Bool) (w:World) (h:Rg.mV w vp mv) (hl:mv.length<=2000) (hF:∀ args w,(callFunc F args).run Tryz.prog w=.ok (.enter F args) w) (hf:UB F iX mv p w) :
  Calls Tryz.prog 102 #[vp,.func (.func F) #[] iX] w fun e w'=>e=.returned (.bool (mv.any p))/\Below w.heap.size w w':=by
 have hi:=U (yd vp mv F iX p w h hl hF hf);have ha:=Mb mv p;generalize wK mv p=r at hi ha;generalize mv.any p=b at ha ⊢;have Ha:=U ha;clear ha h hf hF
 go_enter Tryz.func102,Tryz.ntmps102
 go_wp2_with (refine hi.p.mono ?_; rintro e w1 ⟨rfl,cZ⟩)
 go_ret;exact ⟨Rg.dU Ha.p,cZ⟩
end
section
open Go.Proofs.Ob
attribute [local irreducible] Go.Calls
theorem tG:(Tryz.prog.info? 27).map (·.size)=some 1:=by kernel_rfl

theorem eI {o:Oper} {a:Act} (F:FuncId) (x:Operand) (ho:o.op=.makeFunc (.func F) #[] #[x]) (hx:a.eval x=v):(execOp a.eval o).run Tryz.prog w=.ok (.value (.func (.func F) #[] #[v])) w:=by
 unfold execOp;simp [ho,hx,Instr.makeFunc]

theorem cz (w:World):Rg.Rows w (.slice none 0 0) []:=⟨[],⟨none,0,rfl,by simp,by unfold maxLen; simp,by simp [Rg.xe],fun h=>by simp at h⟩,rfl,fun i h=>by simp at h⟩
end
end Go.Proofs.YtpedbljnhnoohaaGreat
namespace Go.Proofs
open Go.Shelf
def Tryz.Cq:Go.Shelf.Ren:=⟨fun | 189=>123 | 125=>139 | 257=>150 | 128=>160 | 129=>161 | 294=>167 | 295=>168 | 296=>169 | 297=>170 | 298=>171 | 299=>172 | 216=>140 | 300=>173 | 301=>174 | 328=>180 | 329=>176 | 330=>177 | 331=>181 | 332=>182 | 215=>162 | 343=>184 | n=>n,fun | 28=>26 | 3=>3 | 46=>177 | 0=>0 | 51=>192 | 53=>194 | 4=>4 | 183=>186 | 182=>185 | 131=>156 | 5=>5 | 9=>9 | 218=>204 | 222=>208 | 228=>212 | 229=>213 | n=>n,fun | n=>n⟩
theorem Tryz.Oh:Go.Proofs.Lays.n189 Tryz.prog Tryz.Cq:={
 mixed:=by kernel_rfl
 f125:=Tryz.func139.trans (congrArg some (by kernel_rfl))
 f128:=Tryz.func160.trans (congrArg some (by kernel_rfl))
 f129:=Tryz.func161.trans (congrArg some (by kernel_rfl))
 f189:=Tryz.func123.trans (congrArg some (by kernel_rfl))
 f215:=Tryz.func162.trans (congrArg some (by kernel_rfl))
 f216:=Tryz.func140.trans (congrArg some (by kernel_rfl))
 f257:=Tryz.func150.trans (congrArg some (by kernel_rfl))
 f294:=Tryz.func167.trans (congrArg some (by kernel_rfl))
 f295:=Tryz.func168.trans (congrArg some (by kernel_rfl))
 f296:=Tryz.func169.trans (congrArg some (by kernel_rfl))
 f297:=Tryz.func170.trans (congrArg some (by kernel_rfl))
 f298:=Tryz.func171.trans (congrArg some (by kernel_rfl))
 f299:=Tryz.func172.trans (congrArg some (by kernel_rfl))
 f300:=Tryz.func173.trans (congrArg some (by kernel_rfl))
 f301:=Tryz.func174.trans (congrArg some (by kernel_rfl))
 f328:=Tryz.func180.trans (congrArg some (by kernel_rfl))
 f329:=Tryz.func176.trans (congrArg some (by kernel_rfl))
 f330:=Tryz.func177.trans (congrArg some (by kernel_rfl))
 f331:=Tryz.func181.trans (congrArg some (by kernel_rfl))
 f332:=Tryz.func182.trans (congrArg some (by kernel_rfl))
 f343:=Tryz.func184.trans (congrArg some (by kernel_rfl))
 t0:=Tryz.underlying0
 a0:=Tryz.isAgg0
 z0:=Tryz.sizeOf0
 v0:=Tryz.zeroValue0
 t3:=Tryz.underlying3
 a3:=Tryz.isAgg3
 z3:=Tryz.sizeOf3
 v3:=Tryz.zeroValue3
 t4:=Tryz.underlying4
 a4:=Tryz.isAgg4
 z4:=Tryz.sizeOf4
 v4:=Tryz.zeroValue4
 t5:=Tryz.underlying5
 a5:=Tryz.isAgg5
 z5:=Tryz.sizeOf5
 v5:=Tryz.zeroValue5
 t9:=Tryz.underlying9
 a9:=Tryz.isAgg9
 z9:=Tryz.sizeOf9
 v9:=Tryz.zeroValue9
 t28:=Tryz.underlying26
 a28:=Tryz.isAgg26
 z28:=Tryz.sizeOf26
 v28:=Tryz.zeroValue26
 t46:=Tryz.underlying177
 a46:=Tryz.isAgg177
 z46:=Tryz.sizeOf177
 v46:=Tryz.zeroValue177
 t51:=Tryz.underlying192
 a51:=Tryz.isAgg192
 z51:=Tryz.sizeOf192
 v51:=Tryz.zeroValue192
 t53:=Tryz.underlying194
 a53:=Tryz.isAgg194
 z53:=Tryz.sizeOf194
 v53:=Tryz.zeroValue194
 t131:=Tryz.underlying156
 a131:=Tryz.isAgg156
 z131:=Tryz.sizeOf156
 v131:=Tryz.zeroValue156
 t182:=Tryz.underlying185
 a182:=Tryz.isAgg185
 z182:=Tryz.sizeOf185
 v182:=Tryz.zeroValue185
 t183:=Tryz.underlying186
 a183:=Tryz.isAgg186
 z183:=Tryz.sizeOf186
 v183:=Tryz.zeroValue186
 t218:=Tryz.underlying204
 a218:=Tryz.isAgg204
 z218:=Tryz.sizeOf204
 v218:=Tryz.zeroValue204
 t222:=Tryz.underlying208
 a222:=Tryz.isAgg208
 z222:=Tryz.sizeOf208
 v222:=Tryz.zeroValue208
 t228:=Tryz.underlying212
 a228:=Tryz.isAgg212
 z228:=Tryz.sizeOf212
 v228:=Tryz.zeroValue212
 t229:=Tryz.underlying213
 a229:=Tryz.isAgg213
 z229:=Tryz.sizeOf213
 v229:=Tryz.zeroValue213 }
open Go.Sort Go.RowKit in
theorem Tryz.slices_Sort_int (blk off cap:Nat) (zs:List Int) (w:World) (hH:Holds (Value.int .i64) w blk off zs.toArray) (hblk:blk<w.heap.size) (eS:zs.length<4611686018427387904) :
  Calls Tryz.prog 123 #[.slice (some ⟨blk,off,none⟩) zs.length cap] w fun e w' =>
   e=.returned (.tuple #[])/\∃ n os,w'=grow (putRow (Value.int .i64) (Sort.ahead w n) blk off (zs.mergeSort fun x y=>decide (x<=y)).toArray) os:=Any.slices_Sort_int Tryz.Oh blk off cap zs w hH hblk eS
end Go.Proofs
namespace Go.Proofs.YtpedbljnhnoohaaGreat
open Go.RowKit
open Go.Proofs
open Go.Proofs.Ob
attribute [local irreducible] Go.Calls
theorem p7 (l:List Int):(jk l).length=l.length:=by
 rw [uZ]; exact List.length_mergeSort _
theorem Mc (B n:Nat) (v:Value) (l:List Int) (w:World) (h:w.ownsRow B 3 1 v n (l.map (Value.int .i64))) (hn:0<n) (hm:n<=1000000000) :
  Calls Tryz.prog 123 #[v] w fun e w'=>(∃ r,e=.returned r)/\w'.ownsRow B 3 1 v n ((jk l).map (Value.int .i64))/\w.grownBy w' v.ownBlock:=by
 obtain ⟨h1,h2⟩:=h
 have hl:l.length=n:=by simpa using h1
 rcases h2 with ⟨_,h0⟩ | ⟨g,cap,cur,rfl,hg,hc,h3,h4,h5,h6⟩
 ·omega
 subst hl;rw [Nat.mul_one] at h6;have hH:=holds_of_blockI hc h6;refine (Tryz.slices_Sort_int g 0 cap l w hH (Array.getElem?_eq_some_iff.1 hc).1 (by omega)).mono ?_;rintro e w' ⟨rfl,N,os,rfl⟩;have e1:(l.mergeSort fun x y=>decide (x<=y))=jk l:=(uZ l).symm;rw [e1];refine ⟨⟨_,rfl⟩,ownsRow_sortedI (p7 l) hg hc h3 h4 h5,grownBy_sortedI _⟩
end Go.Proofs.YtpedbljnhnoohaaGreat
namespace Go.Proofs.Rg
open Go Go.RowKit
variable {P:Program} {md:Region.Mode} {ops:Array Oper} {Q:Exit->Act->World->Prop} {S:Array Bool->World->Prop}
theorem yf {i d:Nat} {I:World->Prop} {R:Value->World->Prop} {K:World->World->Prop} {oi:Oper} {b:Act} (hi:ops[i]?=some oi) (hd:oi.dst=some d) (hw:Region.wanted oi (yielded ops b.tmps)=true)
  (hr:(execOp b.eval oi).run P W=.ok (.value v) W') (hp:I W'/\R v W'/\K W W'):Does P ops Q i d I R K b W :=
 pQ (some d) hi hd hw hr ⟨v,rfl,hp⟩
def jW (B:Nat) (us:List Value) (v:Value) (w:World):Prop:=∃ p,v=.slice (some ⟨p,0,none⟩) us.length us.length/\B<=p/\p<w.heap.size/\∀ j (h:j<us.length),w.cell? ⟨p,j,none⟩=some us[j]
theorem jW.jj {us:List Value} (h:jW B us v w) (hb:Below w.heap.size w w'):jW B us v w':=by
 obtain ⟨p,e,h0,h1,h2⟩:=h;exact ⟨p,e,h0,Nat.lt_of_lt_of_le h1 hb.size,fun j hj=>(hb.cell (p:=⟨p,j,none⟩) h1).trans (h2 j hj)⟩
theorem jW.new (w:World) (us:List Value) (t:TypeId) (hB:B<=w.heap.size):jW B us (.slice (some ⟨w.heap.size,0,none⟩) us.length us.length) (w.alloc (.cells us.toArray t)) :=
 ⟨w.heap.size,rfl,hB,by simp,fun j hj=>by rw [aL]; simp [List.getElem?_eq_getElem hj]⟩
theorem jW.grown {us:List Value} {k:Option Nat} (h:jW B us v w) (hg:w.grownBy w' k) (hk:∀ j,k=some j->j<B):jW B us v w':=by
 obtain ⟨p,e,h0,h1,h2⟩:=h
 exact ⟨p,e,h0,Nat.lt_of_lt_of_le h1 hg.size,fun j hj=>by
  rw [<- h2 j hj]
  exact World.cell?_of_block (a:=⟨p,j,none⟩) (hg.block p h1 (fun e=>by have:=hk p e.symm; omega))⟩
theorem jW.Er {us:List Value} (h:jW B us v w) (hl:us.length<=1000000):cS w v us:=by
 obtain ⟨p,rfl,h0,h1,h2⟩:=h;exact cS.mk h1 (Nat.le_refl _) (by unfold maxLen; omega) (by omega) (fun i hi=>by rw [Nat.zero_add]; exact h2 i hi)
end Go.Proofs.Rg
namespace Go.Proofs.YtpedbljnhnoohaaGreat
open Go.RowKit
open Go.Proofs
section
open Go.Proofs.Ob
attribute [local irreducible] Go.Calls
def rH (B:Nat) (u:Value) (w:World):Prop:=w.ownsRow B 3 1 u 0 []/\∃ p,u=.slice (some ⟨p,0,none⟩) 0 0/\p<w.heap.size/\w.cell? ⟨p,0,none⟩=none
theorem rH.jj (h:rH B u w) (hb:Below w.heap.size w w'):rH B u w':=by
 obtain ⟨h1,p,e,h2,h3⟩:=h;exact ⟨Rg.bK h1 hb,p,e,Nat.lt_of_lt_of_le h2 hb.size,(hb.cell (p:=⟨p,0,none⟩) h2).trans h3⟩
theorem rH.new (w:World) (hB:B<=w.heap.size):rH B (.slice (some ⟨w.heap.size,0,none⟩) 0 0) (w.alloc (.cells #[] 3)):=by
 refine ⟨⟨rfl,.inr ⟨w.heap.size,0,#[],rfl,hB,by show (w.heap.push _)[w.heap.size]?=_; simp,Nat.le_refl _,Nat.zero_le _,rfl,rfl⟩⟩,w.heap.size,rfl,by simp,by rw [Rg.aL]; rfl⟩
theorem rH.ne {B':Nat} {x:Value} (h:rH B u w) (h':Rg.jW B' [x] v w):∀ p,v=.slice (some ⟨p,0,none⟩) 1 1->u.ownBlock≠some p:=by
 obtain ⟨_,p,rfl,_,h3⟩:=h;obtain ⟨q,rfl,_,_,h4⟩:=h';intro p' e' e;simp at e';subst e';simp [Value.ownBlock] at e;subst e;have:=h4 0 (by simp);rw [h3] at this; cases this
theorem jW.off {x:Value} {k:Option Nat} (h:Rg.jW B [x] v w) (hg:w.grownBy w' k) (hk:∀ p,v=.slice (some ⟨p,0,none⟩) 1 1->k≠some p):Rg.jW B [x] v w':=by
 obtain ⟨p,e,h0,h1,h2⟩:=h
 exact ⟨p,e,h0,Nat.lt_of_lt_of_le h1 hg.size,fun j hj=>by
  rw [<- h2 j hj]
  exact World.cell?_of_block (a:=⟨p,j,none⟩) (hg.block p h1 (fun e'=>hk p e e'.symm))⟩
theorem p8 {l:List Int}:∀ u∈l.map (Value.int .i64),u.oneCell'=true:=fun u hu=>by
 obtain ⟨x,_,rfl⟩:=List.mem_map.1 hu; rfl

def R2 (B:Nat) (w:World) (v1 v2:Value) (l1 l2:List Int):Prop :=
 B<=w.heap.size/\w.ownsRow B 3 1 v1 l1.length (l1.map (Value.int .i64))/\w.ownsRow B 3 1 v2 l2.length (l2.map (Value.int .i64))/\Rg.ji v1 v2
theorem R2.jj {l1 l2:List Int} (h:R2 B w v1 v2 l1 l2) (hb:Below w.heap.size w w'):R2 B w' v1 v2 l1 l2 :=
 ⟨Nat.le_trans h.1 hb.size,Rg.bK h.2.1 hb,Rg.bK h.2.2.1 hb,h.2.2.2⟩
theorem R2.nil {B:Nat} {w:World} (h:B<=w.heap.size):R2 B w (.slice none 0 0) (.slice none 0 0) [] []:=⟨h,World.ownsRow_nil _ _ _ _,World.ownsRow_nil _ _ _ _,Rg.ji.nil _⟩
theorem R2.Ep {l1 l2:List Int} (h:R2 B w v1 v2 l1 l2) (hl:l1.length<1000000) {x:Int} {p c:Nat} (hc:w.cell? ⟨p,0,none⟩=some (.int .i64 x)) (ty:TypeId) :
  ∃ v' X,(Builtin.append_ #[26,26] ty #[v1,.slice (some ⟨p,0,none⟩) 1 c]).run Tryz.prog w=.ok v' X/\R2 B X v' v2 (l1++[x]) l2/\w.grownBy X v1.ownBlock:=by
 obtain ⟨h1,h2,h3,h4⟩:=h;obtain ⟨v',X,r1,r2,r3,r4,_⟩:=gl (P:=Tryz.prog) cM ty h2 h1 p c hc rfl hl;exact ⟨v',X,r1,⟨Nat.le_trans h1 r3.size,by simpa using r2,h4.keep h3 r3,h4.grow h3 r4 (Nat.le_refl _)⟩,r3⟩
theorem R2.swap {l1 l2:List Int} (h:R2 B w v1 v2 l1 l2):R2 B w v2 v1 l2 l1:=⟨h.1,h.2.2.1,h.2.1,h.2.2.2.symm⟩
variable {t e bt:TypeId} {B X n:Nat} {w w':World} {v lv:Value} {O:List (List Int)} {l:List Int} {F:Nat->Bool}
def sn (O:List (List Int)) (x:Nat):Bool:=decide (∃ l∈O,(x:Int)∈l)
theorem qW:(Tryz.prog.info? 26).map (fun i=>(i.zero,i.size,i.bytes))=some (some (.slice none 0 0),1,24):=by kernel_rfl
theorem ef:Rg.rU Tryz.prog 22 26 (.slice none 0 0) 24:=⟨Tryz.underlying22,qW,rfl,by decide⟩
theorem Cr (X:World) (u:Value) (hs:∃ a n c,u=.slice a n c):(Instr.buildSlice 22 1 #[(0,u)]).run Tryz.prog X=.ok (.slice (some ⟨X.heap.size,0,none⟩) 1 1) (X.alloc (.cells #[u] 26)):=by
 obtain ⟨i0,hi,cT,bz,dW⟩:=info_parts qW;obtain ⟨a,n,c,rfl⟩:=hs;refine run_buildSlice X 22 26 1 _ _ i0 _ Tryz.underlying22 hi cT (by rw [bz]; decide) (by rw [bz]; decide) ?_;generalize (fun x=>((Value.slice none 0 0).cells)[x % (Value.slice none 0 0).cells.size]!)=f;rw [bz];have h1:Array.range (1*1)=#[0]:=rfl;simp [Instr.fill,Value.cells,h1]
end
section
attribute [local irreducible] Go.Calls
theorem yg (v1 v2:Value) (a c:List Nat) (w:World) (h:Rg.NP w v1 a) (h':Rg.NP w v2 c) (LU:∀ x∈a,x<c.length) (hn:a.length<=1000) (h1:1<=a.length) (h2:1<=c.length) :
  Calls Tryz.prog 117 #[v1,v2] w fun e w'=>∃ v,e=.returned v/\Rg.rT w w' v (Ma.ar a c)/\Below w.heap.size w w':=by
 obtain ⟨ad,cap,rfl,hc,_,_,aR⟩:=h.shape;obtain ⟨b,o,rfl,hb,hr⟩:=aR (by omega);obtain ⟨pT,du,rfl,d_,_,_,dv⟩:=h'.shape;obtain ⟨b2,o2,rfl,eB,tx⟩:=dv (by omega);have Hr:=U hr;have VB:=U tx;have VC:=U LU;clear hr aR h tx dv h' LU;have dp:=mE a.length (by omega) w;have cJ:=U (World.rowIs_made w (.int .i64 0) a.length 3)
 go_enter Tryz.func117,Tryz.ntmps117
 go_wp2;clear dp
 go_loopw [13] (fun i wr=>∃ k:Nat,k<=a.length/\i=.int .i64 k/\Hid (wr.rowIs w.heap.size 3 a.length (fun j=>.int .i64 (if j<k then ((c.getD (a.getD j 0) 0:Nat):Int) else 0)))/\Below w.heap.size w wr) (fun i _=>a.length - (intOf i).toNat)
 case atStart=>exact ⟨0,by omega,rfl,cJ.p.congr (fun i hi=>by simp),(Below.refl _ _).alloc (Nat.le_refl _) _⟩
 case round =>
  obtain ⟨k,hk,rfl,hs,bC⟩:=hrel;obtain ⟨hc,hf⟩:=Rg.rS bC
  by_cases aB:k<a.length
  ·have e0:wr.cell? ⟨b,o+k,none⟩=some (.int .i64 ((a[k]:Nat):Int)):=(hc b (o+k) hb).trans (Hr.p k aB)
   have xf:a[k]<c.length:=VC.p _ (List.getElem_mem aB);have Ad:a.getD k 0=a[k]:=Ma.getD_lt aB
   have e1:wr.cell? ⟨b2,o2+a[k],none⟩=some (.int .i64 ((c.getD (a.getD k 0) 0:Nat):Int)):=by
    rw [Ad,Ma.getD_lt xf];exact (hc b2 (o2+a[k]) eB).trans (VB.p a[k] xf)
   generalize a[k]=x at *;have Hga:=U Ad;generalize hy:c.getD (a.getD k 0) 0=y at *;have Hy:=U hy;clear hc hf Ad hy;have c1:=hs.p.cell aB;have f1:=hs.p.frozen k;simp only [Nat.lt_irrefl,if_false] at c1;go_wp2
   go_roundw
   case rel =>
    refine ⟨k+1,by omega,by go_num,?_,bC.setCell (Nat.le_refl _) _⟩;refine (hs.p.set k _).congr fun i hi=>?_
    by_cases e:i=k
    ·subst e; rw [if_pos rfl,if_pos (by omega),Hy.p]
    ·rw [if_neg e]
     by_cases e2:i<k
     ·rw [if_pos e2,if_pos (by omega)]
     ·rw [if_neg e2,if_neg (by omega)]
   case measure=>simp [intOf]; omega
  ·obtain rfl:k=a.length:=by omega
   go_wp2;go_ret;refine ⟨_,rfl,⟨Rg.NP.iq hs.p (by rw [Ma.cI]) (by omega) (fun i hi=>?_),Rg.fP.mk _ _ _ _⟩,by assumption⟩;rw [Ma.uQ];rw [Ma.cI] at hi;rw [if_pos hi,Ma.getD_lt hi]
theorem Iq (n:Nat) (w:World) (hn:n<=1000) :
  Calls Tryz.prog 119 #[.int .i64 n] w fun e w'=>∃ v,e=.returned v/\Rg.rT w w' v (Ma.bh n)/\Below w.heap.size w w':=by
 have dp:=mE n (by omega) w;have cJ:=U (World.rowIs_made w (.int .i64 0) n 3)
 go_enter Tryz.func119,Tryz.ntmps119
 go_wp2;clear dp
 go_loopw [9] (fun i wr=>∃ k:Nat,k<=n/\i=.int .i64 k/\Hid (wr.rowIs w.heap.size 3 n (fun j=>.int .i64 (if j<k then (j:Int) else 0)))/\Below w.heap.size w wr) (fun i _=>n - (intOf i).toNat)
 case atStart=>exact ⟨0,by omega,rfl,cJ.p.congr (fun i hi=>by simp),(Below.refl _ _).alloc (Nat.le_refl _) _⟩
 case round =>
  obtain ⟨k,hk,rfl,hs,bC⟩:=hrel
  by_cases aB:k<n
  ·have c1:=hs.p.cell aB
   have f1:=hs.p.frozen k;simp only [Nat.lt_irrefl,if_false] at c1;go_wp2
   go_roundw
   case rel =>
    refine ⟨k+1,by omega,by go_num,?_,bC.setCell (Nat.le_refl _) _⟩;refine (hs.p.set k _).congr fun i hi=>?_
    by_cases e:i=k
    ·subst e; simp
    ·rw [if_neg e]
     by_cases e2:i<k
     ·rw [if_pos e2,if_pos (by omega)]
     ·rw [if_neg e2,if_neg (by omega)]
   case measure=>simp [intOf]; omega
  ·obtain rfl:k=n:=by omega
   go_wp2;go_ret;refine ⟨_,rfl,⟨Rg.NP.iq hs.p (by rw [Ma.fC]) (by omega) (fun i hi=>?_),Rg.fP.mk _ _ _ _⟩,by assumption⟩;rw [Ma.uP];rw [Ma.fC] at hi;rw [if_pos hi]
theorem yh (v:Value) (a:List Nat) (w:World) (h:Rg.NP w v a) (ha:Ma.j4 a) (hn:a.length<=1000) (h1:1<=a.length) :
  Calls Tryz.prog 118 #[v] w fun e w'=>∃ v,e=.returned v/\Rg.rT w w' v (Ma.aX a)/\Below w.heap.size w w':=by
 obtain ⟨ad,cap,rfl,hc,_,_,aR⟩:=h.shape;obtain ⟨b,o,rfl,hb,hr⟩:=aR (by omega);have Hr:=U hr;clear hr aR h;have dp:=mE a.length (by omega) w;have cJ:=U (World.rowIs_made w (.int .i64 0) a.length 3)
 go_enter Tryz.func118,Tryz.ntmps118
 go_wp2;clear dp
 go_loopw [11] (fun i wr=>∃ k:Nat,k<=a.length/\i=.int .i64 k/\Hid (wr.rowIs w.heap.size 3 a.length (fun j=>.int .i64 (if j∈a.take k then ((a.idxOf j:Nat):Int) else 0)))/\Below w.heap.size w wr) (fun i _=>a.length - (intOf i).toNat)
 case atStart=>exact ⟨0,by omega,rfl,cJ.p.congr (fun i hi=>by simp),(Below.refl _ _).alloc (Nat.le_refl _) _⟩
 case round =>
  obtain ⟨k,hk,rfl,hs,bC⟩:=hrel;obtain ⟨hc,hf⟩:=Rg.rS bC
  by_cases aB:k<a.length
  ·have nI:k<a.length:=aB
   have e0:wr.cell? ⟨b,o+k,none⟩=some (.int .i64 ((a[k]:Nat):Int)):=(hc b (o+k) hb).trans (Hr.p k nI);have xf:a[k]<a.length:=Ma.xI ha nI;have xX:=Ma.nG ha nI
   have kG:∀ i,i∈a.take (k+1)↔(i∈a.take k∨i=a[k]):=fun i=>by rw [List.take_succ_eq_append_getElem nI,List.mem_append,List.mem_singleton]
   generalize hx:a[k]=x at *;have Hx:=U hx;have N3:=U xX;have pS:=U kG;clear hx hc hf xX kG;have c1:=hs.p.cell xf;have f1:=hs.p.frozen x;generalize (Value.int .i64 (if x∈a.take k then ((a.idxOf x:Nat):Int) else 0))=u0 at c1;go_wp2
   go_roundw
   case rel =>
    refine ⟨k+1,by omega,by go_num,?_,bC.setCell (Nat.le_refl _) _⟩;refine (hs.p.set x _).congr fun i hi=>?_
    by_cases e:i=x
    ·subst e; rw [if_pos rfl,if_pos ((pS.p i).2 (.inr rfl)),N3.p]
    ·rw [if_neg e]
     by_cases e2:i∈a.take k
     ·rw [if_pos e2,if_pos ((pS.p i).2 (.inl e2))]
     ·rw [if_neg e2,if_neg (fun e3=>((pS.p i).1 e3).elim e2 e)]
   case measure=>simp [intOf]; omega
  ·obtain rfl:k=a.length:=by omega
   go_wp2;go_ret;refine ⟨_,rfl,⟨Rg.NP.iq hs.p (by rw [Ma.cR]) (by omega) (fun i hi=>?_),Rg.fP.mk _ _ _ _⟩,by assumption⟩;rw [Ma.qU];rw [Ma.cR] at hi;rw [List.take_of_length_le (Nat.le_refl _),if_pos (Ma.s5 ha hi)]
theorem jl {e:TypeId} {size:Nat} (h:w.ownsRow base e size v n xs) (hk:Rg.Kp M w w') (hM:∀ k,M k->v.ownBlock≠some k):w'.ownsRow base e size v n xs:=by
 obtain ⟨h1,h2⟩:=h
 rcases h2 with h2 | ⟨g,cap,cur,rfl,hg,hc,h3⟩
 ·exact ⟨h1,.inl h2⟩
 ·exact ⟨h1,.inr ⟨g,cap,cur,rfl,hg,(hk.block g (Array.getElem?_eq_some_iff.1 hc).1 (fun e=>hM g e (by simp [Value.ownBlock]))).trans hc,h3⟩⟩
def KF (F:Nat->Prop) (w w':World):Prop:=Rg.Kp (fun k=>¬ F k) w w'
theorem KF.refl (F:Nat->Prop) (w:World):KF F w w:=Rg.Kp.refl _ _
theorem KF.size {F:Nat->Prop} {w w':World} (h:KF F w w'):w.heap.size<=w'.heap.size:=Rg.Kp.size h
theorem KF.aC {F:Nat->Prop} {w w':World} (h:Below w.heap.size w w'):KF F w w':=Rg.Kp.aC h
theorem KF.trans {F F':Nat->Prop} {w w' w'':World} (h:KF F w w') (h':KF F' w' w'') (hF:∀ k,F k->F' k):KF F w w'':=Rg.Kp.trans h h' (fun k _ hk hf=>hk (hF k hf))
theorem KF.kF {F F':Nat->Prop} {w w':World} (h:KF F' w w') (hF:∀ k,F k->F' k):KF F w w':=Rg.Kp.kF h (fun k hk hf=>hk (hF k hf))
theorem KF.cell {F:Nat->Prop} {w w':World} (h:KF F w w') {b o:Nat} (hF:F b) (hb:b<w.heap.size):w'.cell? ⟨b,o,none⟩=w.cell? ⟨b,o,none⟩ :=
 World.cell?_of_block (a:=⟨b,o,none⟩) (Rg.Kp.block h b hb (fun e=>e hF))
theorem KF.jj (h:KF F w w') (hB:B<=w.heap.size) (hF:∀ k,k<B->F k):Below B w w' :=
 ⟨Rg.Kp.os h,Rg.Kp.tape h,Rg.Kp.output h,h.size,fun k hk=>Rg.Kp.block h k (Nat.lt_of_lt_of_le hk hB) (fun e=>e (hF k hk))⟩
def dS (F:Nat->Prop) (w w':World):Nat->Prop:=fun k=>F k∨(w.heap.size<=k/\k<w'.heap.size)
structure KG (F0:Nat->Prop) (w0:World) (F:Nat->Prop) (w:World):Prop where
 sub:∀ k,F0 k->F k
 lt:∀ k,F k->k<w.heap.size
 kf:KF F0 w0 w
theorem KG.refl {F:Nat->Prop} {w:World} (h:∀ k,F k->k<w.heap.size):KG F w F w:=⟨fun _ h=>h,h,KF.refl _ _⟩
theorem KG.up {F0:Nat->Prop} (h:KG F0 w0 F w) (hb:Below w.heap.size w w'):KG F0 w0 (dS F w w') w' :=
 ⟨fun k hk=>.inl (h.sub k hk),fun k hk=>by rcases hk with hk | hk; exact Nat.lt_of_lt_of_le (h.lt k hk) hb.size; exact hk.2,KF.trans h.kf (KF.aC (F:=F) hb) h.sub⟩
theorem KG.EM {F0:Nat->Prop} (h:KG F0 w0 F w) (hk:KF F w w'):KG F0 w0 F w' :=
 ⟨h.sub,fun k hf=>Nat.lt_of_lt_of_le (h.lt k hf) hk.size,KF.trans h.kf hk h.sub⟩
theorem KG.trans {F0 F F':Nat->Prop} {w0 w w':World} (h:KG F0 w0 F w) (h':KG F w F' w'):KG F0 w0 F' w' :=
 ⟨fun k hk=>h'.sub k (h.sub k hk),h'.lt,KF.trans h.kf h'.kf h.sub⟩
structure CF (F:Nat->Prop) (w:World) (b o:Nat) (v:Value):Prop where
 cell:w.cell? ⟨b,o,none⟩=some v
 Md:F b
 lt:b<w.heap.size
theorem CF.up {b o:Nat} (h:CF F w b o v) (hb:Below w.heap.size w w'):CF (dS F w w') w' b o v :=
 ⟨(hb.cell (p:=⟨b,o,none⟩) h.lt).trans h.cell,.inl h.Md,Nat.lt_of_lt_of_le h.lt hb.size⟩
theorem CF.kf {b o:Nat} (h:CF F w b o v) (hk:KF F w w'):CF F w' b o v :=
 ⟨(hk.cell h.Md h.lt).trans h.cell,h.Md,Nat.lt_of_lt_of_le h.lt hk.size⟩
theorem CF.mono {b o:Nat} (h:CF F w b o v) (hF:∀ k,F k->F' k):CF F' w b o v:=⟨h.cell,hF _ h.Md,h.lt⟩
theorem CF.kg {b o:Nat} (h:CF F w b o v) (hk:KG F w F' w'):CF F' w' b o v:=(h.kf hk.kf).mono hk.sub
theorem Me {us:List Value} (h:Rg.cW F w v us) (hb:Below w.heap.size w w'):Rg.cW (dS F w w') w' v us:=by
 obtain ⟨a,cap,h1,h2,h3,h4,h5⟩:=h;refine ⟨a,cap,h1,h2,h3,h4,fun h0=>?_⟩;obtain ⟨b,o,e1,e2,e3,e4⟩:=h5 h0;exact ⟨b,o,e1,Nat.lt_of_lt_of_le e2 hb.size,.inl e3,fun i hi=>(hb.cell (p:=⟨b,o+i,none⟩) e2).trans (e4 i hi)⟩
def FP (F:Nat->Prop) (w:World) (v:Value) (p:List Nat):Prop:=Rg.FI F w v (Ma.af p)
theorem FP.np {p:List Nat} (h:FP F w v p):Rg.NP w v p:=Rg.FI.ints h
theorem FP.up {p:List Nat} (h:FP F w v p) (hb:Below w.heap.size w w'):FP (dS F w w') w' v p:=Me h hb
theorem FP.kf {p:List Nat} (h:FP F w v p) (hk:KF F w w'):FP F w' v p:=Rg.FI.kp h hk (fun _ hF hn=>hn hF)
theorem FP.mono {F F':Nat->Prop} {w:World} {v:Value} {p:List Nat} (h:FP F w v p) (hF:∀ k,F k->F' k):FP F' w v p:=Rg.FI.mono h hF
theorem FP.kg {p:List Nat} (h:FP F w v p) (hk:KG F w F' w'):FP F' w' v p:=(h.kf hk.kf).mono hk.sub
theorem FP.new {p:List Nat} (h:Rg.rT w w' v p):FP (dS F w w') w' v p:=by
 obtain ⟨h,hf⟩:=h;obtain ⟨a,cap,h1,h2,h3,h4,h5⟩:=h;refine ⟨a,cap,h1,h2,h3,h4,fun h0=>?_⟩;obtain ⟨b,o,e1,e2,e3⟩:=h5 h0;subst e1;exact ⟨b,o,rfl,e2,.inr ⟨hf _ _ _ h1,e2⟩,e3⟩
theorem FP.shape {p:List Nat} (h:FP F w v p) (h1:1<=p.length):∃ b o c,v=.slice (some ⟨b,o,none⟩) p.length c/\F b/\b<w.heap.size/\∀ i (hi:i<p.length),w.cell? ⟨b,o+i,none⟩=some (.int .i64 ((p[i]:Nat):Int)):=by
 obtain ⟨a,cap,e,h2,h3,h4,h5⟩:=h;rw [List.length_map,Ma.az] at e;obtain ⟨b,o,e1,e2,e3,e4⟩:=h5 (by rw [List.length_map,Ma.az]; omega);subst e1;exact ⟨b,o,cap,e,e3,e2,fun i hi=>by rw [e4 i (by simp [Ma.az]; exact hi)]; simp [Ma.af]⟩
theorem FP.cell {b o c:Nat} {p:List Nat} (h:FP F w (.slice (some ⟨b,o,none⟩) n c) p) {i:Nat} (hi:i<p.length):CF F w b (o+i) (.int .i64 ((p.getD i 0:Nat):Int)):=by
 obtain ⟨b',o',c',e,h1,h2,h3⟩:=h.shape (by omega);simp at e;obtain ⟨⟨rfl,rfl⟩,_,_⟩:=e;exact ⟨by rw [h3 i hi]; simp [List.getD,List.getElem?_eq_getElem hi],h1,h2⟩
structure LV where
 g:Value
 us:List Value
 o:Value
 t:Nat->Value
 b:Nat->Value
open Go.Proofs.Cm (Lv bq)
def cont (l:Lv) (v:LV) (m:Nat):Value :=
 if m=0 then v.g else if m=1 then v.o else if m<66 then v.t (m - 2) else if m<130 then v.b (m - 66) else .int .i64 ((l.tried (m - 130):Nat):Int)
structure lW (F:Nat->Prop) (L:Nat) (w:World) (l:Lv) (v:LV):Prop where
 rI:w.ownsRow 0 27 1 v.g l.gens.length v.us
 EN:Rg.bE F w v.us (l.gens.map Ma.af)
 rJ:w.ownsRow 0 3 1 v.o l.orb.length ((Ma.af l.orb).map (Value.int .i64))
 gF:∀ k,v.g.ownBlock=some k->¬ F k/\k≠L
 oF:∀ k,v.o.ownBlock=some k->¬ F k/\k≠L
 go:∀ k,v.g.ownBlock=some k->v.o.ownBlock≠some k
 some_:∀ p x,p<64->l.rep p=some x->FP F w (v.t p) x/\FP F w (v.b p) (Ma.aX x)
 none_:∀ p,p<64->l.rep p=none->v.t p=.slice none 0 0/\v.b p=.slice none 0 0
def LV.own (v:LV) (k:Nat):Prop:=v.g.ownBlock=some k∨v.o.ownBlock=some k
structure aZ (F:Nat->Prop) (L n:Nat) (w:World) (T:bq) (V:Nat->LV):Prop where
 kI:∀ k,F k->k<w.heap.size
 LF:¬ F L
 row:w.rowIs L 145 (n*194) (fun j=>cont (T (j / 194)) (V (j / 194)) (j % 194))
 lv:∀ i,i<n->lW F L w (T i) (V i)
 kJ:∀ i j,i<n->j<n->i≠j->∀ k,(V i).own k->¬ (V j).own k
theorem Bj {b:Nat} {t:TypeId} {f:Nat->Value} (h:w.rowIs b t n f):b<w.heap.size:=by
 obtain ⟨c,h1,_⟩:=h;exact (Array.getElem?_eq_some_iff.1 h1).1
theorem aZ.lt {T:bq} {V:Nat->LV} (h:aZ F L n w T V):L<w.heap.size:=Bj h.row
theorem tH {i m:Nat} (hi:i<n) (hm:m<194):(i*194+m) / 194=i/\(i*194+m) % 194=m/\i*194+m<n*194:=by
 refine ⟨by omega,by omega,?_⟩;have:(i+1)*194<=n*194:=Nat.mul_le_mul_right _ hi;omega
theorem aZ.cell {F:Nat->Prop} {L n:Nat} {w:World} {T:bq} {V:Nat->LV} (h:aZ F L n w T V) {i m o:Nat} (hi:i<n) (hm:m<194) (ho:o=i*194+m):w.cell? ⟨L,o,none⟩=some (cont (T i) (V i) m):=by
 subst ho;obtain ⟨h1,h2,h3⟩:=tH hi hm;have:=h.row.cell h3;rw [this,h1,h2]
theorem aZ.frozen {F:Nat->Prop} {L n:Nat} {w:World} {T:bq} {V:Nat->LV} (h:aZ F L n w T V) (o:Nat):w.frozen? ⟨L,o,none⟩=false:=h.row.frozen _
theorem lW.kp {F M:Nat->Prop} {L:Nat} {w w':World} {l:Lv} {v:LV} (h:lW F L w l v) (hk:Rg.Kp M w w') (hF:∀ k,F k->¬ M k) (ho:∀ k,v.own k->¬ M k):lW F L w' l v:=by
 refine ⟨jl h.rI hk (fun k hm e=>ho k (.inl e) hm),h.EN.kp hk hF,jl h.rJ hk (fun k hm e=>ho k (.inr e) hm),h.gF,h.oF,h.go,fun p x hp hx=>?_,h.none_⟩;obtain ⟨h1,h2⟩:=h.some_ p x hp hx;exact ⟨Rg.FI.kp h1 hk hF,Rg.FI.kp h2 hk hF⟩
theorem lW.mono {F F':Nat->Prop} {L:Nat} {w:World} {l:Lv} {v:LV} (h:lW F L w l v) (hF:∀ k,F k->F' k) (ho:∀ k,v.own k->¬ F' k):lW F' L w l v:=by
 refine ⟨h.rI,h.EN.mono hF,h.rJ,fun k e=>⟨ho k (.inl e),(h.gF k e).2⟩,fun k e=>⟨ho k (.inr e),(h.oF k e).2⟩,h.go,fun p x hp hx=>?_,h.none_⟩;obtain ⟨h1,h2⟩:=h.some_ p x hp hx;exact ⟨h1.mono hF,h2.mono hF⟩
theorem lW.lt {F:Nat->Prop} {L:Nat} {w:World} {l:Lv} {v:LV} (h:lW F L w l v):∀ k,v.own k->k<w.heap.size:=fun k e=>by
 rcases e with e | e
 ·exact (h.rI.lt k e).2
 ·exact (h.rJ.lt k e).2
theorem lW.nF {l:Lv} {v:LV} (h:lW F L w l v):∀ k,v.own k->¬ F k/\k≠L:=fun k e=>by
 rcases e with e | e
 ·exact h.gF _ e
 ·exact h.oF _ e
theorem nL {b:Nat} {t:TypeId} {f:Nat->Value} (h:w.rowIs b t n f) (hk:Rg.Kp M w w') (hM:¬ M b):w'.rowIs b t n f:=by
 have aB:=Bj h;obtain ⟨c,h1,h2,h3⟩:=h;exact ⟨c,by rw [hk.block b aB hM]; exact h1,h2,h3⟩
theorem aZ.up {T:bq} {V:Nat->LV} (h:aZ F L n w T V) (hb:Below w.heap.size w w'):aZ (dS F w w') L n w' T V:=by
 have hk:Rg.Kp (fun k=>False) w w':=Rg.Kp.aC hb;have hL:=h.lt
 refine ⟨fun k hk=>by rcases hk with hk | hk; exact Nat.lt_of_lt_of_le (h.kI k hk) hb.size; exact hk.2,fun e=>?_,nL h.row hk id,fun i hi=>?_,h.kJ⟩
 ·rcases e with e | e
  ·exact h.LF e
  ·omega
 ·have hv:=h.lv i hi
  refine (hv.kp hk (fun _ _=>id) (fun _ _=>id)).mono (fun k=>.inl) (fun k e=>?_);have h1:=hv.lt k e;have h2:=(hv.nF k e).1
  rintro (h3 | h3)
  ·exact h2 h3
  ·omega
theorem KD {T T':bq} {V V':Nat->LV} {i m o:Nat} {x:Value} (kI:∀ k,F k->k<w.heap.size) (LF:¬ F L)
  (row:w.rowIs L 145 (n*194) (fun j=>cont (T (j / 194)) (V (j / 194)) (j % 194))) (lv:∀ j,j<n->j≠i->lW F L w (T j) (V j))
  (kJ:∀ a b,a<n->b<n->a≠b->a≠i->b≠i->∀ k,(V a).own k->¬ (V b).own k) (hi:i<n) (hm:m<194) (ho:o=i*194+m)
  (hT:∀ j,j≠i->T' j=T j/\V' j=V j) (hc:∀ m',m' < 194->cont (T' i) (V' i) m'=if m'=m then x else cont (T i) (V i) m')
  (hv:lW F L w (T' i) (V' i)) (hd:∀ j k,j<n->j≠i->(V' i).own k->¬ (V j).own k) :
  aZ F L n (w.setCell ⟨L,o,none⟩ x) T' V'/\KF F w (w.setCell ⟨L,o,none⟩ x):=by
 subst ho;have hk:Rg.Kp (fun k=>k=L) w (w.setCell ⟨L,i*194+m,none⟩ x):=Rg.Kp.aO rfl;have Ir:∀ k,F k->¬ k=L:=fun k hk e=>LF (e▸hk);refine ⟨⟨fun k hf=>Nat.lt_of_lt_of_le (kI k hf) hk.size,LF,?_,fun j hj=>?_,fun a b ha hb gi k h1 h2=>?_⟩,Rg.Kp.kF hk fun k e hf=>Ir k hf e⟩
 ·refine (row.set (i*194+m) x).congr fun j hj=>?_
  obtain ⟨h1,h2,_⟩:=tH hi hm
  by_cases e:j / 194=i
  ·have tI:j % 194<194:=Nat.mod_lt _ (by decide)
   have:=hc (j % 194) tI
   by_cases e2:j=i*194+m
   ·rw [if_pos e2,e,this,if_pos (by rw [e2,h2])]
   ·rw [if_neg e2,e,this,if_neg (by omega)]
  ·have e2:j≠i*194+m:=by rintro rfl; exact e h1
   rw [if_neg e2,(hT _ e).1,(hT _ e).2]
 ·by_cases e:j=i
  ·subst e
   exact hv.kp hk Ir fun k e=>(hv.nF k e).2
  ·rw [(hT j e).1,(hT j e).2]
   exact (lv j hj e).kp hk Ir fun k e'=>((lv j hj e).nF k e').2
 ·by_cases ea:a=i
  ·have eb:b≠i:=fun e=>gi (ea.trans e.symm)
   rw [ea] at h1; rw [(hT b eb).2] at h2;exact hd b k hb eb h1 h2
  ·rw [(hT a ea).2] at h1
   by_cases eb:b=i
   ·rw [eb] at h2
    exact hd a k ha ea h2 h1
   ·rw [(hT b eb).2] at h2
    exact kJ a b ha hb gi ea eb k h1 h2
theorem aZ.put {T T':bq} {V V':Nat->LV} (h:aZ F L n w T V) {i m o:Nat} {x:Value} (hi:i<n) (hm:m<194) (ho:o=i*194+m)
  (hT:∀ j,j≠i->T' j=T j/\V' j=V j) (hc:∀ m',m' < 194->cont (T' i) (V' i) m'=if m'=m then x else cont (T i) (V i) m')
  (hv:lW F L w (T' i) (V' i)) (hd:∀ j k,j<n->j≠i->(V' i).own k->¬ (V j).own k) :
  aZ F L n (w.setCell ⟨L,o,none⟩ x) T' V'/\KF F w (w.setCell ⟨L,o,none⟩ x) :=
 KD h.kI h.LF h.row (fun j hj _=>h.lv j hj) (fun a b ha hb gi _ _=>h.kJ a b ha hb gi) hi hm ho hT hc hv hd
theorem aZ.tick {F:Nat->Prop} {L n:Nat} {w:World} {T:bq} {V:Nat->LV} (h:aZ F L n w T V) {i q o:Nat} (hi:i<n) (hq:q<64) (ho:o=i*194+(130+q)) :
  aZ F L n (w.setCell ⟨L,o,none⟩ (.int .i64 (((T i).tried q+1:Nat):Int))) (Cm.tick T i q) V/\KF F w (w.setCell ⟨L,o,none⟩ (.int .i64 (((T i).tried q+1:Nat):Int))):=by
 have hv:=h.lv i hi;refine h.put hi (by omega) ho (fun j hj=>⟨Cm.iW hj,rfl⟩) (fun m' tI=>?_) ?_ (fun j k hj hne e1 e2=>h.kJ i j hi hj (Ne.symm hne) k e1 e2)
 ·rw [Cm.ee]
  unfold cont
  by_cases h0:m'=0
  ·subst h0; simp; omega
  by_cases h1:m'=1
  ·subst h1; simp; omega
  by_cases h2:m' < 66
  ·simp [h0,h1,h2]; omega
  by_cases h3:m' < 130
  ·simp [h0,h1,h2,h3]; omega
  ·simp only [h0,h1,h2,h3,if_false]
   by_cases e:m'=130+q
   ·subst e; simp
   ·rw [if_neg e,if_neg (by omega)]
 ·rw [Cm.ee]
  exact ⟨hv.rI,hv.EN,hv.rJ,hv.gF,hv.oF,hv.go,hv.some_,hv.none_⟩
def jJ (T:bq) (i p:Nat) (y:List Nat):bq:=fun j=>if j=i then { T j with rep:=fun z=>if z=p then some y else (T j).rep z } else T j
def p9 (T:bq) (i p:Nat):bq:=fun j=>if j=i then { T j with orb:=(T j).orb++[p] } else T j
def vr (T:bq) (i:Nat) (r:List Nat):bq:=fun j=>if j=i then { T j with gens:=(T j).gens++[r] } else T j
theorem find_eq (T:bq) (i p:Nat) (y:List Nat):Cm.find T i p y=p9 (jJ T i p y) i p:=by
 funext j
 unfold Cm.find p9 jJ
 by_cases e:j=i
 ·simp [e]
 ·simp [e]
theorem aZ.jJ {F:Nat->Prop} {L n:Nat} {w:World} {T:bq} {V:Nat->LV} (h:aZ F L n w T V) {i p o1 o2:Nat} {y:List Nat} {yv bv:Value} (hi:i<n) (hp:p<64) (YH:o1=i*194+(2+p)) (ho2:o2=i*194+(66+p))
  (hy:FP F w yv y) (hb:FP F w bv (Ma.aX y)) :
  ∃ V',aZ F L n ((w.setCell ⟨L,o1,none⟩ yv).setCell ⟨L,o2,none⟩ bv) (jJ T i p y) V'/\KF F w ((w.setCell ⟨L,o1,none⟩ yv).setCell ⟨L,o2,none⟩ bv):=by
 subst YH ho2;have hv:=h.lv i hi
 let V1:Nat->LV:=fun j=>if j=i then { V j with t:=fun z=>if z=p then yv else (V j).t z,b:=fun z=>if z=p then bv else (V j).b z } else V j
 have e1:V1 i={ V i with t:=fun z=>if z=p then yv else (V i).t z,b:=fun z=>if z=p then bv else (V i).b z }:=if_pos rfl
 have eT:Go.Proofs.YtpedbljnhnoohaaGreat.jJ T i p y i={ T i with rep:=fun z=>if z=p then some y else (T i).rep z }:=if_pos rfl
 have gJ:Rg.Kp (fun k=>k=L) w (w.setCell ⟨L,i*194+(2+p),none⟩ yv):=Rg.Kp.aO rfl;have cU:Rg.Kp (fun k=>k=L) (w.setCell ⟨L,i*194+(2+p),none⟩ yv) ((w.setCell ⟨L,i*194+(2+p),none⟩ yv).setCell ⟨L,i*194+(66+p),none⟩ bv):=Rg.Kp.aO rfl;have hk:=Rg.Kp.trans gJ cU (fun k _ e=>e);have Ir:∀ k,F k->¬ k=L:=fun k hk e=>h.LF (e▸hk)
 have YI:lW F L w (Go.Proofs.YtpedbljnhnoohaaGreat.jJ T i p y i) (V1 i):=by
  rw [eT,e1];refine ⟨hv.rI,hv.EN,hv.rJ,hv.gF,hv.oF,hv.go,fun z x hz hx=>?_,fun z hz hx=>?_⟩
  ·have xj:(if z=p then some y else (T i).rep z)=some x:=hx
   by_cases e:z=p
   ·rw [if_pos e] at xj; cases xj
    simp only [e,if_true]; exact ⟨hy,hb⟩
   ·rw [if_neg e] at xj
    simp only [e,if_false]; exact hv.some_ z x hz xj
  ·have xj:(if z=p then some y else (T i).rep z)=none:=hx
   by_cases e:z=p
   ·rw [if_pos e] at xj; cases xj
   ·rw [if_neg e] at xj
    simp only [e,if_false]; exact hv.none_ z hz xj
 refine ⟨V1,⟨fun k hf=>Nat.lt_of_lt_of_le (h.kI k hf) hk.size,h.LF,?_,fun j hj=>?_,fun a b ha hb gi k h1 h2=>?_⟩,Rg.Kp.kF hk fun k e hf=>Ir k hf e⟩
 ·refine ((h.row.set (i*194+(2+p)) yv).set (i*194+(66+p)) bv).congr fun j hj=>?_
  have tI:j % 194<194:=Nat.mod_lt _ (by decide)
  by_cases e:j / 194=i
  ·rw [e,eT,e1]
   by_cases a:j=i*194+(66+p)
   ·have:j % 194=66+p:=by omega
    rw [if_pos a,this]; unfold cont;rw [if_neg (by omega),if_neg (by omega),if_neg (by omega),if_pos (by omega)];simp
   ·rw [if_neg a]
    by_cases b:j=i*194+(2+p)
    ·have:j % 194=2+p:=by omega
     rw [if_pos b,this]; unfold cont;rw [if_neg (by omega),if_neg (by omega),if_pos (by omega)];simp
    ·rw [if_neg b]
     unfold cont
     by_cases h0:j % 194=0
     ·simp [h0]
     by_cases h1:j % 194=1
     ·simp [h1]
     by_cases h2:j % 194<66
     ·simp only [h0,h1,h2,if_false,if_true]
      show _=(if j % 194 - 2=p then yv else (V i).t (j % 194 - 2));rw [if_neg (by omega)]
     by_cases h3:j % 194<130
     ·simp only [h0,h1,h2,h3,if_false,if_true]
      show _=(if j % 194 - 66=p then bv else (V i).b (j % 194 - 66));rw [if_neg (by omega)]
     ·simp [h0,h1,h2,h3]
  ·have ev:V1 (j / 194)=V (j / 194):=if_neg e
   have et:Go.Proofs.YtpedbljnhnoohaaGreat.jJ T i p y (j / 194)=T (j / 194):=if_neg e;rw [if_neg (by rintro rfl; exact e (tH hi (by omega)).1),if_neg (by rintro rfl; exact e (tH hi (by omega)).1),ev,et]
 ·by_cases e:j=i
  ·subst e
   exact YI.kp hk Ir fun k e=>(YI.nF k e).2
  ·have ev:V1 j=V j:=if_neg e
   have et:Go.Proofs.YtpedbljnhnoohaaGreat.jJ T i p y j=T j:=if_neg e;rw [ev,et];exact (h.lv j hj).kp hk Ir fun k e=>((h.lv j hj).nF k e).2
 ·have ho:∀ j k,(V1 j).own k->(V j).own k:=fun j k hk=>by
   by_cases e:j=i
   ·subst e; rw [e1] at hk; exact hk
   ·have ev:V1 j=V j:=if_neg e
    rwa [ev] at hk
  exact h.kJ a b ha hb gi k (ho a k h1) (ho b k h2)
theorem sq {T:bq} {V:Nat->LV} (h:aZ F L n w T V) {i p o:Nat} (hi:i<n) (hp:p<64) (ho:o=i*194+(2+p)):w.cell? ⟨L,o,none⟩=some ((V i).t p):=by
 rw [h.cell hi (m:=2+p) (by omega) ho];unfold cont;rw [if_neg (by omega),if_neg (by omega),if_pos (by omega),show 2+p - 2=p by omega]
theorem Iu {T:bq} {V:Nat->LV} (h:aZ F L n w T V) {i p o:Nat} (hi:i<n) (hp:p<64) (ho:o=i*194+(66+p)):w.cell? ⟨L,o,none⟩=some ((V i).b p):=by
 rw [h.cell hi (m:=66+p) (by omega) ho];unfold cont;rw [if_neg (by omega),if_neg (by omega),if_neg (by omega),if_pos (by omega),show 66+p - 66=p by omega]
theorem Mf {T:bq} {V:Nat->LV} (h:aZ F L n w T V) {i p o:Nat} (hi:i<n) (hp:p<64) (ho:o=i*194+(130+p)):w.cell? ⟨L,o,none⟩=some (.int .i64 (((T i).tried p:Nat):Int)):=by
 rw [h.cell hi (m:=130+p) (by omega) ho];unfold cont;rw [if_neg (by omega),if_neg (by omega),if_neg (by omega),if_neg (by omega),show 130+p - 130=p by omega]
theorem Oi {T:bq} {V:Nat->LV} (h:aZ F L n w T V) {i o:Nat} (hi:i<n) (ho:o=i*194):w.cell? ⟨L,o,none⟩=some (V i).g:=by
 rw [h.cell hi (m:=0) (by omega) ho]; rfl
theorem wL {T:bq} {V:Nat->LV} (h:aZ F L n w T V) {i o:Nat} (hi:i<n) (ho:o=i*194+1):w.cell? ⟨L,o,none⟩=some (V i).o:=by
 rw [h.cell hi (m:=1) (by omega) ho]; rfl
end
section
open Go.Proofs.Cm (Lv bq)
attribute [local irreducible] Go.Calls
theorem aZ.YJ {T:bq} {V:Nat->LV} (h:aZ F L n w T V) {i o:Nat} (hi:i<n) (ho:o=i*194) {r:List Nat} (hr:FP F w rv r) (hs:∃ a m c,rv=.slice a m c) (hl:(T i).gens.length<1000000) (ty:TypeId) :
  ∃ a c X,(Builtin.append_ #[41,41] ty #[(V i).g,.slice (some ⟨w.heap.size,0,none⟩) 1 1]).run Tryz.prog (w.alloc (.cells #[rv] 27))=.ok (.slice a ((T i).gens.length+1) c) X /\
   X.cell? ⟨L,o,none⟩=some (V i).g/\X.frozen? ⟨L,o,none⟩=false/\∃ V',aZ F L n (X.setCell ⟨L,o,none⟩ (.slice a ((T i).gens.length+1) c)) (vr T i r) V'/\KF F w (X.setCell ⟨L,o,none⟩ (.slice a ((T i).gens.length+1) c)):=by
 subst ho;have hv:=h.lv i hi;obtain ⟨a0,m0,c0,rfl⟩:=hs;have gJ:Rg.Kp (fun _=>False) w (w.alloc (.cells #[.slice a0 m0 c0] 27)):=Rg.Kp.aC ((Below.refl _ _).alloc (Nat.le_refl _) _)
 have eS:(w.alloc (.cells #[.slice a0 m0 c0] 27)).heap.size=w.heap.size+1:=by simp
 have xk:=hv.kp gJ (fun _ _=>id) (fun _ _=>id);obtain ⟨v',X,r1,r2,r3,r4,a,c,rfl⟩:=gl (P:=Tryz.prog) cp ty xk.rI (Nat.zero_le _) w.heap.size 1 (u:=.slice a0 m0 c0) (by rw [Rg.aL]; rfl) rfl hl;have mz:Rg.Kp (fun k=>(V i).g.ownBlock=some k) w X:=Rg.Kp.trans (M:=fun k=>(V i).g.ownBlock=some k) (gJ.kF fun _=>False.elim) (Rg.Kp.dc r3 fun _ e=>e) (fun _ _ e=>e);have vt:∀ k,F k->¬ (V i).g.ownBlock=some k:=fun k hk e=>(hv.gF k e).1 hk;have Oj:¬ (V i).g.ownBlock=some L:=fun e=>(hv.gF L e).2 rfl
 have VK:X.cell? ⟨L,i*194,none⟩=some (V i).g:=by
  rw [World.cell?_of_block (w:=w) (a:=⟨L,i*194,none⟩) (mz.block L h.lt Oj)];exact Oi h hi rfl
 have cJ:=nL h.row mz Oj
 refine ⟨a,c,X,r1,VK,cJ.frozen _,fun j=>if j=i then { V i with g:=.slice a ((T i).gens.length+1) c,us:=(V i).us++[.slice a0 m0 c0] } else V j,?_⟩
 have cK:∀ k,(Value.slice a ((T i).gens.length+1) c).ownBlock=some k->(V i).g.ownBlock=some k∨k=w.heap.size+1:=fun k e=>by
  rcases r4 with r4 | r4
  ·exact .inl (by rw [<- r4]; exact e)
  ·rw [r4] at e; injection e with e; exact .inr (by omega)
 have wM:=KD (T:=T) (T':=vr T i r) (V:=V) (V':=fun j=>if j=i then { V i with g:=.slice a ((T i).gens.length+1) c,us:=(V i).us++[.slice a0 m0 c0] } else V j) (x:=.slice a ((T i).gens.length+1) c)
  (fun k hk=>Nat.lt_of_lt_of_le (h.kI k hk) mz.size) h.LF cJ (fun j hj hne=>(h.lv j hj).kp mz vt (fun k e e2=>h.kJ j i hj hi hne k e (.inl e2)))
  (fun a b ha hb gi _ _=>h.kJ a b ha hb gi) hi (m:=0) (by omega) rfl (fun j hj=>⟨if_neg hj,if_neg hj⟩) ?_ ?_ ?_
 ·exact ⟨wM.1,Rg.Kp.trans (mz.kF fun k e hf=>vt k hf e) wM.2 (fun _ _ e=>e)⟩
 ·intro m' tI
  simp only [if_true,vr];unfold cont
  by_cases h0:m'=0
  ·simp [h0]
  by_cases h1:m'=1
  ·simp [h1]
  ·simp [h0,h1]
 ·simp only [if_true,vr]
  have hF:=hv.kp (M:=fun _=>False) (w':=w) (Rg.Kp.refl _ _) (fun _ _=>id) (fun _ _=>id);have aB:=hv.lt;have iY:=fun q x hq hx=>(hv.some_ q x hq hx);refine ⟨?_,?_,?_,?_,hv.oF,?_,fun q x hq hx=>⟨Rg.FI.kp (iY q x hq hx).1 mz vt,Rg.FI.kp (iY q x hq hx).2 mz vt⟩,hv.none_⟩
  ·rw [List.length_append]; exact r2
  ·rw [List.map_append]
   exact (hv.EN.kp mz vt).app (Rg.bE.one (Rg.FI.kp hr mz vt))
  ·exact jl hv.rJ mz (fun k e e2=>hv.go k e e2)
  ·intro k e
   rcases cK k e with e | e
   ·exact hv.gF k e
   ·exact ⟨fun hf=>by have:=h.kI k hf; omega,by have:=h.lt; omega⟩
  ·intro k e e2
   rcases cK k e with e | e
   ·exact hv.go k e e2
   ·have:=aB k (.inr e2); omega
 ·intro j k hj hne e
  simp only [if_true] at e
  rcases e with e | e
  ·rcases cK k e with e | e
   ·exact h.kJ i j hi hj (Ne.symm hne) k (.inl e)
   ·intro e2; have:=(h.lv j hj).lt k e2; omega
  ·exact h.kJ i j hi hj (Ne.symm hne) k (.inr e)
theorem aZ.YK {T:bq} {V:Nat->LV} (h:aZ F L n w T V) {i o:Nat} (hi:i<n) (ho:o=i*194+1) (p:Nat) (hl:(T i).orb.length<1000000) (ty:TypeId) :
  ∃ a c X,(Builtin.append_ #[26,26] ty #[(V i).o,.slice (some ⟨w.heap.size,0,none⟩) 1 1]).run Tryz.prog (w.alloc (.cells #[.int .i64 ((p:Nat):Int)] 3))=.ok (.slice a ((T i).orb.length+1) c) X /\
   X.cell? ⟨L,o,none⟩=some (V i).o/\X.frozen? ⟨L,o,none⟩=false/\∃ V',aZ F L n (X.setCell ⟨L,o,none⟩ (.slice a ((T i).orb.length+1) c)) (p9 T i p) V'/\KF F w (X.setCell ⟨L,o,none⟩ (.slice a ((T i).orb.length+1) c)):=by
 subst ho;have hv:=h.lv i hi;have gJ:Rg.Kp (fun _=>False) w (w.alloc (.cells #[.int .i64 ((p:Nat):Int)] 3)):=Rg.Kp.aC ((Below.refl _ _).alloc (Nat.le_refl _) _)
 have eS:(w.alloc (.cells #[.int .i64 ((p:Nat):Int)] 3)).heap.size=w.heap.size+1:=by simp
 have xk:=hv.kp gJ (fun _ _=>id) (fun _ _=>id);obtain ⟨v',X,r1,r2,r3,r4,a,c,rfl⟩:=gl (P:=Tryz.prog) cM ty xk.rJ (Nat.zero_le _) w.heap.size 1 (u:=.int .i64 ((p:Nat):Int)) (by rw [Rg.aL]; rfl) rfl hl;have mz:Rg.Kp (fun k=>(V i).o.ownBlock=some k) w X:=Rg.Kp.trans (M:=fun k=>(V i).o.ownBlock=some k) (gJ.kF fun _=>False.elim) (Rg.Kp.dc r3 fun _ e=>e) (fun _ _ e=>e);have vt:∀ k,F k->¬ (V i).o.ownBlock=some k:=fun k hk e=>(hv.oF k e).1 hk;have Oj:¬ (V i).o.ownBlock=some L:=fun e=>(hv.oF L e).2 rfl
 have VK:X.cell? ⟨L,i*194+1,none⟩=some (V i).o:=by
  rw [World.cell?_of_block (w:=w) (a:=⟨L,i*194+1,none⟩) (mz.block L h.lt Oj)];exact wL h hi rfl
 have cJ:=nL h.row mz Oj
 refine ⟨a,c,X,r1,VK,cJ.frozen _,fun j=>if j=i then { V i with o:=.slice a ((T i).orb.length+1) c } else V j,?_⟩
 have cK:∀ k,(Value.slice a ((T i).orb.length+1) c).ownBlock=some k->(V i).o.ownBlock=some k∨k=w.heap.size+1:=fun k e=>by
  rcases r4 with r4 | r4
  ·exact .inl (by rw [<- r4]; exact e)
  ·rw [r4] at e; injection e with e; exact .inr (by omega)
 have wM:=KD (T:=T) (T':=p9 T i p) (V:=V) (V':=fun j=>if j=i then { V i with o:=.slice a ((T i).orb.length+1) c } else V j) (x:=.slice a ((T i).orb.length+1) c)
  (fun k hk=>Nat.lt_of_lt_of_le (h.kI k hk) mz.size) h.LF cJ (fun j hj hne=>(h.lv j hj).kp mz vt (fun k e e2=>h.kJ j i hj hi hne k e (.inr e2)))
  (fun a b ha hb gi _ _=>h.kJ a b ha hb gi) hi (m:=1) (by omega) rfl (fun j hj=>⟨if_neg hj,if_neg hj⟩) ?_ ?_ ?_
 ·exact ⟨wM.1,Rg.Kp.trans (mz.kF fun k e hf=>vt k hf e) wM.2 (fun _ _ e=>e)⟩
 ·intro m' tI
  simp only [if_true,p9];unfold cont
  by_cases h0:m'=0
  ·simp [h0]
  by_cases h1:m'=1
  ·simp [h1]
  ·simp [h0,h1]
 ·simp only [if_true,p9]
  have hF:=hv.kp (M:=fun _=>False) (w':=w) (Rg.Kp.refl _ _) (fun _ _=>id) (fun _ _=>id);have aB:=hv.lt;have iY:=fun q x hq hx=>(hv.some_ q x hq hx);refine ⟨?_,hv.EN.kp mz vt,?_,hv.gF,?_,?_,fun q x hq hx=>⟨Rg.FI.kp (iY q x hq hx).1 mz vt,Rg.FI.kp (iY q x hq hx).2 mz vt⟩,hv.none_⟩
  ·exact jl hv.rI mz (fun k e e2=>hv.go k e2 e)
  ·have e1:(Ma.af ((T i).orb++[p])).map (Value.int .i64)=(Ma.af (T i).orb).map (Value.int .i64)++[.int .i64 ((p:Nat):Int)]:=by simp [Ma.af]
   rw [e1,List.length_append]; exact r2
  ·intro k e
   rcases cK k e with e | e
   ·exact hv.oF k e
   ·exact ⟨fun hf=>by have:=h.kI k hf; omega,by have:=h.lt; omega⟩
  ·intro k e e2
   rcases cK k e2 with e2 | e2
   ·exact hv.go k e e2
   ·have:=aB k (.inl e); omega
 ·intro j k hj hne e
  simp only [if_true] at e
  rcases e with e | e
  ·exact h.kJ i j hi hj (Ne.symm hne) k (.inl e)
  ·rcases cK k e with e | e
   ·exact h.kJ i j hi hj (Ne.symm hne) k (.inr e)
   ·intro e2; have:=(h.lv j hj).lt k e2; omega
theorem EO (b o:Nat) (w:World):(Instr.fieldAt 145 (.pointer (some ⟨b,o,none⟩)) 0).run Tryz.prog w=.ok (.pointer (some ⟨b,o,none⟩)) w:=by kernel_rfl
theorem Bk (b o:Nat) (w:World):(Instr.fieldAt 145 (.pointer (some ⟨b,o,none⟩)) 1).run Tryz.prog w=.ok (.pointer (some ⟨b,o+1,none⟩)) w:=by kernel_rfl
theorem wN (b o:Nat) (w:World):(Instr.fieldAt 145 (.pointer (some ⟨b,o,none⟩)) 2).run Tryz.prog w=.ok (.pointer (some ⟨b,o+2,none⟩)) w:=by kernel_rfl
theorem Bl (b o:Nat) (w:World):(Instr.fieldAt 145 (.pointer (some ⟨b,o,none⟩)) 3).run Tryz.prog w=.ok (.pointer (some ⟨b,o+66,none⟩)) w:=by kernel_rfl
theorem EP (b o:Nat) (w:World):(Instr.fieldAt 145 (.pointer (some ⟨b,o,none⟩)) 4).run Tryz.prog w=.ok (.pointer (some ⟨b,o+130,none⟩)) w:=by kernel_rfl
theorem yi (b:Nat) (w:World):(Instr.fieldAt 137 (.pointer (some ⟨b,0,none⟩)) 0).run Tryz.prog w=.ok (.pointer (some ⟨b,0,none⟩)) w:=by kernel_rfl
theorem kd (b:Nat) (w:World):(Instr.fieldAt 137 (.pointer (some ⟨b,0,none⟩)) 1).run Tryz.prog w=.ok (.pointer (some ⟨b,1,none⟩)) w:=by kernel_rfl
theorem gW:(Tryz.prog.info? 145).map (·.size)=some 194:=by kernel_rfl
theorem Cs {o:Oper} {a:Act} {t e:TypeId} {z:Nat} (x y:Operand) (ho:o.op=.indexAddr t x y) (hu:Tryz.prog.underlying t=some (.slice e)) (eS:(Tryz.prog.info? e).map (·.size)=some z) (b of len cap i:Nat) (hx:a.eval x=.slice (some ⟨b,of,none⟩) len cap) (hy:a.eval y=.int .i64 (i:Int)) (hi:i<len) :
  (execOp a.eval o).run Tryz.prog w=.ok (.value (.pointer (some ⟨b,of+i*z,none⟩))) w:=by
 obtain ⟨ie,Ik,hs⟩:=Option.map_eq_some_iff.1 eS;have h1:(0:Int)<=(i:Int)/\(i:Int)<(len:Int):=⟨by omega,by omega⟩
 have hr:(Instr.indexAt t (.slice (some ⟨b,of,none⟩) len cap) (.int .i64 (i:Int))).run Tryz.prog w=.ok (.pointer (some ⟨b,of+i*z,none⟩)) w:=by
  simp [Instr.indexAt,asIntOf,run_underlying hu,sizeOf,typeInfo,Ik,hs,h1];rw [if_pos hi];unfold Addr.add
  split
  ·rename_i h0; rw [h0]; rfl
  ·rfl
 unfold execOp;simp only [ho,hx,hy,Sem.run_bind,Sem.run_pure,hr,Result.andThen_ok]
theorem bD {o:Oper} {a:Act} {t e:TypeId} {z:Nat} (x y:Operand) (ho:o.op=.indexAddr t x y) (hu:Tryz.prog.underlying t=some (.slice e)) (eS:(Tryz.prog.info? e).map (·.size)=some z) (b len cap i:Nat) (hx:a.eval x=.slice (some ⟨b,0,none⟩) len cap) (hy:a.eval y=.int .i64 (i:Int)) (hi:i<len) :
  (execOp a.eval o).run Tryz.prog w=.ok (.value (.pointer (some ⟨b,i*z,none⟩))) w:=by
 have:=Cs (w:=w) x y ho hu eS b 0 len cap i hx hy hi
 rwa [Nat.zero_add] at this
theorem tJ {a b:List Nat} (h1:FP F w v1 a) (h2:FP F w v2 b) (ga:Cm.Gd n a) (gb:Cm.Gd n b) (hn:1<=n) (cN:n<=64) :
  Calls Tryz.prog 117 #[v1,v2] w fun e w'=>∃ v,e=.returned v/\FP (dS F w w') w' v (Ma.ar a b)/\Below w.heap.size w w':=by
 have e1:=ga.2;have e2:=gb.2;refine (yg v1 v2 a b w h1.np h2.np (fun x hx=>by have:=ga.1.1 x hx; omega) (by omega) (by omega) (by omega)).mono ?_;rintro e w' ⟨v,rfl,hv,hb⟩;exact ⟨v,rfl,FP.new hv,hb⟩
theorem Ol {a:List Nat} (h1:FP F w v1 a) (ga:Cm.Gd n a) (hn:1<=n) (cN:n<=64) :
  Calls Tryz.prog 118 #[v1] w fun e w'=>∃ v,e=.returned v/\FP (dS F w w') w' v (Ma.aX a)/\Below w.heap.size w w':=by
 have e1:=ga.2;refine (yh v1 a w h1.np ga.1 (by omega) (by omega)).mono ?_;rintro e w' ⟨v,rfl,hv,hb⟩;exact ⟨v,rfl,FP.new hv,hb⟩
theorem ER (n:Nat) (w:World) (cN:n<=64) :
  Calls Tryz.prog 119 #[.int .i64 n] w fun e w'=>∃ v,e=.returned v/\FP (dS F w w') w' v (Ma.bh n)/\Below w.heap.size w w':=by
 refine (Iq n w (by omega)).mono ?_;rintro e w' ⟨v,rfl,hv,hb⟩;exact ⟨v,rfl,FP.new hv,hb⟩
end
section
open Go.Proofs.Cm (Lv bq bP)
attribute [local irreducible] Go.Calls
theorem yj (args:Array Value) (w:World):(callFunc 117 args).run Tryz.prog w=.ok (.enter 117 args) w:=by kernel_rfl
theorem yk {o:Oper} {a:Act} (x y:Operand) (ho:o.op=.binOp .eql 27 x y 27) (hx:a.eval x=.slice none 0 0) (hy:a.eval y=.slice none 0 0):(execOp a.eval o).run Tryz.prog w=.ok (.value (.bool true)) w:=by
 have h1:(binOp .eql 27 (.slice none 0 0) (.slice none 0 0)).run Tryz.prog w=.ok (.bool true) w:=by kernel_rfl
 have hg:(eqGuard .eql 27 x y (.slice none 0 0) (.slice none 0 0)).run Tryz.prog w=.ok () w:=by
  simp [eqGuard]
 unfold execOp;simp only [ho,hx,hy,Sem.run_bind,Sem.run_pure,hg,h1,Result.andThen_ok]
theorem lX {o:Oper} {a:Act} {ad:Addr} {c:Nat} (x y:Operand) (ho:o.op=.binOp .eql 27 x y 27) (hx:a.eval x=.slice (some ad) n c) (hy:a.eval y=.slice none 0 0):(execOp a.eval o).run Tryz.prog w=.ok (.value (.bool false)) w:=by
 have h1:(binOp .eql 27 (.slice (some ad) n c) (.slice none 0 0)).run Tryz.prog w=.ok (.bool false) w:=by kernel_rfl
 have hg:(eqGuard .eql 27 x y (.slice (some ad) n c) (.slice none 0 0)).run Tryz.prog w=.ok () w:=by
  simp [eqGuard]
 unfold execOp;simp only [ho,hx,hy,Sem.run_bind,Sem.run_pure,hg,h1,Result.andThen_ok]
theorem aZ.YL {T:bq} {V:Nat->LV} (h:aZ F L n w T V) {i p:Nat} (hi:i<n) (hp:p<64) {u:List Nat} (hu:bP T i p=some u) (gu:Cm.Gd n u) (hn:1<=n):∃ b o c,(V i).b p=.slice (some ⟨b,o,none⟩) n c/\FP F w (.slice (some ⟨b,o,none⟩) n c) (Ma.aX u):=by
 have h1:=((h.lv i hi).some_ p u hp hu).2;obtain ⟨b,o,c,e,_⟩:=h1.shape (by rw [(Cm.aH gu).2]; exact hn);rw [(Cm.aH gu).2] at e;exact ⟨b,o,c,e,by rw [<- e]; exact h1⟩
theorem aZ.Sz {T:bq} {V:Nat->LV} (h:aZ F L n w T V) {i p:Nat} (hi:i<n) (hp:p<64) {u:List Nat} (hu:bP T i p=some u) (gu:Cm.Gd n u) (hn:1<=n):∃ b o c,(V i).t p=.slice (some ⟨b,o,none⟩) n c/\FP F w (.slice (some ⟨b,o,none⟩) n c) u:=by
 have h1:=((h.lv i hi).some_ p u hp hu).1;obtain ⟨b,o,c,e,_⟩:=h1.shape (by rw [gu.2]; exact hn);rw [gu.2] at e;exact ⟨b,o,c,e,by rw [<- e]; exact h1⟩
theorem FP.eC {p:List Nat} (h:FP F w v p) (gp:Cm.Gd n p) (hn:1<=n):∃ b o c,v=.slice (some ⟨b,o,none⟩) n c:=by
 obtain ⟨b,o,c,e,_⟩:=h.shape (by rw [gp.2]; exact hn);rw [gp.2] at e;exact ⟨b,o,c,e⟩
theorem FP.ap {F:Nat->Prop} {n:Nat} {w:World} {b o m c:Nat} {p:List Nat} (h:FP F w (.slice (some ⟨b,o,none⟩) m c) p) (gp:Cm.Gd n p) {i:Nat} (hi:i<n):CF F w b (o+i) (.int .i64 ((Cm.ap p i:Nat):Int)):=h.cell (by rw [gp.2]; exact hi)
theorem Mg {tb:Nat} {T:bq} {V:Nat->LV} (hT:aZ F L n w T V) (eJ:CF F w tb 0 (.int .i64 ((n:Nat):Int))) (cF:CF F w tb 1 (.slice (some ⟨L,0,none⟩) n n)) (bW:1<=n) (cN:n<=64) {x:List Nat} {i0:Nat} (hx:FP F w xv x) (gx:Cm.Gd n x) (oy:i0<=n) (SA:Cm.Fx i0 x) (hr:Cm.Rp n i0 (bP T)) :
  Calls Tryz.prog 120 #[.pointer (some ⟨tb,0,none⟩),xv,.int .i64 ((i0:Nat):Int)] w fun e w'=>∃ F' rv,e=.returned (.tuple #[.int .i64 (((Cm.eG n (bP T) (n - i0) x).1:Nat):Int),rv])/\KG F w F' w'/\aZ F' L n w' T V/\FP F' w' rv (Cm.eG n (bP T) (n - i0) x).2/\Below w.heap.size w w':=by
 obtain ⟨xb0,xo0,YM,rfl⟩:=hx.eC gx bW;have K:=U (KG.refl hT.kI);have HT:=U hT;have C0:=U eJ;have C1:=U cF;have X:=U hx;have HR:=U hr;obtain ⟨A,hA⟩:∃ A,Hid (A=Cm.eG n (bP T) (n - i0) x):=⟨_,U rfl⟩;rw [<- hA.p];have KB:=U (Below.refl w.heap.size w);have pF:=eJ.cell;have YO:=U hA.p.symm;clear hT eJ cF hx hr
 go_enter Tryz.func120,Tryz.ntmps120
 go_wp2
 go_loopw [1,8] (fun yv iv wr=>∃ (i:Nat) (y:List Nat) (F1:Nat->Prop),i0<=i/\i<=n/\iv=.int .i64 i/\Hid (FP F1 wr yv y)/\Hid (aZ F1 L n wr T V)/\Hid (CF F1 wr tb 0 (.int .i64 ((n:Nat):Int)))/\Hid (CF F1 wr tb 1 (.slice (some ⟨L,0,none⟩) n n))/\Hid (KG F w F1 wr)/\Hid (Below w.heap.size w wr)/\Hid (Cm.Gd n y)/\Hid (Cm.Fx i y)/\Hid (Cm.eG n (bP T) (n - i) y=A)) (fun _ iv _=>n - (intOf iv).toNat)
 case atStart=>exact ⟨i0,x,F,Nat.le_refl _,oy,rfl,X,HT,C0,C1,K,KB,U gx,U SA,YO⟩
 case round =>
  clear X HT C0 C1 K KB pF YO SA gx;obtain ⟨i,y,F,Aa,jE,rfl,X,HT,C0,C1,K,KB,GY,FY,HS⟩:=hrel;have pF:=C0.p.cell
  by_cases bG:i<n
  ·have SB:(i:Int)<(n:Int):=by omega
   obtain ⟨xb,xo,xc,rfl⟩:=X.p.eC GY.p bW;have vu:=Cm.bI GY.p bG;obtain ⟨q,hq⟩:∃ q:Nat,Hid (q=Cm.ap y i):=⟨_,U rfl⟩;rw [<- hq.p] at vu;have CX:=U (show CF F wr xb (xo+i) (.int .i64 ((q:Nat):Int)) by rw [hq.p]; exact X.p.ap GY.p bG)
   have jX:q<64:=by omega
   have q9:=U bG
   cases ke:bP T i q with
   | none =>
    have YP:=((HT.p.lv i bG).none_ q jX ke).2;have CB:=U (show wr.cell? ⟨L,i*194+66+q,none⟩=some (.slice none 0 0) by rw [Iu HT.p bG jX (by omega),YP])
    have HE:=U (show A=(i,y) by
     rw [<- HS.p]
     have e1:n - i=(n - i - 1)+1:=by omega
     rw [e1,Cm.lN]
     ·rw [show n - (n - i - 1+1)=i by omega]
     ·rw [show n - (n - i - 1+1)=i by omega,<- hq.p]; exact ke)
    have nM:=U HT.p.lt;clear YP ke;go_upto_region 4 with (fail);have eH:Below wr.heap.size wr wr.drew:=(Below.refl _ _).drew;replace HT:=U (HT.p.up eH);replace KB:=U (Rg.acc KB.p eH);replace CB:=U ((eH.cell (p:=⟨L,i*194+66+q,none⟩) nM.p).trans CB.p);replace nM:=U (Nat.lt_of_lt_of_le nM.p eH.size);clear eH;have aw:Below wr.heap.size wr wr.drew:=(Below.refl _ _).drew;replace X:=U (X.p.up aw);replace C0:=U (C0.p.up aw);replace C1:=U (C1.p.up aw);replace CX:=U (CX.p.up aw);replace K:=U (K.p.up aw);generalize dS F wr wr.drew=F1 at *;clear aw;refine Rg.Any.begin (S:=Rg.aI 13 (fun _=>True) (fun W=>Below wr.drew.heap.size wr.drew W)) mix ?_;generalize wr.drew=w1 at *;have hS:∀ (l:Array Bool) W,Below w1.heap.size w1 W->Rg.aI 13 (fun _=>True) (fun W=>Below w1.heap.size w1 W) l W:=fun l W h=>⟨.inr trivial,h⟩
    have hI:Below w1.heap.size w1 w1:=Below.refl _ _;refine d8 0 13 (.pointer (some ⟨tb,0,none⟩)) 19 (hS _ _ hI) ?_;go_frame;refine d7 1 13 (.pointer (some ⟨tb,0,none⟩)) 20 rfl rfl (.inl ⟨rfl,fun w _=>aP _ rfl rfl⟩) (hS _ _ hI) ?_;go_frame;refine d7 2 13 (.pointer (some ⟨tb,1,none⟩)) 21 rfl rfl (.inl ⟨rfl,fun w _=>ag _ rfl rfl (kd _ _)⟩) (hS _ _ hI) ?_;go_frame;refine d7 3 13 (.slice (some ⟨L,0,none⟩) n n) 22 rfl rfl (j0 ⟨tb,1,none⟩ (fun W hW=>Rg.ae _ _ Tryz.underlying135 ((Below.cell (p:=⟨tb,1,none⟩) hW C1.p.lt).trans C1.p.cell))) (hS _ _ hI) ?_;go_frame;refine d8 4 13 (.int .i64 ((i:Nat):Int)) 23 (hS _ _ hI) ?_;go_frame;refine d8 5 13 (.slice (some ⟨xb,xo,none⟩) n xc) 24 (hS _ _ hI) ?_;go_frame;refine d8 6 13 (.int .i64 ((i:Nat):Int)) 25 (hS _ _ hI) ?_;go_frame;refine d7 7 13 (.pointer (some ⟨xb,xo+i,none⟩)) 26 rfl rfl (Rg.aJ cw _ _ rfl rfl xb (xo) (n) xc (i) rfl rfl q9.p) (hS _ _ hI) ?_;go_frame
    refine d7 8 13 (.int .i64 ((q:Nat):Int)) 27 rfl rfl (j0 ⟨xb,xo+i,none⟩ (fun W hW=>ah ((Below.cell (p:=⟨xb,xo+i,none⟩) hW CX.p.lt).trans CX.p.cell))) (hS _ _ hI) ?_;go_frame;refine d7 9 13 (.pointer (some ⟨L,i*194,none⟩)) 28 rfl rfl (.inl ⟨rfl,fun w _=>bD _ _ rfl Tryz.underlying135 gW L (n) (n) (i) rfl rfl q9.p⟩) (hS _ _ hI) ?_;go_frame;refine d7 10 13 (.pointer (some ⟨L,i*194+66,none⟩)) 29 rfl rfl (.inl ⟨rfl,fun w _=>ag _ rfl rfl (Bl _ _ _)⟩) (hS _ _ hI) ?_;go_frame;refine d7 11 13 (.pointer (some ⟨L,i*194+66+q,none⟩)) 30 rfl rfl (.inl ⟨rfl,fun w _=>bm _ _ rfl Tryz.underlying142 tG L (i*194+66) (q) rfl rfl jX⟩) (hS _ _ hI) ?_;go_frame;refine d7 12 13 (.slice none 0 0) 31 rfl rfl (j0 ⟨L,i*194+66+q,none⟩ (fun W hW=>Rg.ae _ _ Tryz.underlying27 ((Below.cell (p:=⟨L,i*194+66+q,none⟩) hW nM.p).trans CB.p))) (hS _ _ hI) ?_;go_frame
    refine i9 13 9 rfl rfl (a8 (.slice none 0 0) _ rfl rfl) (hS _ _ hI) ?_;go_frame;refine Rg.Any.done (by kernel_rfl) ?_ _;clear hS hI;go_upto_region 5 with (fail);refine c6 ?_;refine d5 32 (.slice none 0 0) ?_;go_frame;refine d4 33 (yk _ _ rfl rfl rfl) ?_;go_frame;go_wp2
    go_ret2
    exact ⟨_,.slice (some ⟨xb,xo,none⟩) n xc,by rw [HE.p]; rfl,K.p,HT.p,by rw [HE.p]; exact X.p,KB.p⟩
   | some u =>
    have gu:=HR.p.gd i q u Aa bG ke;obtain ⟨bb,bo,bc,Om,Iv⟩:=HT.p.YL bG jX ke gu bW
    have YQ:Cm.eG n (bP T) (n - (i+1)) (Ma.ar y (Ma.aX u))=A:=by
     rw [<- HS.p]
     have e1:n - i=(n - i - 1)+1:=by omega
     rw [e1,Cm.j_ (u:=u) (by rw [show n - (n - i - 1+1)=i by omega,<- hq.p]; exact ke),show n - i - 1=n - (i+1) by omega]
    obtain ⟨UC,UD⟩:=Cm.x8 HR.p Aa bG GY.p FY.p (by rw [<- hq.p]; exact ke);have BP:=U Iv;have GI:=U (Cm.aH gu);have SC:=U YQ;have On:=U UC;have YR:=U UD;have CB:=U (show wr.cell? ⟨L,i*194+66+q,none⟩=some (.slice (some ⟨bb,bo,none⟩) n bc) by rw [Iu HT.p bG jX (by omega),Om])
    have ES:=U (show q=i->Ma.ar y (Ma.aX u)=y from fun e=>by
     have h1:=HR.p.self i Aa bG;rw [e,h1] at ke
     cases ke
     rw [Cm.inv_one,Cm.mul_one GY.p])
    have nM:=U HT.p.lt;clear Om Iv gu YQ UC UD ke HS
    by_cases VL:q=i
    ·have HY:=U (ES.p VL)
     have hqe:(q:Int)=(i:Int):=by omega
     clear VL ES;go_upto_region 4 with (fail);have eH:Below wr.heap.size wr wr.drew:=(Below.refl _ _).drew;replace KB:=U (Rg.acc KB.p eH);replace CB:=U ((eH.cell (p:=⟨L,i*194+66+q,none⟩) nM.p).trans CB.p);replace nM:=U (Nat.lt_of_lt_of_le nM.p eH.size);clear eH;have aw:Below wr.heap.size wr wr.drew:=(Below.refl _ _).drew;replace X:=U (X.p.up aw);replace HT:=U (HT.p.up aw);replace C0:=U (C0.p.up aw);replace C1:=U (C1.p.up aw);replace CX:=U (CX.p.up aw);replace BP:=U (BP.p.up aw);replace K:=U (K.p.up aw);generalize dS F wr wr.drew=F1 at *;clear aw;refine Rg.Any.begin (S:=Rg.aI 13 (fun _=>True) (fun W=>Below wr.drew.heap.size wr.drew W)) mix ?_;generalize wr.drew=w1 at *;have hS:∀ (l:Array Bool) W,Below w1.heap.size w1 W->Rg.aI 13 (fun _=>True) (fun W=>Below w1.heap.size w1 W) l W:=fun l W h=>⟨.inr trivial,h⟩
     have hI:Below w1.heap.size w1 w1:=Below.refl _ _;refine d8 0 13 (.pointer (some ⟨tb,0,none⟩)) 19 (hS _ _ hI) ?_;go_frame;refine d7 1 13 (.pointer (some ⟨tb,0,none⟩)) 20 rfl rfl (.inl ⟨rfl,fun w _=>aP _ rfl rfl⟩) (hS _ _ hI) ?_;go_frame;refine d7 2 13 (.pointer (some ⟨tb,1,none⟩)) 21 rfl rfl (.inl ⟨rfl,fun w _=>ag _ rfl rfl (kd _ _)⟩) (hS _ _ hI) ?_;go_frame;refine d7 3 13 (.slice (some ⟨L,0,none⟩) n n) 22 rfl rfl (j0 ⟨tb,1,none⟩ (fun W hW=>Rg.ae _ _ Tryz.underlying135 ((Below.cell (p:=⟨tb,1,none⟩) hW C1.p.lt).trans C1.p.cell))) (hS _ _ hI) ?_;go_frame;refine d8 4 13 (.int .i64 ((i:Nat):Int)) 23 (hS _ _ hI) ?_;go_frame;refine d8 5 13 (.slice (some ⟨xb,xo,none⟩) n xc) 24 (hS _ _ hI) ?_;go_frame;refine d8 6 13 (.int .i64 ((i:Nat):Int)) 25 (hS _ _ hI) ?_;go_frame;refine d7 7 13 (.pointer (some ⟨xb,xo+i,none⟩)) 26 rfl rfl (Rg.aJ cw _ _ rfl rfl xb (xo) (n) xc (i) rfl rfl q9.p) (hS _ _ hI) ?_;go_frame
     refine d7 8 13 (.int .i64 ((q:Nat):Int)) 27 rfl rfl (j0 ⟨xb,xo+i,none⟩ (fun W hW=>ah ((Below.cell (p:=⟨xb,xo+i,none⟩) hW CX.p.lt).trans CX.p.cell))) (hS _ _ hI) ?_;go_frame;refine d7 9 13 (.pointer (some ⟨L,i*194,none⟩)) 28 rfl rfl (.inl ⟨rfl,fun w _=>bD _ _ rfl Tryz.underlying135 gW L (n) (n) (i) rfl rfl q9.p⟩) (hS _ _ hI) ?_;go_frame;refine d7 10 13 (.pointer (some ⟨L,i*194+66,none⟩)) 29 rfl rfl (.inl ⟨rfl,fun w _=>ag _ rfl rfl (Bl _ _ _)⟩) (hS _ _ hI) ?_;go_frame;refine d7 11 13 (.pointer (some ⟨L,i*194+66+q,none⟩)) 30 rfl rfl (.inl ⟨rfl,fun w _=>bm _ _ rfl Tryz.underlying142 tG L (i*194+66) (q) rfl rfl jX⟩) (hS _ _ hI) ?_;go_frame;refine d7 12 13 (.slice (some ⟨bb,bo,none⟩) n bc) 31 rfl rfl (j0 ⟨L,i*194+66+q,none⟩ (fun W hW=>Rg.ae _ _ Tryz.underlying27 ((Below.cell (p:=⟨L,i*194+66+q,none⟩) hW nM.p).trans CB.p))) (hS _ _ hI) ?_;go_frame
     refine i9 13 9 rfl rfl (a8 (.slice (some ⟨bb,bo,none⟩) n bc) _ rfl rfl) (hS _ _ hI) ?_;go_frame;refine Rg.Any.done (by kernel_rfl) ?_ _;clear hS hI;go_upto_region 5 with (fail);refine c6 ?_;refine d5 32 (.slice (some ⟨bb,bo,none⟩) n bc) ?_;go_frame;refine d4 33 (lX _ _ rfl rfl rfl) ?_;go_frame;go_upto_region 7 with (fail);refine c6 ?_;refine d5 36 (.slice (some ⟨xb,xo,none⟩) n xc) ?_;go_frame;refine d5 37 (.int .i64 ((i:Nat):Int)) ?_;go_frame;refine d4 38 (aD cw _ _ rfl xb (xo) (n) xc (i) rfl rfl q9.p) ?_;go_frame;refine d4 39 (g9 (.int .i64 ((q:Nat):Int)) ⟨xb,xo+i,none⟩ (ah CX.p.cell)) ?_;go_frame;refine d5 40 (.int .i64 ((i:Nat):Int)) ?_;go_frame;refine d4 41 (i3 (.bool false) .neq (h:=aQ _ g7)) ?_;go_frame;have pF:=C0.p.cell;go_wp2
     go_roundw
     case rel=>exact ⟨i+1,y,_,by omega,by omega,by go_num,X,HT,C0,C1,K,KB,GY,U (by have:=YR.p; rwa [HY.p] at this),U (by have:=SC.p; rwa [HY.p] at this)⟩
     case measure=>simp [intOf]; omega
    ·have hqe:¬ (q:Int)=(i:Int):=by omega
     clear VL ES;go_upto_region 4 with (fail);have eH:Below wr.heap.size wr wr.drew:=(Below.refl _ _).drew;replace KB:=U (Rg.acc KB.p eH);replace CB:=U ((eH.cell (p:=⟨L,i*194+66+q,none⟩) nM.p).trans CB.p);replace nM:=U (Nat.lt_of_lt_of_le nM.p eH.size);clear eH;have aw:Below wr.heap.size wr wr.drew:=(Below.refl _ _).drew;replace X:=U (X.p.up aw);replace HT:=U (HT.p.up aw);replace C0:=U (C0.p.up aw);replace C1:=U (C1.p.up aw);replace CX:=U (CX.p.up aw);replace BP:=U (BP.p.up aw);replace K:=U (K.p.up aw);generalize dS F wr wr.drew=F1 at *;clear aw;refine Rg.Any.begin (S:=Rg.aI 13 (fun _=>True) (fun W=>Below wr.drew.heap.size wr.drew W)) mix ?_;generalize wr.drew=w1 at *;have hS:∀ (l:Array Bool) W,Below w1.heap.size w1 W->Rg.aI 13 (fun _=>True) (fun W=>Below w1.heap.size w1 W) l W:=fun l W h=>⟨.inr trivial,h⟩
     have hI:Below w1.heap.size w1 w1:=Below.refl _ _;refine d8 0 13 (.pointer (some ⟨tb,0,none⟩)) 19 (hS _ _ hI) ?_;go_frame;refine d7 1 13 (.pointer (some ⟨tb,0,none⟩)) 20 rfl rfl (.inl ⟨rfl,fun w _=>aP _ rfl rfl⟩) (hS _ _ hI) ?_;go_frame;refine d7 2 13 (.pointer (some ⟨tb,1,none⟩)) 21 rfl rfl (.inl ⟨rfl,fun w _=>ag _ rfl rfl (kd _ _)⟩) (hS _ _ hI) ?_;go_frame;refine d7 3 13 (.slice (some ⟨L,0,none⟩) n n) 22 rfl rfl (j0 ⟨tb,1,none⟩ (fun W hW=>Rg.ae _ _ Tryz.underlying135 ((Below.cell (p:=⟨tb,1,none⟩) hW C1.p.lt).trans C1.p.cell))) (hS _ _ hI) ?_;go_frame;refine d8 4 13 (.int .i64 ((i:Nat):Int)) 23 (hS _ _ hI) ?_;go_frame;refine d8 5 13 (.slice (some ⟨xb,xo,none⟩) n xc) 24 (hS _ _ hI) ?_;go_frame;refine d8 6 13 (.int .i64 ((i:Nat):Int)) 25 (hS _ _ hI) ?_;go_frame;refine d7 7 13 (.pointer (some ⟨xb,xo+i,none⟩)) 26 rfl rfl (Rg.aJ cw _ _ rfl rfl xb (xo) (n) xc (i) rfl rfl q9.p) (hS _ _ hI) ?_;go_frame
     refine d7 8 13 (.int .i64 ((q:Nat):Int)) 27 rfl rfl (j0 ⟨xb,xo+i,none⟩ (fun W hW=>ah ((Below.cell (p:=⟨xb,xo+i,none⟩) hW CX.p.lt).trans CX.p.cell))) (hS _ _ hI) ?_;go_frame;refine d7 9 13 (.pointer (some ⟨L,i*194,none⟩)) 28 rfl rfl (.inl ⟨rfl,fun w _=>bD _ _ rfl Tryz.underlying135 gW L (n) (n) (i) rfl rfl q9.p⟩) (hS _ _ hI) ?_;go_frame;refine d7 10 13 (.pointer (some ⟨L,i*194+66,none⟩)) 29 rfl rfl (.inl ⟨rfl,fun w _=>ag _ rfl rfl (Bl _ _ _)⟩) (hS _ _ hI) ?_;go_frame;refine d7 11 13 (.pointer (some ⟨L,i*194+66+q,none⟩)) 30 rfl rfl (.inl ⟨rfl,fun w _=>bm _ _ rfl Tryz.underlying142 tG L (i*194+66) (q) rfl rfl jX⟩) (hS _ _ hI) ?_;go_frame;refine d7 12 13 (.slice (some ⟨bb,bo,none⟩) n bc) 31 rfl rfl (j0 ⟨L,i*194+66+q,none⟩ (fun W hW=>Rg.ae _ _ Tryz.underlying27 ((Below.cell (p:=⟨L,i*194+66+q,none⟩) hW nM.p).trans CB.p))) (hS _ _ hI) ?_;go_frame
     refine i9 13 9 rfl rfl (a8 (.slice (some ⟨bb,bo,none⟩) n bc) _ rfl rfl) (hS _ _ hI) ?_;go_frame;refine Rg.Any.done (by kernel_rfl) ?_ _;clear hS hI;go_upto_region 5 with (fail);refine c6 ?_;refine d5 32 (.slice (some ⟨bb,bo,none⟩) n bc) ?_;go_frame;refine d4 33 (lX _ _ rfl rfl rfl) ?_;go_frame;go_upto_region 7 with (fail);refine c6 ?_;refine d5 36 (.slice (some ⟨xb,xo,none⟩) n xc) ?_;go_frame;refine d5 37 (.int .i64 ((i:Nat):Int)) ?_;go_frame;refine d4 38 (aD cw _ _ rfl xb (xo) (n) xc (i) rfl rfl q9.p) ?_;go_frame;refine d4 39 (g9 (.int .i64 ((q:Nat):Int)) ⟨xb,xo+i,none⟩ (ah CX.p.cell)) ?_;go_frame;refine d5 40 (.int .i64 ((i:Nat):Int)) ?_;go_frame;refine d4 41 (i3 (.bool true) .neq (h:=aQ _ f9)) ?_;go_frame;clear pF;go_upto_region 8 with (fail);refine c6 ?_;refine d5 42 (.slice (some ⟨xb,xo,none⟩) n xc) ?_;go_frame
     refine d5 43 (.slice (some ⟨bb,bo,none⟩) n bc) ?_;go_frame;refine f8 44 (aj 117 _ _ _ rfl rfl rfl (yj _ _)) ?_;refine (tJ X.p BP.p GY.p GI.p bW cN).mono ?_;rintro e1 w2 ⟨mv,rfl,iO,hb⟩;replace KB:=U (Rg.acc KB.p hb);refine ⟨_,rfl,?_⟩;go_frame;replace X:=U (X.p.up hb);replace HT:=U (HT.p.up hb);replace C0:=U (C0.p.up hb);replace C1:=U (C1.p.up hb);replace CX:=U (CX.p.up hb);replace BP:=U (BP.p.up hb);replace K:=U (K.p.up hb);have MV:=U iO;generalize dS F1 w1 w2=F2 at *;clear hb;refine d6 1 (mv) ?_;go_frame;have pF:=C0.p.cell;go_wp2
     go_roundw
     case rel=>exact ⟨i+1,_,_,by omega,by omega,by go_num,MV,HT,C0,C1,K,KB,On,YR,SC⟩
     case measure=>simp [intOf]; omega
  ·obtain rfl:i=n:=by omega
   have HE:=U (show A=(i,y) by rw [<- HS.p,Nat.sub_self]; rfl);clear HS;go_wp2
   go_ret2
   exact ⟨_,u1,by rw [HE.p]; rfl,K.p,HT.p,by rw [HE.p]; exact X.p,KB.p⟩
end
end Go.Proofs.YtpedbljnhnoohaaGreat
namespace Go.Proofs.Cm
open Go.Proofs
def Full (n:Nat) (T:bq) (j:Nat):Prop:=fK n T j/\Af T j/\(T j).gens.length<=Co n T j
structure jY (n i:Nat) (T T1:bq):Prop where
 ext:Ext T T1
 low:∀ j,j<i->T1 j=T j
 gens:(T1 i).gens=(T i).gens
 up:∀ j,i<j->j<n->Full n T1 j
 lvl:fK n T1 i
def mG (T:bq) (i k:Nat):Prop:=∀ m (h:m<(T i).orb.length),m<k->(T i).tried (T i).orb[m]=(T i).gens.length
theorem jY.refl {n i:Nat} {T:bq} (h:fK n T i) (hu:∀ j,i<j->j<n->Full n T j):jY n i T T:=⟨Ext.refl T,fun _ _=>rfl,rfl,hu,h⟩
theorem jY.all {i:Nat} {T T1:bq} (h:jY n i T T1):∀ j,i<=j->j<n->fK n T1 j:=fun j h1 h2=>by
 by_cases e:j=i
 ·subst e; exact h.lvl
 ·exact (h.up j (by omega) h2).1
theorem mG.cmp {i:Nat} {T:bq} (h:mG T i (T i).orb.length) (hl:fK n T i):Af T i:=fun q u hu=>by
 obtain ⟨m,hm,rfl⟩:=List.getElem_of_mem ((hl.orb q).2 ⟨u,hu⟩);exact h m hm hm
theorem Full.ext {n:Nat} {T T':bq} {j:Nat} (h:Full n T j) (hx:Ext T T') (e:T' j=T j) (e2:j+1<n->T' (j+1)=T (j+1)):Full n T' j:=by
 obtain ⟨h1,h2,h3⟩:=h;refine ⟨h1.ext e hx fun h0 s hs=>?_,h2.ext e,by rw [e]; exact Nat.le_trans h3 (L3 hx j)⟩;rw [e2 h0] at hs;exact h1.low h0 s hs
theorem jY.found {i k:Nat} {T T1:bq} (h:jY n i T T1) (hd:mG T1 i k) (bG:i<n) {q:Nat} {s uq:List Nat} (hk:(T1 i).tried q<(T1 i).gens.length) (hs:(T1 i).gens[(T1 i).tried q]=s) (lf:(T1 i).rep q=some uq) (hp:(T1 i).rep (ap s q)=none)
  (Ct:∃ h:k<(T1 i).orb.length,(T1 i).orb[k]=q) :
  jY n i T (find (tick T1 i q) i (ap s q) (Ma.ar uq s))/\mG (find (tick T1 i q) i (ap s q) (Ma.ar uq s)) i k/\((find (tick T1 i q) i (ap s q) (Ma.ar uq s) i).tried q=(T1 i).tried q+1)/\(find (tick T1 i q) i (ap s q) (Ma.ar uq s) i).gens=(T1 i).gens /\
   ∃ h:k<(find (tick T1 i q) i (ap s q) (Ma.ar uq s) i).orb.length,(find (tick T1 i q) i (ap s q) (Ma.ar uq s) i).orb[k]=q:=by
 have hx:Ext T1 (find (tick T1 i q) i (ap s q) (Ma.ar uq s)):=(kb T1 i q).trans (vn (by rw [ee]; exact hp))
 have ne:∀ j,j≠i->find (tick T1 i q) i (ap s q) (Ma.ar uq s) j=T1 j:=fun j hj=>by rw [p6 hj,iW hj]
 have ei:find (tick T1 i q) i (ap s q) (Ma.ar uq s) i={ gens:=(T1 i).gens,orb:=(T1 i).orb++[ap s q],rep:=fun z=>if z=ap s q then some (Ma.ar uq s) else (T1 i).rep z,tried:=fun p=>if p=q then (T1 i).tried p+1 else (T1 i).tried p }:=by rw [nK,ee]
 obtain ⟨Iw,Ct⟩:=Ct;refine ⟨⟨h.ext.trans hx,fun j hj=>by rw [ne j (by omega)]; exact h.low j hj,by rw [ei]; exact h.gens,fun j h1 h2=>(h.up j h1 h2).ext hx (ne j (by omega)) (fun _=>ne _ (by omega)),L8 h.all bG hk hs lf hp⟩,?_,by rw [ei]; simp,by rw [ei],?_⟩
 ·intro m hm dp
  have tI:m<(T1 i).orb.length:=by omega
  have e1:(find (tick T1 i q) i (ap s q) (Ma.ar uq s) i).orb[m]=(T1 i).orb[m]:=by simp only [ei]; rw [List.getElem_append_left tI]
  rw [e1]
  have hne:(T1 i).orb[m]≠q:=by
   rw [<- Ct];intro e;have:=(List.getElem_inj h.lvl.nd).1 e;omega
  simp only [ei];rw [if_neg hne];exact hd m tI dp
 ·have cU:k<((T1 i).orb++[ap s q]).length:=by simp; omega
  refine ⟨by rw [ei]; exact cU,?_⟩;simp only [ei];rw [List.getElem_append_left Iw]; exact Ct
theorem jY.KH {i k:Nat} {T T1 T4:bq} (h:jY n i T T1) (hd:mG T1 i k) {q:Nat} {s uq v:List Nat} (hk:(T1 i).tried q<(T1 i).gens.length) (hs:(T1 i).gens[(T1 i).tried q]=s) (lf:(T1 i).rep q=some uq) (hv:(T1 i).rep (ap s q)=some v)
  (Ct:∃ h:k<(T1 i).orb.length,(T1 i).orb[k]=q) (hx:Ext (tick T1 i q) T4) (he:∀ j,j<i+1->T4 j=tick T1 i q j) (hu:∀ j,i<j->j<n->Full n T4 j)
  (px:i+1<n->∀ s∈(T4 (i+1)).gens,Gr n (·∈(T1 i).gens) s) (VI:Sd n (bP T4) (n - (i+1)) (Ma.ar (Ma.ar uq s) (Ma.aX v))) :
  jY n i T T4/\mG T4 i k/\(T4 i).tried q=(T1 i).tried q+1/\(T4 i).gens=(T1 i).gens/\∃ h:k<(T4 i).orb.length,(T4 i).orb[k]=q:=by
 have xn:=(kb T1 i q).trans hx;have ei:=(he i (by omega)).trans (ee T1 i q);obtain ⟨Iw,Ct⟩:=Ct;refine ⟨⟨h.ext.trans xn,fun j hj=>by rw [he j (by omega),iW (by omega)]; exact h.low j hj,by rw [ei]; exact h.gens,hu,L7 h.lvl hk hs lf (he i (by omega)) xn px hv VI⟩,?_,by rw [ei]; simp,by rw [ei],?_⟩
 ·intro m hm dp
  have tI:m<(T1 i).orb.length:=by rw [ei] at hm; exact hm
  have hne:(T1 i).orb[m]≠q:=by
   rw [<- Ct];intro e;have:=(List.getElem_inj h.lvl.nd).1 e;omega
  simp only [ei];rw [if_neg hne];exact hd m tI dp
 ·refine ⟨by rw [ei]; exact Iw,?_⟩
  simp only [ei]; exact Ct
theorem Oo {i q:Nat} {T:bq} (h:fK n T i) (bG:i<n) {s uq v:List Nat} (hs:s∈(T i).gens) (lf:(T i).rep q=some uq) (hv:(T i).rep (ap s q)=some v) :
  Gd n (Ma.ar uq s)/\Gd n v/\ap (Ma.ar uq s) i=ap s q/\Gd n (Ma.ar (Ma.ar uq s) (Ma.aX v))/\Fx (i+1) (Ma.ar (Ma.ar uq s) (Ma.aX v))/\Gr n (·∈(T i).gens) (Ma.ar (Ma.ar uq s) (Ma.aX v)):=by
 have gs:=h.Ae s hs;have gu:=h.x9 q uq lf;have gv:=h.x9 _ v hv;have gy:=aT gu gs
 have ay:ap (Ma.ar uq s) i=ap s q:=by rw [bs gu bG,h.Ck q uq lf]
 have fy:Fx i (Ma.ar uq s):=Fx.mul gu (by omega) (h.EH q uq lf) (h.L2 s hs);refine ⟨gy,gv,ay,aT gy (aH gv),fun j hj=>?_,.mul _ _ (.mul _ _ (h.EJ q uq lf) (.gen _ hs)) (.inv _ (h.EJ _ v hv))⟩;rw [bs gy (by omega)]
 by_cases e:j=i
 ·subst e
  rw [ay,<- h.Ck _ v hv];exact eW gv bG
 ·rw [fy j (by omega)]
  exact Fx.inv gv (by omega) (h.EH _ v hv) j (by omega)
structure vw (n i:Nat) (T T':bq) (x:List Nat):Prop where
 ext:Ext T T'
 low:∀ j,j<i->T' j=T j
 full:∀ j,i<=j->j<n->Full n T' j
 sd:Sd n (bP T') (n - i) x
 gens:∀ H:List Nat->Prop,cj n H->(∀ s∈(T i).gens,H s)->H x->∀ s∈(T' i).gens,H s
theorem vw.same {i:Nat} {T:bq} {x:List Nat} (hf:∀ j,i<=j->j<n->Full n T j) (hi:i<n) (gx:Gd n x) (fx:Fx i x) (h:(eG n (bP T) (n - i) x).1=n):vw n i T T x:=by
 have hr:Rp n i (bP T):=fK.rp fun j a b=>(hf j a b).1;obtain ⟨_,_,g,f,_⟩:=pY hr (d:=n - i) (x:=x) (by omega) (by omega) gx (by rw [show n - (n - i)=i by omega]; exact fx);rw [h] at f;refine ⟨Ext.refl T,fun _ _=>rfl,hf,?_,fun H _ hs _=>hs⟩;refine vg (tr:=bP T) (by omega) (fun _ _ _ _ e=>e) ?_;rw [h,Nat.sub_self];exact Fx.all g f
structure mH (n i at_ k:Nat) (T T1:bq) (r:List Nat):Prop where
 ext:Ext T T1
 low:∀ j,j<i->T1 j=T j
 put:∀ j,i<=j->j<k->T1 j=gV T i at_ r j
 full:∀ j,k<=j->j<n->Full n T1 j
 UE:k<=at_->(T1 k).gens=(T k).gens++[r]
 tail:k=at_+1->∀ j,at_<j->T1 j=T j
 UF:r∈(T1 at_).gens
 more:k<=at_->(T at_).orb.length<(T1 at_).orb.length
theorem mH.start {i at_:Nat} {T:bq} {r:List Nat} (hf:∀ j,i<=j->j<n->Full n T j) (hi:i<=at_):mH n i at_ (at_+1) T (gV T i at_ r) r :=
 ⟨vk _ _ _ _,fun j hj=>eU (by omega),fun _ _ _=>rfl,fun j h1 h2=>(hf j (by omega) h2).ext (vk T i at_ r) (eU (by omega)) (fun _=>eU (by omega)),fun h=>by omega,fun _ j hj=>eU (by omega),
  by rw [iU ⟨hi,Nat.le_refl _⟩]; exact List.mem_append_right _ (List.mem_singleton.2 rfl),fun h=>by omega⟩
theorem mH.lvl {i at_ k:Nat} {T T1:bq} {r:List Nat} (h:mH n i at_ (k+1) T T1 r) (hf:∀ j,i<=j->j<n->Full n T j) (hi:i<=k) (hk:k<=at_) (ha:at_<n) (gr:Gd n r) (fr:Fx at_ r):fK n T1 k:=by
 have h1:=L5 (hf k hi (by omega)).1 hi gr fr;have e0:=h.put k hi (by omega);refine h1.UA e0 (fun j p u e=>?_) fun h0 s hs=>?_
 ·have:bP (gV T i at_ r) j p=some u:=e
  rw [tE] at this;exact h.ext.rep j p u this
 ·by_cases e:k+1<=at_
  ·rw [h.UE e] at hs
   have hp:=h1.low h0 s;rw [iU (j:=k+1) ⟨by omega,e⟩] at hp;exact hp hs
  ·have e2:k+1=at_+1:=by omega
   rw [h.tail e2 (k+1) (by omega)] at hs;have hp:=h1.low h0 s;rw [eU (j:=k+1) (by omega)] at hp;exact hp hs
theorem mH.step {i at_ k:Nat} {T T1 T2:bq} {r:List Nat} (h:mH n i at_ (k+1) T T1 r) (hf:∀ j,i<=j->j<n->Full n T j) (hi:i<=k) (hk:k<=at_) (ha:at_<n) (hp:(T at_).rep (ap r at_)=none) (hc:jY n k T1 T2) (VD:Af T2 k):mH n i at_ k T T2 r:=by
 have hx:=h.ext.trans hc.ext
 have hg:(T2 k).gens=(T k).gens++[r]:=by rw [hc.gens,h.put k hi (by omega),iU ⟨hi,hk⟩]
 have hm:=hc.ext.gens at_ r h.UF
 have aB:(T at_).orb.length<(T2 at_).orb.length:=by
  by_cases e:k=at_
  ·subst e
   have h0:=(hf k hi ha).1;have hl:=hc.lvl;have Oq:=hl.self;obtain ⟨m,lF,jF⟩:=List.getElem_of_mem hm;obtain ⟨v,hv,_⟩:=hl.pr k _ m lF Oq (by rw [VD k _ Oq]; exact lF);rw [jF] at hv;have bG:=(hl.orb (ap r k)).2 ⟨v,hv⟩
   have YS:ap r k∉(T k).orb:=fun hh=>by
    obtain ⟨u,hu⟩:=(h0.orb _).1 hh;rw [hp] at hu; cases hu
   have hnd:(ap r k :: (T k).orb).Nodup:=List.nodup_cons.2 ⟨YS,h0.nd⟩
   have:=List.Nodup.length_le_of_subset hnd (l₂:=(T2 k).orb) (fun z hz=>by
    rcases List.mem_cons.1 hz with rfl | hz
    ·exact bG
    ·obtain ⟨u,hu⟩:=(h0.orb z).1 hz
     exact (hl.orb z).2 ⟨u,hx.rep k z u hu⟩)
   simp at this; omega
  ·exact Nat.lt_of_lt_of_le (h.more (by omega)) (hc.ext.orb at_)
 refine ⟨hx,fun j hj=>by rw [hc.low j (by omega)]; exact h.low j hj,fun j h1 h2=>by rw [hc.low j h2]; exact h.put j h1 (by omega),fun j h1 h2=>?_,fun _=>hg,fun e=>by omega,hm,fun _=>aB⟩
 by_cases e:j=k
 ·subst e
  refine ⟨hc.lvl,VD,?_⟩;have:=(hf j hi h2).2.2;have h3:=L4 (n:=n) hx ha hk aB;rw [hg,List.length_append,List.length_singleton];omega
 ·exact hc.up j (by omega) h2
theorem mH.up {i at_ k:Nat} {T T1:bq} {r:List Nat} (h:mH n i at_ (k+1) T T1 r):∀ j,k<j->j<n->Full n T1 j:=fun j h1 h2=>h.full j (by omega) h2
theorem mH.added {i:Nat} {T T1:bq} {x:List Nat} (hf:∀ j,i<=j->j<n->Full n T j) (hi:i<n) (gx:Gd n x) (fx:Fx i x) (h:mH n i (eG n (bP T) (n - i) x).1 i T T1 (eG n (bP T) (n - i) x).2) (ha:(eG n (bP T) (n - i) x).1<n):vw n i T T1 x:=by
 have hr:Rp n i (bP T):=fK.rp fun j a b=>(hf j a b).1;obtain ⟨_,Ci,gr,fr,_⟩:=pY hr (d:=n - i) (x:=x) (by omega) (by omega) gx (by rw [show n - (n - i)=i by omega]; exact fx);rw [show n - (n - i)=i by omega] at Ci;refine ⟨h.ext,h.low,h.full,?_,fun H hH hs hx s iY=>?_⟩
 ·refine vg (tr:=bP T) (by omega) (fun j p u _ e=>h.ext.rep j p u e) ?_
  exact fK.sd (fun j h1 h2=>⟨(h.full j (by omega) h2).1,(h.full j (by omega) h2).2.1⟩) ha (.gen _ h.UF)
 ·rw [h.UE Ci] at iY
  rcases List.mem_append.1 iY with iY | iY
  ·exact hs s iY
  ·rw [List.mem_singleton] at iY
   subst iY;refine EG hH (by omega) (fun j p u h1 h2 hu=>?_) hx;have hT:ve n i (fun j s=>s∈(T j).gens) (bP T):=fK.VH fun j a b=>⟨(hf j a b).1,(hf j a b).2.1⟩;have h3:=hT.mem j p u (by omega) h2 hu;have h4:=hT.sub (i:=i) (Nat.le_refl _) (k:=j - i) (by omega) (x:=u) (by rwa [show i+(j - i)=j by omega]);exact Gr.sub hH hs h4
end Go.Proofs.Cm
