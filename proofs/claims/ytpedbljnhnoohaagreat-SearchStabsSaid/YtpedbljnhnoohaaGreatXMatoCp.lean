/- Lemmas and contracts on the way to the statement; no condition of their own beyond those written. -/
import Derived.Lib.Hide
import Derived.Deep.OwnRows
import Derived.WalkKit
import Derived.WalkSpells
import Derived.WalkLawsBesides
import Derived.Maps.AppendAt
import Derived.OwnWalk
import Derived.OrdersHeld
import Derived.Stop.BytesEq
import Derived.MapKept
import Derived.ChangeMaps5
import Derived.StillTailTactics
import Derived.Deep.MidRow
import Derived.Laws.CopyOwn
import Derived.Laws.OwnMore
import Derived.Great.BuildSlice
import Derived.ArgAppend
import Derived.IntWalk
import Derived.Test.YtpedbljnhnoohaaGreatProg
import Derived.Outline
import Derived.Deep.DeepFit
import Derived.BigQuiet
import Derived.Deep.QuietTactic
import Derived.Deep.CutRange
import Derived.Deep.CutBlock
import Derived.Shelf.Sort.Plain
import Derived.Sort.OwnSortedInts
import Derived.WideMake
set_option linter.unusedVariables false
set_option linter.unusedSimpArgs false
set_option maxRecDepth 100000
set_option maxHeartbeats 8000000
variable {n B N L D tc j tb base tf n₀ bytes:Nat} {v rv ov z v1 v2 xv u1 yv u2 cv tv:Go.Value} {W w' W' X w0 W0:Go.World} {F M F' F0 Fk:Nat->Prop} {O gs A LL:List (List Nat)} {ll OO PS:List (List Int)} {R:List (List (List Nat))} {RR gl:List (List (List Int))} {H:List Nat->Prop} {d ck:Int} {xs:List Go.Value} {xl l1 l2:List Int}
abbrev BE (w W:Go.World):Prop:=Go.RowKit.Below w.heap.size w W
theorem be (w:Go.World) (x:Go.Obj):BE w (w.alloc x):=(Go.RowKit.Below.refl w.heap.size w).alloc (Nat.le_refl _) x
theorem bi (w:Go.World):BE w w:=Go.RowKit.Below.refl w.heap.size w
theorem Go.RowKit.Hid.u {p:Prop} (h:Go.RowKit.Hid p):p:=h.out
namespace Go.Proofs.Cm
end Go.Proofs.Cm
namespace Go.Proofs.Ob
end Go.Proofs.Ob
namespace Go.Proofs.YtpedbljnhnoohaaGreat
end Go.Proofs.YtpedbljnhnoohaaGreat
namespace Go.Proofs.Ma
def uu (l:List Int):Prop:=(∀ x∈l,0<=x/\x<l.length)/\l.Nodup
instance (l:List Int):Decidable (uu l):=inferInstanceAs (Decidable (_/\_))
def xD (l:List Int) (k:Nat):Prop:=(∀ x∈l.take k,0<=x/\x<l.length)/\(l.take k).Nodup
theorem xE (l:List Int):xD l 0:=⟨by simp,by simp⟩
theorem Fh {l:List Int} (h:xD l l.length):uu l:=by
 unfold xD at h; rw [List.take_length] at h; exact h
theorem Ci {l:List Int} {k:Nat} (h:xD l k) (hk:k<l.length) (h0:0<=l[k]) (h1:l[k]<l.length) (h2:l[k]∉l.take k):xD l (k+1):=by
 unfold xD;rw [List.take_succ_eq_append_getElem hk];refine ⟨fun x hx=>?_,?_⟩
 ·rcases List.mem_append.1 hx with hx | hx
  ·exact h.1 x hx
  ·obtain rfl:x=l[k]:=by simpa using hx
   exact ⟨h0,h1⟩
 ·rw [List.nodup_append]
  refine ⟨h.2,by simp,fun a ha b hb=>?_⟩
  obtain rfl:b=l[k]:=by simpa using hb
  intro e; exact h2 (e▸ha)
theorem Mo {l:List Int} {k:Nat} (hk:k<l.length) (h0:l[k]<0):¬ uu l:=fun h=>by
 have:=(h.1 _ (List.getElem_mem hk)).1; omega
theorem Mp {l:List Int} {k:Nat} (hk:k<l.length) (h0:(l.length:Int)<=l[k]):¬ uu l:=fun h=>by
 have:=(h.1 _ (List.getElem_mem hk)).2; omega
theorem Fi {l:List Int} {k:Nat} (hk:k<l.length) (h0:l[k]∈l.take k):¬ uu l:=fun h=>by
 have hn:=h.2;rw [<- List.take_append_drop k l,List.nodup_append] at hn;refine hn.2.2 _ h0 l[k] ?_ rfl;rw [List.drop_eq_getElem_cons hk]; exact List.mem_cons_self
theorem qk {l:List Int} {k:Nat} (hk:k<l.length) (j:Nat):decide ((j:Int)∈l.take (k+1))=if (j:Int)=l[k] then true else decide ((j:Int)∈l.take k):=by
 have h:((j:Int)∈l.take (k+1))↔((j:Int)∈l.take k∨(j:Int)=l[k]):=by
  rw [List.take_succ_eq_append_getElem hk,List.mem_append,List.mem_singleton]
 by_cases e:(j:Int)=l[k]
 ·rw [if_pos e,decide_eq_true_eq,h]; exact .inr e
 ·rw [if_neg e]; exact decide_eq_decide.2 (by rw [h]; exact ⟨fun x=>x.resolve_right e,.inl⟩)
def bY (l:List Int):Int:=if 1<=l.length/\l.length<=64 then (if uu l then 0 else 3) else 2
theorem rK {l:List Int} (h:¬ (1<=l.length/\l.length<=64)):bY l=2:=by unfold bY; rw [if_neg h]
theorem rL {l:List Int} (h1:1<=l.length) (h2:l.length<=64) (h:¬ uu l):bY l=3:=by unfold bY; rw [if_pos ⟨h1,h2⟩,if_neg h]
theorem nZ {l:List Int} (h1:1<=l.length) (h2:l.length<=64) (h:uu l):bY l=0:=by unfold bY; rw [if_pos ⟨h1,h2⟩,if_pos h]
theorem jl {l:List Int} (h:bY l=0):1<=l.length/\l.length<=64/\uu l:=by
 unfold bY at h
 split at h
 ·rename_i h1
  split at h
  ·rename_i h2; exact ⟨h1.1,h1.2,h2⟩
  ·cases h
 ·cases h
def jF (d:Int):List (List Int)->Int
 | []=>0
 | l :: r=>if bY l=0 then (if (l.length:Int)=d then jF d r else 10) else bY l
theorem Fj {k:Nat} (hk:k<ll.length) (h:bY ll[k]≠0):jF d (ll.drop k)=bY ll[k]:=by
 rw [List.drop_eq_getElem_cons hk,jF,if_neg h]
theorem Fl {k:Nat} (hk:k<ll.length) (h:bY ll[k]=0) (h2:(ll[k].length:Int)≠d):jF d (ll.drop k)=10:=by
 rw [List.drop_eq_getElem_cons hk,jF,if_pos h,if_neg h2]
theorem Cj {k:Nat} (hk:k<ll.length) (h:bY ll[k]=0) (h2:(ll[k].length:Int)=d):jF d (ll.drop k)=jF d (ll.drop (k+1)):=by
 rw [List.drop_eq_getElem_cons hk,jF,if_pos h,if_pos h2]
theorem Fm {k:Nat} (hk:ll.length<=k):jF d (ll.drop k)=0:=by
 rw [List.drop_of_length_le hk]; rfl
theorem Ck {d:Int}:∀ {ll:List (List Int)},jF d ll=0->∀ l∈ll,bY l=0/\(l.length:Int)=d
 | [],_=>by simp
 | l :: r,h=>by
  rw [jF] at h
  split at h
  ·rename_i h1
   split at h
   ·rename_i h2
    intro x hx
    rcases List.mem_cons.1 hx with rfl | hx
    ·exact ⟨h1,h2⟩
    ·exact Ck h x hx
   ·cases h
  ·rename_i h1; exact absurd h h1
def df:List (List Int)->Int
 | []=>0
 | l :: r=>if bY l=0 then df r else bY l
def pU (n:Nat):List (List Int)->Int
 | []=>0
 | l :: r=>if l.length=n then pU n r else 10
def xF (ll:List (List Int)):Int:=if df ll=0 then pU (ll.headD []).length ll else df ll
theorem wx {k:Nat} (hk:k<ll.length) (h:bY ll[k]≠0):df (ll.drop k)=bY ll[k]:=by
 rw [List.drop_eq_getElem_cons hk,df,if_neg h]
theorem sW {k:Nat} (hk:k<ll.length) (h:bY ll[k]=0):df (ll.drop k)=df (ll.drop (k+1)):=by
 rw [List.drop_eq_getElem_cons hk,df,if_pos h]
theorem Nv {k:Nat} (hk:ll.length<=k):df (ll.drop k)=0:=by
 rw [List.drop_of_length_le hk]; rfl
theorem Nw {k:Nat} (hk:k<ll.length) (h:ll[k].length≠n):pU n (ll.drop k)=10:=by
 rw [List.drop_eq_getElem_cons hk,pU,if_neg h]
theorem Ju {k:Nat} (hk:k<ll.length) (h:ll[k].length=n):pU n (ll.drop k)=pU n (ll.drop (k+1)):=by
 rw [List.drop_eq_getElem_cons hk,pU,if_pos h]
theorem Nx {k:Nat} (hk:ll.length<=k):pU n (ll.drop k)=0:=by
 rw [List.drop_of_length_le hk]; rfl
theorem Ny (h:df ll≠0):xF ll=df ll:=by unfold xF; rw [if_neg h]
theorem PN (h:df ll=0):xF ll=pU (ll.headD []).length ll:=by unfold xF; rw [if_pos h]
def ah (p:List Nat):List Int:=p.map fun (x:Nat)=>(x:Int)
def kP (p:List Nat):Prop:=(∀ x∈p,x<p.length)/\p.Nodup
instance (p:List Nat):Decidable (kP p):=inferInstanceAs (Decidable (_/\_))
theorem aB (p:List Nat):(ah p).length=p.length:=by simp [ah]
theorem ql (p:List Nat) (i:Nat) (h:i<(ah p).length):(ah p)[i]=((p[i]'(by rw [<- aB]; exact h):Nat):Int):=by simp [ah]
theorem mf {l:List Int} (h:uu l):∃ p,l=ah p/\kP p:=by
 refine ⟨l.map Int.toNat,?_,?_,?_⟩
 ·unfold ah; rw [List.map_map]
  conv=>lhs; rw [<- List.map_id l]
  exact List.map_congr_left fun x hx=>by have:=(h.1 x hx).1; simp; omega
 ·intro x hx
  obtain ⟨y,hy,rfl⟩:=List.mem_map.1 hx;have:=h.1 y hy; simp; omega
 ·rw [List.nodup_iff_pairwise_ne,List.pairwise_map]
  refine (List.nodup_iff_pairwise_ne.1 h.2).imp_of_mem fun {a b} ha hb hne e=>hne ?_;have:=(h.1 a ha).1; have:=(h.1 b hb).1; omega
theorem uw {p:List Nat} (h:kP p):uu (ah p):=by
 refine ⟨fun x hx=>?_,?_⟩
 ·obtain ⟨y,hy,rfl⟩:=List.mem_map.1 hx
  have:=h.1 y hy; rw [aB]; omega
 ·unfold ah; rw [List.nodup_iff_pairwise_ne,List.pairwise_map]
  exact (List.nodup_iff_pairwise_ne.1 h.2).imp fun hne e=>hne (by omega)
theorem mg {p q:List Nat} (h:ah p=ah q):p=q:=by
 unfold ah at h
 exact List.map_inj_right (f:=fun x:Nat=>(x:Int)) (by intro x y e; exact Int.ofNat.inj e) |>.1 h
theorem yT {p:List Nat} (h:kP p) {i:Nat} (hi:i<p.length):p[i]<p.length:=h.1 _ (List.getElem_mem hi)
def bs (n:Nat):List Nat:=List.range n
def aq (a b:List Nat):List Nat:=a.map fun x=>b.getD x 0
def bf (a:List Nat):List Nat:=(List.range a.length).map fun j=>a.idxOf j
theorem fH (n:Nat):(bs n).length=n:=by simp [bs]
theorem cW (a b:List Nat):(aq a b).length=a.length:=by simp [aq]
theorem dN (a:List Nat):(bf a).length=a.length:=by simp [bf]
theorem wy (n i:Nat) (h:i<(bs n).length):(bs n)[i]=i:=by simp [bs]
theorem wz (a b:List Nat) (i:Nat) (h:i<(aq a b).length):(aq a b)[i]=b.getD (a[i]'(by rw [<- cW a b]; exact h)) 0:=by simp [aq]
theorem rM (a:List Nat) (i:Nat) (h:i<(bf a).length):(bf a)[i]=a.idxOf i:=by simp [bf]
theorem Cn (n:Nat):kP (bs n):=⟨by simp [bs],List.nodup_range⟩
theorem n5 {a:List Nat} (h:kP a) {k:Nat} (hk:k<a.length):a.idxOf a[k]=k:=by
 exact h.2.idxOf_getElem k hk
theorem ux {a:List Nat} (h:kP a) (hj:j<a.length):j∈a:=by
 refine Decidable.byContradiction fun hn=>?_
 have hs:(j :: a) ⊆ List.range a.length:=fun x hx=>by
  rcases List.mem_cons.1 hx with rfl | hx
  ·simpa using hj
  ·simpa using h.1 x hx
 have:=List.Nodup.length_le_of_subset (List.nodup_cons.2 ⟨hn,h.2⟩) hs;simp at this;omega
theorem DE {a:List Nat} (h:kP a) (hj:j<a.length):a.idxOf j<a.length:=List.idxOf_lt_length_of_mem (ux h hj)
theorem Fo {a:List Nat} (h:kP a) (hj:j<a.length):a[a.idxOf j]'(DE h hj)=j:=List.getElem_idxOf (DE h hj)
theorem Co {a:List Nat} (h:kP a):kP (bf a):=by
 refine ⟨fun x hx=>?_,?_⟩
 ·obtain ⟨j,hj,rfl⟩:=List.mem_map.1 hx
  rw [dN]; exact DE h (by simpa using hj)
 ·unfold bf
  rw [List.nodup_iff_pairwise_ne,List.pairwise_map];refine (List.nodup_iff_pairwise_ne.1 List.nodup_range).imp_of_mem fun {x y} hx hy hne e=>hne ?_;have h1:=Fo h (j:=x) (by simpa using hx);have h2:=Fo h (j:=y) (by simpa using hy);simp only [e] at h1;exact h1.symm.trans h2
theorem getD_lt {b:List Nat} {x:Nat} (h:x<b.length):b.getD x 0=b[x]:=by
 rw [List.getD_eq_getElem?_getD,List.getElem?_eq_getElem h]; rfl
theorem Cp {a b:List Nat} (ha:kP a) (hb:kP b) (hl:a.length=b.length):kP (aq a b):=by
 refine ⟨fun x hx=>?_,?_⟩
 ·obtain ⟨j,hj,rfl⟩:=List.mem_map.1 hx
  have:=ha.1 j hj;rw [cW,getD_lt (by omega),hl];exact yT hb (by omega)
 ·unfold aq
  rw [List.nodup_iff_pairwise_ne,List.pairwise_map];refine (List.nodup_iff_pairwise_ne.1 ha.2).imp_of_mem fun {x y} hx hy hne e=>hne ?_;have h1:=ha.1 x hx; have h2:=ha.1 y hy;rw [getD_lt (by omega),getD_lt (by omega)] at e;have i1:=n5 hb (k:=x) (by omega);have i2:=n5 hb (k:=y) (by omega);rw [e] at i1;exact i1.symm.trans i2
end Go.Proofs.Ma
namespace Go.Proofs.Rg
section
open Go Go.RowKit
def jm (B:Nat) (w:World) (v:Value) (us:List Value):Prop :=
 ∃ a cap,v=.slice a us.length cap/\us.length<=cap/\cap<=maxLen/\us.length<=B /\
  (0<us.length->∃ b o,a=some ⟨b,o,none⟩/\b<w.heap.size/\∀ i (h:i<us.length),w.cell? ⟨b,o+i,none⟩=some us[i])
def oY:Nat:=1000000000
def cH (w:World) (v:Value) (us:List Value):Prop:=jm oY w v us
def eV (B:Nat) (w:World) (v:Value) (l:List Int):Prop:=jm B w v (l.map (Value.int .i64))
def Ints (w:World) (v:Value) (l:List Int):Prop:=cH w v (l.map (Value.int .i64))
def fI (B:Nat) (w:World) (v:Value) (ll:List (List Int)):Prop :=
 ∃ us,jm B w v us/\us.length=ll.length/\∀ i (h:i<us.length) (h2:i<ll.length),eV B w us[i] ll[i]
def Rows (w:World) (v:Value) (ll:List (List Int)):Prop:=fI oY w v ll
theorem jm.shape {w:World} {us:List Value} (h:jm B w v us) :
  ∃ a cap,v=.slice a us.length cap/\us.length<=cap/\us.length<=B/\cap<=maxLen /\
  (0<us.length->∃ b o,a=some ⟨b,o,none⟩/\b<w.heap.size/\∀ i (h:i<us.length),w.cell? ⟨b,o+i,none⟩=some us[i]):=by
 obtain ⟨a,cap,h1,h2,h3,h4,h5⟩:=h;exact ⟨a,cap,h1,h2,h4,h3,h5⟩
theorem cH.shape {w:World} {v:Value} {us:List Value} (h:cH w v us) :
  ∃ a cap,v=.slice a us.length cap/\us.length<=cap/\us.length<=1000000000/\cap<=maxLen /\
  (0<us.length->∃ b o,a=some ⟨b,o,none⟩/\b<w.heap.size/\∀ i (h:i<us.length),w.cell? ⟨b,o+i,none⟩=some us[i]):=jm.shape h
theorem eV.shape {w:World} {l:List Int} (h:eV B w v l) :
  ∃ a cap,v=.slice a l.length cap/\l.length<=cap/\l.length<=B/\cap<=maxLen /\
  (0<l.length->∃ b o,a=some ⟨b,o,none⟩/\b<w.heap.size/\∀ i (h:i<l.length),w.cell? ⟨b,o+i,none⟩=some (.int .i64 l[i])):=by
 obtain ⟨a,cap,h1,h2,h3,h4,h5⟩:=h;simp only [List.length_map] at h1 h2 h4 h5;refine ⟨a,cap,h1,h2,h4,h3,fun h0=>?_⟩;obtain ⟨b,o,e1,e2,e3⟩:=h5 h0;exact ⟨b,o,e1,e2,fun i hi=>(e3 i hi).trans (by simp)⟩
theorem Ints.shape {w:World} {v:Value} {l:List Int} (h:Ints w v l) :
  ∃ a cap,v=.slice a l.length cap/\l.length<=cap/\l.length<=1000000000/\cap<=maxLen /\
  (0<l.length->∃ b o,a=some ⟨b,o,none⟩/\b<w.heap.size/\∀ i (h:i<l.length),w.cell? ⟨b,o+i,none⟩=some (.int .i64 l[i])):=eV.shape h
theorem fI.shape {w:World} (h:fI B w v ll) :
  ∃ a cap,v=.slice a ll.length cap/\ll.length<=cap/\ll.length<=B/\cap<=maxLen /\
  (0<ll.length->∃ b o,a=some ⟨b,o,none⟩/\b<w.heap.size/\∀ i (h:i<ll.length),∃ u,w.cell? ⟨b,o+i,none⟩=some u/\eV B w u ll[i]):=by
 obtain ⟨us,⟨a,cap,h1,h2,h3,h4,h5⟩,hl,h6⟩:=h;rw [hl] at h1 h2 h4;refine ⟨a,cap,h1,h2,h4,h3,fun h0=>?_⟩;obtain ⟨b,o,e1,e2,e3⟩:=h5 (by omega);exact ⟨b,o,e1,e2,fun i hi=>⟨us[i],e3 i (by omega),h6 i (by omega) hi⟩⟩
theorem Rows.shape {w:World} {v:Value} {ll:List (List Int)} (h:Rows w v ll) :
  ∃ a cap,v=.slice a ll.length cap/\ll.length<=cap/\ll.length<=1000000000/\cap<=maxLen /\
  (0<ll.length->∃ b o,a=some ⟨b,o,none⟩/\b<w.heap.size/\∀ i (h:i<ll.length),∃ u,w.cell? ⟨b,o+i,none⟩=some u/\Ints w u ll[i]):=fI.shape h
theorem jm.p {w:World} {us:List Value} (h:jm B w v us) (hb:BE w w'):jm B w' v us:=by
 obtain ⟨a,cap,h1,h2,h3,h4,h5⟩:=h;refine ⟨a,cap,h1,h2,h3,h4,fun h0=>?_⟩;obtain ⟨b,o,e1,e2,e3⟩:=h5 h0;exact ⟨b,o,e1,Nat.lt_of_lt_of_le e2 hb.size,fun i hi=>(hb.cell (p:=⟨b,o+i,none⟩) e2).trans (e3 i hi)⟩
theorem cH.p {w w':World} {v:Value} {us:List Value} (h:cH w v us) (hb:BE w w'):cH w' v us:=jm.p h hb
theorem eV.p {B:Nat} {w w':World} {v:Value} {l:List Int} (h:eV B w v l) (hb:BE w w'):eV B w' v l:=jm.p h hb
theorem Ints.p {w w':World} {v:Value} {l:List Int} (h:Ints w v l) (hb:BE w w'):Ints w' v l:=jm.p h hb
theorem fI.p {B:Nat} {w w':World} {v:Value} {ll:List (List Int)} (h:fI B w v ll) (hb:BE w w'):fI B w' v ll:=by
 obtain ⟨us,h1,h2,h3⟩:=h;exact ⟨us,h1.p hb,h2,fun i a b=>(h3 i a b).p hb⟩
theorem Rows.p {w w':World} {v:Value} {ll:List (List Int)} (h:Rows w v ll) (hb:BE w w'):Rows w' v ll:=fI.p h hb
theorem eV.small {w:World} {l:List Int} (h:eV B w v l) (hl:l.length<=1000000000):Ints w v l:=by
 obtain ⟨a,cap,h1,h2,h3,h4,h5⟩:=h;exact ⟨a,cap,h1,h2,h3,by rw [List.length_map]; exact hl,h5⟩
theorem fI.small {B:Nat} {w:World} {v:Value} {ll:List (List Int)} (h:fI B w v ll) (hl:ll.length<=1000000000) (hr:∀ l∈ll,l.length<=1000000000):Rows w v ll:=by
 obtain ⟨us,⟨a,cap,h1,h2,h3,h4,h5⟩,hu,h6⟩:=h;exact ⟨us,⟨a,cap,h1,h2,h3,by rw [hu]; exact hl,h5⟩,hu,fun i a b=>(h6 i a b).small (hr _ (List.getElem_mem b))⟩
theorem cH.mk {w:World} {b o cap:Nat} {us:List Value} (hb:b<w.heap.size) (hc:us.length<=cap) (hm:cap<=maxLen) (hl:us.length<=1000000000)
  (h:∀ i (h:i<us.length),w.cell? ⟨b,o+i,none⟩=some us[i]):cH w (.slice (some ⟨b,o,none⟩) us.length cap) us :=
 ⟨_,cap,rfl,hc,hm,hl,fun _=>⟨b,o,rfl,hb,h⟩⟩
theorem Ints.mk {w:World} {b o cap:Nat} {l:List Int} (hn:n=l.length) (hb:b<w.heap.size) (hc:l.length<=cap) (hm:cap<=maxLen) (hl:l.length<=1000000000)
  (h:∀ i (h:i<l.length),w.cell? ⟨b,o+i,none⟩=some (.int .i64 l[i])):Ints w (.slice (some ⟨b,o,none⟩) n cap) l:=by
 subst hn;refine ⟨some ⟨b,o,none⟩,cap,by simp,by simpa using hc,hm,by rw [List.length_map]; exact hl,fun _=>⟨b,o,rfl,hb,fun i hi=>?_⟩⟩
 have uy:i<l.length:=by simpa using hi
 rw [h i uy]; simp
theorem Ints.nil (w:World) (a:Option Addr) (cap:Nat) (hc:cap<=maxLen):Ints w (.slice a 0 cap) [] :=
 ⟨a,cap,rfl,by simp,hc,by simp,fun h=>by simp at h⟩
theorem Rows.nil (w:World) (a:Option Addr) (cap:Nat) (hc:cap<=maxLen):Rows w (.slice a 0 cap) [] :=
 ⟨[],⟨a,cap,rfl,by simp,hc,by simp,fun h=>by simp at h⟩,rfl,fun i h=>by simp at h⟩
theorem cH.nil (w:World) (a:Option Addr) (cap:Nat) (hc:cap<=maxLen):cH w (.slice a 0 cap) [] :=
 ⟨a,cap,rfl,by simp,hc,by simp,fun h=>by simp at h⟩
theorem cH.cV {w:World} {e:TypeId} (h:w.ownsRow base e 1 v n xs) (hl:n<=1000000000):cH w v xs:=by
 obtain ⟨h1,h2⟩:=h
 rcases h2 with ⟨rfl,rfl⟩ | ⟨g,cap,cur,rfl,hg,hc,h3,h4,h5,h6⟩
 ·obtain rfl:xs=[]:=by cases xs; rfl; simp at h1
  exact cH.nil w none 0 (by simp)
 ·have hn:xs.length=n:=by omega
  subst hn;refine ⟨_,cap,rfl,h3,h4,hl,fun h0=>⟨g,0,rfl,(Array.getElem?_eq_some_iff.1 hc).1,fun i hi=>?_⟩⟩;unfold World.cell?;simp only [hc]
  have h7:cur.toList[i]?=xs[i]?:=by
   rw [<- h6,List.getElem?_take_of_lt (by omega)]
  rw [Nat.zero_add,<- Array.getElem?_toList,h7,List.getElem?_eq_getElem hi]; rfl
theorem Ints.cV {w:World} {base:Nat} {e:TypeId} {v:Value} {n:Nat} {l:List Int} (h:w.ownsRow base e 1 v n (l.map (Value.int .i64))) (hl:n<=1000000000):Ints w v l:=cH.cV h hl
theorem Rows.cV {w:World} {base:Nat} {e:TypeId} {v:Value} {n:Nat} {us:List Value} {ll:List (List Int)} (h:w.ownsRow base e 1 v n us) (hl:n<=1000000000) (hu:us.length=ll.length)
  (hr:∀ i (h:i<us.length) (h2:i<ll.length),Ints w us[i] ll[i]):Rows w v ll:=⟨us,cH.cV h hl,hu,hr⟩
theorem Ints.iD {w:World} {b:Nat} {t:TypeId} {f:Nat->Value} {l:List Int} (h:w.rowIs b t n f) (hn:n=l.length) (hl:n<=1000000000)
  (hf:∀ i (h:i<l.length),f i=.int .i64 l[i]):Ints w (.slice (some ⟨b,0,none⟩) n n) l:=by
 refine Ints.mk hn h.lt (by omega) (by unfold maxLen; omega) (by omega) (fun i hi=>?_);rw [Nat.zero_add,h.cell (by omega),hf i hi]
theorem sX {w1:World} (hb:BE W w1):(∀ b o,b<W.heap.size->w1.cell? ⟨b,o,none⟩=W.cell? ⟨b,o,none⟩)/\(∀ b o,b<W.heap.size->w1.frozen? ⟨b,o,none⟩=W.frozen? ⟨b,o,none⟩) :=
 ⟨fun b o h=>hb.cell (p:=⟨b,o,none⟩) h,fun b o h=>hb.frozen (p:=⟨b,o,none⟩) h⟩
theorem acc {w:World} (hb:BE w0 w) (h:BE w w'):BE w0 w':=hb.trans (h.mono hb.size)
theorem iX {k:IntKind} {a b:Int} (h:a=b):Ending.returned (.int k a)=.returned (.int k b):=by rw [h]
theorem cN {a b:Bool} (h:a=b):Ending.returned (.bool a)=.returned (.bool b):=by rw [h]
theorem eV.len {w:World} {l:List Int} (h:eV B w v l):∃ n a cap,l.length=n/\v=.slice a n cap/\n<=B:=by
 obtain ⟨a,cap,h1,h2,h3,h4,h5⟩:=eV.shape h;exact ⟨_,a,cap,rfl,h1,h3⟩
theorem Ints.len {w:World} {v:Value} {l:List Int} (h:Ints w v l):∃ n a cap,l.length=n/\v=.slice a n cap/\n<=1000000000:=eV.len h
def NP (w:World) (v:Value) (a:List Nat):Prop:=Ints w v (Ma.ah a)
theorem NP.shape {w:World} {v:Value} {l:List Nat} (h:NP w v l) :
  ∃ a cap,v=.slice a l.length cap/\l.length<=cap/\l.length<=1000000000/\cap<=maxLen /\
  (0<l.length->∃ b o,a=some ⟨b,o,none⟩/\b<w.heap.size/\∀ i (h:i<l.length),w.cell? ⟨b,o+i,none⟩=some (.int .i64 ((l[i]:Nat):Int))):=by
 obtain ⟨a,cap,h1,h2,h3,h4,h5⟩:=Ints.shape h;rw [Ma.aB] at h1 h2 h3;refine ⟨a,cap,h1,h2,h3,h4,fun h0=>?_⟩;obtain ⟨b,o,e1,e2,e3⟩:=h5 (by rw [Ma.aB]; exact h0);exact ⟨b,o,e1,e2,fun i hi=>(e3 i (by rw [Ma.aB]; exact hi)).trans (by rw [Ma.ql])⟩
theorem NP.p {w w':World} {v:Value} {l:List Nat} (h:NP w v l) (hb:BE w w'):NP w' v l:=jm.p h hb
theorem NP.iD {w:World} {b:Nat} {t:TypeId} {n:Nat} {f:Nat->Value} {l:List Nat} (h:w.rowIs b t n f) (hn:n=l.length) (hl:n<=1000000000)
  (hf:∀ i (h:i<l.length),f i=.int .i64 ((l[i]:Nat):Int)):NP w (.slice (some ⟨b,0,none⟩) n n) l :=
 Ints.iD h (by rw [Ma.aB]; exact hn) hl (fun i hi=>by rw [hf i (by rw [<- Ma.aB]; exact hi),Ma.ql])
theorem NP.cV {w:World} {base:Nat} {e:TypeId} {v:Value} {n:Nat} {l:List Nat} (h:w.ownsRow base e 1 v n (l.map fun (x:Nat)=>Value.int .i64 (x:Int))) (hl:n<=1000000000):NP w v l :=
 Ints.cV (base:=base) (e:=e) (n:=n) (by unfold Ma.ah; rw [List.map_map]; exact h) hl
theorem aW (w:World) (cs:Array Value) (t:TypeId) (j:Nat):(w.alloc (.cells cs t)).cell? ⟨w.heap.size,j,none⟩=cs[j]?:=by
 unfold World.cell? World.alloc;simp
theorem Rows.one {w:World} {l:List Int} (t:TypeId) (h:Ints w v l):Rows (w.alloc (.cells #[v] t)) (.slice (some ⟨w.heap.size,0,none⟩) 1 1) [l]:=by
 refine ⟨[v],⟨_,1,rfl,by simp,by unfold maxLen; simp,by simp [oY],fun _=>⟨w.heap.size,0,rfl,by simp,fun i hi=>?_⟩⟩,rfl,fun i h1 h2=>?_⟩
 ·have uy:i=0:=by simpa using hi
  subst uy;rw [aW]; rfl
 ·have uy:i=0:=by simpa using h1
  subst uy;exact Ints.p h ((Below.refl _ _).alloc (Nat.le_refl _) _)
theorem Rows.two {w:World} {v':Value} {l l':List Int} (t:TypeId) (h:Ints w v l) (h':Ints w v' l'):Rows (w.alloc (.cells #[v,v'] t)) (.slice (some ⟨w.heap.size,0,none⟩) 2 2) [l,l']:=by
 refine ⟨[v,v'],⟨_,2,rfl,by simp,by unfold maxLen; simp,by simp [oY],fun _=>⟨w.heap.size,0,rfl,by simp,fun i hi=>?_⟩⟩,rfl,fun i h1 h2=>?_⟩
 ·have uy:i=0∨i=1:=by simp at hi; omega
  rcases uy with rfl | rfl
  all_goals
   rw [aW]; rfl
 ·have uy:i=0∨i=1:=by simp at h1; omega
  rcases uy with rfl | rfl
  ·exact Ints.p h ((Below.refl _ _).alloc (Nat.le_refl _) _)
  ·exact Ints.p h' ((Below.refl _ _).alloc (Nat.le_refl _) _)
def eW (B:Nat) (v:Value):Prop:=∀ a n c,v=.slice (some a) n c->B<=a.block
def oZ (w w':World) (v:Value) (a:List Nat):Prop:=NP w' v a/\eW w.heap.size v
theorem eW.mono {B':Nat} (h:eW B v) (hb:B'<=B):eW B' v:=fun a n c e=>Nat.le_trans hb (h a n c e)
theorem eW.mk (B o n c:Nat):eW B (.slice (some ⟨B,o,none⟩) n c):=fun a n c e=>by simp at e; obtain ⟨⟨rfl,_⟩,_⟩:=e; exact Nat.le_refl _
theorem eW.cV {w:World} {e:TypeId} {size:Nat} (h:w.ownsRow base e size v n xs):eW base v:=fun a m c ev=>by
 subst ev;exact (h.lt a.block rfl).1
def Nz (u:Value) (k:Option Nat):Prop:=∀ a n c,u=.slice (some a) n c->0<n->some a.block≠k
theorem NP.lt {w:World} {l:List Nat} (h:NP w v l) {a:Addr} {c:Nat} (e:v=.slice (some a) n c) (hn:0<n):a.block<w.heap.size:=by
 obtain ⟨a',cap,h1,_,_,_,h5⟩:=h.shape;rw [e] at h1;simp at h1;obtain ⟨rfl,rfl,rfl⟩:=h1;obtain ⟨b,o,e1,e2,_⟩:=h5 hn;simp at e1; subst e1; exact e2
theorem NP.grown {w:World} {l:List Nat} {k:Option Nat} (h:NP w v l) (ho:Nz v k) (hg:w.grownBy w' k):NP w' v l:=by
 have hh:=h;obtain ⟨a,cap,h1,h2,h3,h4,h5⟩:=h;refine ⟨a,cap,h1,h2,h3,h4,fun h0=>?_⟩;obtain ⟨b,o,e1,e2,e3⟩:=h5 h0;subst e1;have hne:=ho _ _ _ h1 (by simpa using h0);exact ⟨b,o,rfl,Nat.lt_of_lt_of_le e2 hg.size,fun i hi=>hg.cell (e3 i hi) hne⟩
theorem Nz.next {w:World} {l:List Nat} {k k':Option Nat} {g:Nat} (h:Nz v k) (hv:NP w v l) (hk:k'=k∨k'=some g) (hg:w.heap.size<=g):Nz v k':=fun a n c e hn=>by
 rcases hk with rfl | rfl
 ·exact h a n c e hn
 ·have:=hv.lt e hn
  simp; omega
theorem Nz.o5 {w:World} {l:List Nat} {k:Option Nat} (h:NP w v l) (hw:w.heap.size<=B) (hk:∀ b,k=some b->B<=b):Nz v k:=fun a n c e hn he=>by
 have h1:=h.lt e hn;have h2:=hk _ he.symm;omega

structure se (P:Program) (t e:TypeId) (z:Value) (bytes:Nat):Prop where
 ty:P.underlying t=some (.slice e)
 info:(P.info? e).map (fun i=>(i.zero,i.size,i.bytes))=some (some z,1,bytes)
 zc:z.cells.size=1
 small:bytes<=64
theorem Mq {P:Program} {wr:World} {ops:Array Oper} {rest:List Oper} {o:Oper} {a:Act} {Q:Exit->Act->World->Prop} (eH:o.guard=none) (s x:Operand) (t:TypeId)
  (ho:o.op=.call { callee:=.builtin .append,args:=#[s,x],argTypes:=#[t,t] })
  {e e':TypeId} (T:se P t e z bytes) (gH:wr.ownsRow W0.heap.size e 1 v n xs) (hb:BE W0 wr)
  (u:Value) (hu:u.oneCell'=true) (hs:a.eval s=v) (hx:a.eval x=.slice (some ⟨wr.heap.size,0,none⟩) 1 1) (hn:n<1000000000)
  (h:∀ v' w',w'.ownsRow W0.heap.size e 1 v' (n+1) (xs++[u])->BE W0 w'->(wr.alloc (.cells #[u] e')).grownBy w' v.ownBlock->(v'.ownBlock=v.ownBlock∨v'.ownBlock=some (wr.heap.size+1))->(∃ ad cap,v'=.slice ad (n+1) cap)->wpList P ops Q rest (a.put o.dst v') w') :
  wpList P ops Q (o :: rest) a (wr.alloc (.cells #[u] e')):=by
 obtain ⟨i0,hi,dw,bJ,dZ⟩:=info_parts T.info;have cR:=hb.size;refine wpList_append_own_at (wr.alloc (.cells #[u] e')) eH s x t ho W0.heap.size e i0 z 1 bytes T.ty hi dw bJ dZ T.zc (by decide) v n xs hs (gH.alloc _) ⟨wr.heap.size,0,none⟩ 1 1 [u] hx rfl (cell_one_new _ _ _) (by simpa using hu) (by unfold maxLen; omega) ?_ (by simp; omega) ?_
 ·have:(n+1)*bytes<=1000000000*64:=Nat.mul_le_mul (by omega) T.small
  omega
 ·intro v' w' h1 h2 h3 h4
  refine h v' w' h1 ((hb.alloc cR _).grown h2 (by simp; omega) (fun k hk=>(gH.lt k hk).1)) h2 (by simpa using h4) ?_;obtain ⟨_,hv⟩:=h1
  rcases hv with ⟨hv,sY⟩ | ⟨g,cap,cur,hv,_⟩
  ·omega
  ·exact ⟨_,_,hv⟩
theorem drewN {B:Nat} {a w:World} (h:Below B a w) (k:Nat):Below B a (w.drewN k):=⟨h.os,h.tape,h.output,h.size,h.block⟩
theorem bP {w:World} {e:TypeId} {size:Nat} (h:w.ownsRow base e size v n xs) (hb:BE w w'):w'.ownsRow base e size v n xs :=
 h.kept (row:=none) ⟨hb.os,hb.tape,hb.output,hb.size,fun i hi _=>hb.block i hi⟩ (by cases v.ownBlock <;> simp)
def jn (v1 v2:Value):Prop:=∀ b,v1.ownBlock=some b->v2.ownBlock≠some b
theorem jn.nil (v:Value):jn (.slice none 0 0) v:=fun b h=>by simp [Value.ownBlock] at h
theorem jn.symm (h:jn v1 v2):jn v2 v1:=fun b h1 h2=>h b h2 h1
theorem jn.grow {Xa:Value} {w:World} {e:TypeId} {size g:Nat} (h:jn v1 v2) (ho:w.ownsRow base e size v2 n xs) (hv:Xa.ownBlock=v1.ownBlock∨Xa.ownBlock=some g) (hg:w.heap.size<=g):jn Xa v2:=fun b h1 h2=>by
 rcases hv with hv | hv
 ·exact h b (hv▸h1) h2
 ·have:=(ho.lt b h2).2
  rw [hv] at h1; simp at h1; omega
theorem jn.keep {w:World} {e:TypeId} {size:Nat} (h:jn v1 v2) (ho:w.ownsRow base e size v2 n xs) (hg:w.grownBy w' v1.ownBlock):w'.ownsRow base e size v2 n xs:=by
 refine ho.kept hg ?_
 cases hv:v2.ownBlock with
 | none=>exact .inl rfl
 | some b=>exact .inr (fun e=>h b e.symm hv)
def jq (w:World) (v:Value) (gs:List (List Nat)):Prop:=Rows w v (gs.map Ma.ah)
theorem jq.p {w w':World} {v:Value} {gs:List (List Nat)} (h:jq w v gs) (hb:BE w w'):jq w' v gs:=Rows.p h hb
theorem jq.shape {w:World} {v:Value} {gs:List (List Nat)} (h:jq w v gs) :
  ∃ a cap,v=.slice a gs.length cap/\gs.length<=cap/\gs.length<=1000000000/\cap<=maxLen /\
  (0<gs.length->∃ b o,a=some ⟨b,o,none⟩/\b<w.heap.size/\∀ i (h:i<gs.length),∃ u,w.cell? ⟨b,o+i,none⟩=some u/\NP w u gs[i]):=by
 obtain ⟨a,cap,h1,h2,h3,h4,h5⟩:=Rows.shape h;rw [List.length_map] at h1 h2 h3;refine ⟨a,cap,h1,h2,h3,h4,fun h0=>?_⟩;obtain ⟨b,o,e1,e2,e3⟩:=h5 (by simpa using h0);refine ⟨b,o,e1,e2,fun i hi=>?_⟩;obtain ⟨u,q1,q2⟩:=e3 i (by simpa using hi);exact ⟨u,q1,by rw [List.getElem_map] at q2; exact q2⟩
theorem NP.len {w:World} {v:Value} {l:List Nat} (h:NP w v l):∃ n a cap,l.length=n/\v=.slice a n cap/\n<=1000000000:=by
 obtain ⟨n,a,cap,h1,h2,h3⟩:=Ints.len h;exact ⟨n,a,cap,by rw [<- h1,Ma.aB],h2,h3⟩
theorem qm {P:Program} {ops:Array Oper} {Q:Exit->Act->World->Prop} {i:Nat} {o:Oper} {K:Act->World->Prop} {a:Act} {w:World} (d:Option Tmp) (hi:ops[i]?=some o) (hd:o.dst=d) (hw:Region.wanted o (yielded ops a.tmps)=true)
  (hr:(execOp a.eval o).run P w=.ok (.value v) w') (h:K (a.put d v) w'):wpOp P ops Q i K a w:=by
 subst hd;unfold wpOp;simp only [hi,hw,if_true]
 left
 unfold Oper.wp;rw [hr];exact h
theorem y9 {P:Program} {ops:Array Oper} {Q:Exit->Act->World->Prop} {i:Nat} {o:Oper} {K:Act->World->Prop} {a:Act} {w:World} (d:Option Tmp) (hi:ops[i]?=some o) (hd:o.dst=d) (hw:Region.wanted o (yielded ops a.tmps)=true)
  (hr:(execOp a.eval o).run P w=.ok .skip w') (h:K (a.put d undef) w'):wpOp P ops Q i K a w:=by
 subst hd;unfold wpOp;simp only [hi,hw,if_true]
 left
 unfold Oper.wp;rw [hr];exact h
theorem aF {P:Program} {o:Oper} {a:Act} {w:World} (t:TypeId) (n:Nat) (x:Operand) (ho:o.op=.buildSlice t n #[(0,x)]) (xv:Value) (hx:a.eval x=xv)
  (hr:(Instr.buildSlice t n #[(0,xv)]).run P w=.ok v w'):(execOp a.eval o).run P w=.ok (.value v) w':=by
 unfold execOp;simp [ho,hx,hr,Result.andThen]
theorem cD {P:Program} {o:Oper} {a:Act} {w:World} (x:Operand) (ho:o.op=.assign x) (hx:a.eval x=v):(execOp a.eval o).run P w=.ok (.value v) w:=by
 unfold execOp;simp [ho,hx]
theorem bQ {P:Program} {o:Oper} {a:Act} {w:World} (x:Operand) (ho:o.op=.move x) (hx:a.eval x=v):(execOp a.eval o).run P w=.ok (.value v) w:=by
 unfold execOp;simp [ho,hx]
theorem aY {P:Program} {o:Oper} {a:Act} {w:World} {cs:Array Value} (t:TypeId) (x:Operand) (ho:o.op=.box t x) (hx:a.eval x=.agg cs) :
  (execOp a.eval o).run P w=.ok (.value (.pointer (some ⟨w.heap.size,0,none⟩))) (w.alloc (.cells cs t)):=by
 unfold execOp;simp [ho,hx,Instr.box,newVar,newRow,Value.cells,Result.andThen]
theorem cQ {w:World} {e:TypeId} {size:Nat} (h:w.ownsRow base e size v n xs):∃ a cap,v=.slice a n cap:=by
 obtain ⟨_,hv⟩:=h
 rcases hv with ⟨hv,sY⟩ | ⟨g,cap,cur,hv,_⟩
 ·exact ⟨none,0,by rw [hv,sY]⟩
 ·exact ⟨_,_,hv⟩
end
section
theorem _root_.b5 (v : Value) {P : Program} {o : Oper} {a : Act} {w : World} (x : Operand) (ho : o.op = .move x) (hx : a.eval x = v) : (execOp a.eval o).run P w = .ok (.value v) w := bQ (v := v) x ho hx
theorem _root_.b6 (v : Value) {P : Program} {o : Oper} {a : Act} {w : World} (x : Operand) (ho : o.op = .assign x) (hx : a.eval x = v) : (execOp a.eval o).run P w = .ok (.value v) w := cD (v := v) x ho hx
theorem _root_.c6 {P : Program} {ops : Array Oper} {Q : Exit -> Act -> World -> Prop} {a : Act} {w : World} {id : Nat} (h : wpList P ops Q ops.toList a w) : (Code.region id ops false).wp P Q a w := wp_region_list h
end
end Go.Proofs.Rg
theorem U {p : Prop} (h : p) : Go.RowKit.Hid p := h
namespace Go.Proofs.Jm
open Go Go.RowKit
open Go.ChangeMaps
structure KT (P:Program) (t k e v:TypeId) (z:Value):Prop where
 ht:P.underlying t=some (.map k v)
 hk:P.underlying k=some (.array 2 e)
 he:P.underlying e=some (.int .i64)
 hs:∀ w,(sizeOf e).run P w=.ok 1 w
 hz:∀ w,(zeroValue v).run P w=.ok z w
section
variable {P:Program} {t k e v:TypeId} {z:Value}
end
end Go.Proofs.Jm
namespace Go.Proofs.Rg
section
open Go Go.RowKit
theorem eK {P:Program} {o:Oper} {a:Act} {w:World} (t:TypeId) (x:Operand) (ho:o.op=.load t x) (ad:Addr) (hx:a.eval x=.pointer (some ad)) (hr:(loadVar t ad).run P w=.ok v w) :
  (execOp a.eval o).run P w=.ok (.value v) w:=by
 unfold execOp;simp only [ho,hx,Instr.loadAt,Instr.sureAddr,Sem.run_bind,Sem.run_pure,Result.andThen_ok,hr]
theorem wF {P:Program} {ops:Array Oper} {rest:List Oper} {o:Oper} {a:Act} {w:World} {Q:Exit->Act->World->Prop} (d:Option Tmp) (hg:o.guard=none) (hd:o.dst=d)
  (hr:(execOp a.eval o).run P w=.ok (.value v) w') (h:wpList P ops Q rest (a.put d v) w'):wpList P ops Q (o :: rest) a w:=by
 subst hd;refine wpList_plain hg fun K hK=>?_;unfold Oper.wp;rw [hr];exact hK _ _ h
theorem aG {P:Program} {ops:Array Oper} {rest:List Oper} {o:Oper} {a:Act} {w:World} {Q:Exit->Act->World->Prop} (d:Option Tmp) (hg:o.guard=none) (hd:o.dst=d)
  (hr:(execOp a.eval o).run P w=.ok .skip w') (h:wpList P ops Q rest (a.put d undef) w'):wpList P ops Q (o :: rest) a w:=by
 subst hd;refine wpList_plain hg fun K hK=>?_;unfold Oper.wp;rw [hr];exact hK _ _ h
end
section
open Go.RowKit
theorem _root_.d4 {P : Program} {ops : Array Oper} {rest : List Oper} {o : Oper} {a : Act} {w:World} {Q : Exit -> Act -> World -> Prop} (d : Nat)
    (hr : (execOp a.eval o).run P w = .ok (.value v) w') (h : wpList P ops Q rest (a.put (some d) v) w') (hg : o.guard = none := by exact rfl) (hd : o.dst = some d := by exact rfl) : wpList P ops Q (o :: rest) a w := wF (some d) hg hd hr h
theorem _root_.d5 {P : Program} {ops : Array Oper} {rest : List Oper} {o : Oper} {a : Act} {w : World} {Q : Exit -> Act -> World -> Prop} (d : Nat) (v : Value)
    (h : wpList P ops Q rest (a.put (some d) v) w) {x : Operand} (ho : o.op = .move x := by exact rfl) (hx : a.eval x = v := by exact rfl) (hg : o.guard = none := by exact rfl) (hd : o.dst = some d := by exact rfl) : wpList P ops Q (o :: rest) a w := wF (some d) hg hd (bQ (v := v) x ho hx) h
theorem _root_.d6 {P : Program} {ops : Array Oper} {rest : List Oper} {o : Oper} {a : Act} {w : World} {Q : Exit -> Act -> World -> Prop} (d : Nat) (v : Value)
    (h : wpList P ops Q rest (a.put (some d) v) w) {x : Operand} (ho : o.op = .assign x := by exact rfl) (hx : a.eval x = v := by exact rfl) (hg : o.guard = none := by exact rfl) (hd : o.dst = some d := by exact rfl) : wpList P ops Q (o :: rest) a w := wF (some d) hg hd (cD (v := v) x ho hx) h
end
section
open Go Go.RowKit
structure Kp (M:Nat->Prop) (w w':World):Prop where
 os:w'.os=w.os
 tape:w'.tape=w.tape
 output:w'.output=w.output
 size:w.heap.size<=w'.heap.size
 block:∀ k,k<w.heap.size->¬ M k->w'.heap[k]?=w.heap[k]?
theorem Kp.refl (M:Nat->Prop) (w:World):Kp M w w:=⟨rfl,rfl,rfl,Nat.le_refl _,fun _ _ _=>rfl⟩
theorem Kp.aD {w:World} (h:BE w w'):Kp M w w':=⟨h.os,h.tape,h.output,h.size,fun k hk _=>h.block k hk⟩
theorem Kp.cC {w:World} {row:Option Nat} (h:w.grownBy w' row) (hM:∀ k,row=some k->M k):Kp M w w' :=
 ⟨h.os,h.tape,h.output,h.size,fun k hk hn=>h.block k hk (fun e=>hn (hM k e.symm))⟩
theorem Kp.aR {w:World} {a:Addr} (hM:M a.block):Kp M w (w.setCell a v) :=
 ⟨rfl,rfl,rfl,by simp [World.setCell],fun k _ hn=>Below.heap_setCell _ _ _ _ (fun e=>hn (e▸hM))⟩
theorem Kp.trans {M M':Nat->Prop} {w w' w'':World} (h:Kp M w w') (h':Kp M' w' w'') (hM:∀ k,k<w.heap.size->M' k->M k):Kp M w w'' :=
 ⟨h'.os.trans h.os,h'.tape.trans h.tape,h'.output.trans h.output,Nat.le_trans h.size h'.size,
  fun k hk hn=>(h'.block k (Nat.lt_of_lt_of_le hk h.size) (fun e=>hn (hM k hk e))).trans (h.block k hk hn)⟩
theorem Kp.gS {M':Nat->Prop} {w:World} (h:Kp M w w') (hM:∀ k,M k->M' k):Kp M' w w':=⟨h.os,h.tape,h.output,h.size,fun k hk hn=>h.block k hk (fun e=>hn (hM k e))⟩
theorem Kp.p {w:World} (hb:BE w0 w) (h:Kp M w w') (hM:∀ k,M k->w0.heap.size<=k):BE w0 w' :=
 hb.trans ⟨h.os,h.tape,h.output,h.size,fun k hk=>h.block k (Nat.lt_of_lt_of_le hk hb.size) (fun e=>by have:=hM k e; omega)⟩
def cK (F:Nat->Prop) (w:World) (v:Value) (us:List Value):Prop :=
 ∃ a cap,v=.slice a us.length cap/\us.length<=cap/\cap<=maxLen/\us.length<=1000000000 /\
  (0<us.length->∃ b o,a=some ⟨b,o,none⟩/\b<w.heap.size/\F b/\∀ i (h:i<us.length),w.cell? ⟨b,o+i,none⟩=some us[i])
def FI (F:Nat->Prop) (w:World) (v:Value) (l:List Int):Prop:=cK F w v (l.map (Value.int .i64))
def bR (F:Nat->Prop) (w:World) (us:List Value) (ll:List (List Int)):Prop:=us.length=ll.length/\∀ i (h:i<us.length) (h2:i<ll.length),FI F w us[i] ll[i]
def aL (F:Nat->Prop) (w:World) (v:Value) (ll:List (List Int)):Prop:=∃ us,cK F w v us/\bR F w us ll
def bX (F:Nat->Prop) (w:World) (us:List Value) (ll:List (List (List Int))):Prop:=us.length=ll.length/\∀ i (h:i<us.length) (h2:i<ll.length),aL F w us[i] ll[i]
theorem cK.kp {w:World} {us:List Value} (h:cK F w v us) (hk:Kp M w w') (hM:∀ k,F k->¬ M k):cK F w' v us:=by
 obtain ⟨a,cap,h1,h2,h3,h4,h5⟩:=h;refine ⟨a,cap,h1,h2,h3,h4,fun h0=>?_⟩;obtain ⟨b,o,e1,e2,e3,e4⟩:=h5 h0;exact ⟨b,o,e1,Nat.lt_of_lt_of_le e2 hk.size,e3,fun i hi=>(World.cell?_of_block (w:=w) (a:=⟨b,o+i,none⟩) (hk.block b e2 (hM b e3))).trans (e4 i hi)⟩
theorem cK.mono {w:World} {us:List Value} (h:cK F w v us) (hF:∀ k,F k->F' k):cK F' w v us:=by
 obtain ⟨a,cap,h1,h2,h3,h4,h5⟩:=h;refine ⟨a,cap,h1,h2,h3,h4,fun h0=>?_⟩;obtain ⟨b,o,e1,e2,e3,e4⟩:=h5 h0;exact ⟨b,o,e1,e2,hF b e3,e4⟩
theorem cK.Fp {w:World} {us:List Value} (h:cK F w v us):cH w v us:=by
 obtain ⟨a,cap,h1,h2,h3,h4,h5⟩:=h;refine ⟨a,cap,h1,h2,h3,h4,fun h0=>?_⟩;obtain ⟨b,o,e1,e2,e3,e4⟩:=h5 h0;exact ⟨b,o,e1,e2,e4⟩
theorem cK.of {w:World} {us:List Value} (h:cH w v us) (hF:∀ b,v.ownBlock=some b->F b):cK F w v us:=by
 obtain ⟨a,cap,h1,h2,h3,h4,h5⟩:=h;refine ⟨a,cap,h1,h2,h3,h4,fun h0=>?_⟩;obtain ⟨b,o,e1,e2,e4⟩:=h5 h0;exact ⟨b,o,e1,e2,hF b (by rw [h1,e1]; rfl),e4⟩
theorem cK.shape {w:World} {us:List Value} (h:cK F w v us):∃ a cap,v=.slice a us.length cap:=by
 obtain ⟨a,cap,h1,_⟩:=h; exact ⟨a,cap,h1⟩
theorem FI.kp {F M:Nat->Prop} {w w':World} {v:Value} {l:List Int} (h:FI F w v l) (hk:Kp M w w') (hM:∀ k,F k->¬ M k):FI F w' v l:=cK.kp h hk hM
theorem FI.mono {F F':Nat->Prop} {w:World} {v:Value} {l:List Int} (h:FI F w v l) (hF:∀ k,F k->F' k):FI F' w v l:=cK.mono h hF
theorem FI.ints {w:World} {l:List Int} (h:FI F w v l):Ints w v l:=cK.Fp h
theorem FI.len {F:Nat->Prop} {w:World} {v:Value} {l:List Int} (h:FI F w v l):∃ n a cap,l.length=n/\v=.slice a n cap/\n<=1000000000:=Ints.len h.ints
theorem bR.kp {F M:Nat->Prop} {w w':World} {us:List Value} {ll:List (List Int)} (h:bR F w us ll) (hk:Kp M w w') (hM:∀ k,F k->¬ M k):bR F w' us ll:=⟨h.1,fun i a b=>(h.2 i a b).kp hk hM⟩
theorem bR.mono {F F':Nat->Prop} {w:World} {us:List Value} {ll:List (List Int)} (h:bR F w us ll) (hF:∀ k,F k->F' k):bR F' w us ll:=⟨h.1,fun i a b=>(h.2 i a b).mono hF⟩
theorem bR.nil (F:Nat->Prop) (w:World):bR F w [] []:=⟨rfl,fun i h=>by simp at h⟩
theorem bR.app {w:World} {us vs:List Value} {mm:List (List Int)} (h:bR F w us ll) (h':bR F w vs mm):bR F w (us++vs) (ll++mm):=by
 refine ⟨by simp [h.1,h'.1],fun i a b=>?_⟩;have hl:=h.1
 by_cases hi:i<us.length
 ·rw [List.getElem_append_left hi,List.getElem_append_left (by omega)]; exact h.2 i hi (by omega)
 ·have Bh:¬ i<ll.length:=by omega
  rw [List.getElem_append_right (by omega),List.getElem_append_right (by omega)];have:=h'.2 (i - us.length) (by simp at a; omega) (by simp at b; omega);simp only [hl] at this ⊢;exact this
theorem bR.one {w:World} {u:Value} {l:List Int} (h:FI F w u l):bR F w [u] [l]:=by
 refine ⟨rfl,fun i a b=>?_⟩
 have:i=0:=by simpa using a
 subst this; exact h
theorem bR.take {F:Nat->Prop} {w:World} {us:List Value} {ll:List (List Int)} (h:bR F w us ll) (k:Nat):bR F w (us.take k) (ll.take k):=by
 refine ⟨by simp [h.1],fun i a b=>?_⟩;rw [List.getElem_take,List.getElem_take];exact h.2 i (by simp at a; omega) (by simp at b; omega)
theorem bR.drop {F:Nat->Prop} {w:World} {us:List Value} {ll:List (List Int)} (h:bR F w us ll) (k:Nat):bR F w (us.drop k) (ll.drop k):=by
 refine ⟨by simp [h.1],fun i a b=>?_⟩;rw [List.getElem_drop,List.getElem_drop];exact h.2 (k+i) (by simp at a; omega) (by simp at b; omega)
theorem aL.kp {F M:Nat->Prop} {w w':World} {v:Value} {ll:List (List Int)} (h:aL F w v ll) (hk:Kp M w w') (hM:∀ k,F k->¬ M k):aL F w' v ll:=by
 obtain ⟨us,h1,h2⟩:=h; exact ⟨us,h1.kp hk hM,h2.kp hk hM⟩
theorem aL.mono {F F':Nat->Prop} {w:World} {v:Value} {ll:List (List Int)} (h:aL F w v ll) (hF:∀ k,F k->F' k):aL F' w v ll:=by
 obtain ⟨us,h1,h2⟩:=h; exact ⟨us,h1.mono hF,h2.mono hF⟩
theorem aL.rows {w:World} (h:aL F w v ll):Rows w v ll:=by
 obtain ⟨us,h1,h2⟩:=h; exact ⟨us,h1.Fp,h2.1,fun i a b=>(h2.2 i a b).ints⟩
theorem aL.shape {w:World} (h:aL F w v ll) :
  ∃ a cap,v=.slice a ll.length cap/\ll.length<=cap/\ll.length<=1000000000 /\
  (0<ll.length->∃ b o,a=some ⟨b,o,none⟩/\b<w.heap.size/\F b/\∀ i (h:i<ll.length),∃ u,w.cell? ⟨b,o+i,none⟩=some u/\FI F w u ll[i]):=by
 obtain ⟨us,⟨a,cap,h1,h2,h3,h4,h5⟩,hl,h6⟩:=h;rw [hl] at h1 h2 h4;refine ⟨a,cap,h1,h2,h4,fun h0=>?_⟩;obtain ⟨b,o,e1,e2,e3,e4⟩:=h5 (by omega);exact ⟨b,o,e1,e2,e3,fun i hi=>⟨us[i],e4 i (by omega),h6 i (by omega) hi⟩⟩
theorem bX.kp {F M:Nat->Prop} {w w':World} {us:List Value} {ll:List (List (List Int))} (h:bX F w us ll) (hk:Kp M w w') (hM:∀ k,F k->¬ M k):bX F w' us ll:=⟨h.1,fun i a b=>(h.2 i a b).kp hk hM⟩
theorem bX.mono {F F':Nat->Prop} {w:World} {us:List Value} {ll:List (List (List Int))} (h:bX F w us ll) (hF:∀ k,F k->F' k):bX F' w us ll:=⟨h.1,fun i a b=>(h.2 i a b).mono hF⟩
theorem bX.snoc {w:World} {us:List Value} {ll:List (List (List Int))} {u:Value} {m:List (List Int)} (h:bX F w us ll) (hu:aL F w u m):bX F w (us++[u]) (ll++[m]):=by
 refine ⟨by simp [h.1],fun i a b=>?_⟩;have hl:=h.1
 by_cases hi:i<us.length
 ·rw [List.getElem_append_left hi,List.getElem_append_left (by omega)]; exact h.2 i hi (by omega)
 ·have iE:i=us.length:=by simp at a; omega
  subst iE
  have e1:(us++[u])[us.length]=u:=by rw [List.getElem_append_right (Nat.le_refl _)]; simp
  have e2:(ll++[m])[us.length]'b=m:=by
   have:us.length=ll.length:=hl;rw [List.getElem_append_right (by omega)]; simp
  rw [e1,e2]; exact hu
theorem FI.o5 {w:World} {l:List Int} (h:Ints w v l):FI (fun k=>k<w.heap.size) w v l:=by
 obtain ⟨a,cap,h1,h2,h3,h4,h5⟩:=h;refine ⟨a,cap,h1,h2,h3,h4,fun h0=>?_⟩;obtain ⟨b,o,e1,e2,e4⟩:=h5 h0;exact ⟨b,o,e1,e2,e2,e4⟩
theorem aL.o5 {w:World} {v:Value} {ll:List (List Int)} (h:Rows w v ll):aL (fun k=>k<w.heap.size) w v ll:=by
 obtain ⟨us,⟨a,cap,h1,h2,h3,h4,h5⟩,h6,h7⟩:=h;refine ⟨us,⟨a,cap,h1,h2,h3,h4,fun h0=>?_⟩,h6,fun i p q=>FI.o5 (h7 i p q)⟩;obtain ⟨b,o,e1,e2,e4⟩:=h5 h0;exact ⟨b,o,e1,e2,e2,e4⟩
theorem NA {w:World} {e:TypeId} {us:List Value} {L:List (List Int)} (hr:w.ownsRow base e 1 v n us) (he:bR F w us L) :
  n=L.length/\∃ a cap,v=.slice a L.length cap/\L.length<=cap/\cap<=maxLen/\(0<L.length->∃ g,a=some ⟨g,0,none⟩/\g<w.heap.size/\∀ i (h:i<L.length),∃ u,w.cell? ⟨g,i,none⟩=some u/\FI F w u L[i]):=by
 have hh:=hr;obtain ⟨h1,h2⟩:=hr
 have hn:n=L.length:=by have:=he.1; omega
 refine ⟨hn,?_⟩;subst hn
 rcases h2 with ⟨rfl,h0⟩ | ⟨g,cap,cur,rfl,hg,hc,h3,h4,h5,h6⟩
 ·exact ⟨none,0,by rw [h0],by omega,by omega,fun h=>by omega⟩
 ·refine ⟨_,cap,rfl,h3,h4,fun _=>⟨g,rfl,(Array.getElem?_eq_some_iff.1 hc).1,fun i hi=>?_⟩⟩
  have iE:i<us.length:=by have:=he.1; omega
  refine ⟨us[i],?_,he.2 i iE hi⟩;have:=hh.cells (g:=g) rfl i us[i] (List.getElem?_eq_getElem iE);unfold Addr.add at this
  split at this
  ·rename_i h0; subst h0; exact this
  ·simpa using this
theorem bR.PO {w:World} {us:List Value} (h:bR F w us ll):∀ u∈us,u.oneCell'=true:=fun u hu=>by
 obtain ⟨i,hi,rfl⟩:=List.getElem_of_mem hu;obtain ⟨n,a,c,_,e,_⟩:=(h.2 i hi (by rw [<- h.1]; exact hi)).len;rw [e]; rfl
variable {P:Program} {md:Region.Mode} {ops:Array Oper} {Q:Exit->Act->World->Prop} {S:Array Bool->World->Prop}
def Any (P:Program) (md:Region.Mode) (ops:Array Oper) (Q:Exit->Act->World->Prop) (S:Array Bool->World->Prop):Nat->Array Bool->Act->World->Prop
 | 0,l,a,w=>Region.ready md ops l=[]/\Q .normal a w
 | n+1,l,a,w=>(Region.ready md ops l=[]->Q .normal a w) /\
   ∀ i,i∈Region.ready md ops l->wpOp P ops Q i (fun a' w'=>S (l.setIfInBounds i true) w'/\Any P md ops Q S n (l.setIfInBounds i true) a' w') a w
theorem Any.plain:∀ (n:Nat) (l:Array Bool) (a:Act) (w:World),Any P md ops Q S n l a w->wpAny P md ops Q n l a w
 | 0,_,_,_,h=>h
 | n+1,_,_,_,h=>⟨h.1,fun i hi=>wpOp_mono (fun a' w' q=>Any.plain n _ a' w' q.2) (h.2 i hi)⟩
theorem Any.begin {id:Nat} {a:Act} {w:World} (hm:P.follows .mixedOrders=true) (h:Any P .any ops Q S ops.size (Array.replicate ops.size false) a w.drew):(Code.region id ops true).wp P Q a w :=
 wp_region_any hm (Any.plain _ _ _ _ h)
theorem Any.all {rs:List Nat} {l:Array Bool} {a:Act} {w:World} (hr:Region.ready md ops l=rs) (hne:rs≠[])
  (h:∀ i∈rs,wpOp P ops Q i (fun a' w'=>S (l.setIfInBounds i true) w'/\Any P md ops Q S n (l.setIfInBounds i true) a' w') a w):Any P md ops Q S (n+1) l a w :=
 ⟨fun h0=>absurd (hr▸h0) hne,fun i hi=>h i (hr▸hi)⟩
theorem Any.one {i:Nat} {l:Array Bool} {a:Act} {w:World} (hr:Region.ready md ops l=[i])
  (h:wpOp P ops Q i (fun a' w'=>S (l.setIfInBounds i true) w'/\Any P md ops Q S n (l.setIfInBounds i true) a' w') a w):Any P md ops Q S (n+1) l a w :=
 Any.all hr (by simp) (fun j hj=>by
  obtain rfl:j=i:=by simpa using hj
  exact h)
theorem Any.two {i:Nat} {l:Array Bool} {a:Act} {w:World} (hr:Region.ready md ops l=[i,j])
  (h:wpOp P ops Q i (fun a' w'=>S (l.setIfInBounds i true) w'/\Any P md ops Q S n (l.setIfInBounds i true) a' w') a w)
  (h':wpOp P ops Q j (fun a' w'=>S (l.setIfInBounds j true) w'/\Any P md ops Q S n (l.setIfInBounds j true) a' w') a w):Any P md ops Q S (n+1) l a w :=
 Any.all hr (by simp) (fun k hk=>by
  rw [List.mem_cons,List.mem_singleton] at hk
  rcases hk with rfl | rfl
  ·exact h
  ·exact h')
theorem Any.done {l:Array Bool} {a:Act} {w:World} (hr:Region.ready md ops l=[]) (h:Q .normal a w):∀ n,Any P md ops Q S n l a w
 | 0=>⟨hr,h⟩
 | n+1=>⟨fun _=>h,by rw [hr]; exact fun i hi=>by simp at hi⟩
def iM (t:Nat) (T:World->Prop) (l:Array Bool) (w:World):Prop:=l.getD t false=true∨T w
theorem Any.first {i t:Nat} {oi ot:Oper} {T:World->Prop} (hi:ops[i]?=some oi) (xG:∀ (j:Nat) (o:Oper) cs b,ops[j]?=some o->o.op≠.select cs b)
  (hQ:∀ c a w,Q (.panic c) (a.put oi.dst v) w->Q (.panic c) a w) (p6:t≠i) (ht:ops[t]?=some ot) (hw:∃ e∈ot.after,Region.binds md e=true/\e.on=i) :
  ∀ (n:Nat) (l:Array Bool) (a:Act) (w:World),l.getD t false=false ->
   (∀ j oj,ops[j]?=some oj->j≠i->l.getD j true=false->(∀ e∈oj.after,Region.binds md e=true->e.on≠i)->oi.apart ops oj=true) ->
   i∈Region.ready md ops l->YieldsIf P ops T oi v a->T w ->
   Any P md ops Q (iM t T) n (l.setIfInBounds i true) (a.put oi.dst v) w->Any P md ops Q (iM t T) (n+1) l a w:=by
 intro n
 induction n with
 | zero =>
  intro l a w _ _ hr hy hT H;refine ⟨fun h0=>absurd (h0▸hr) (by simp),fun j hj=>?_⟩
  by_cases ku:j=i
  ·subst ku; exact hy.wpOp hi hT ⟨.inr hT,H⟩
  ·have kQ:=ready_mono hj ku
   rw [H.1] at kQ;simp at kQ
 | succ n ih =>
  intro l a w hl qp hr hy hT H;refine ⟨fun h0=>absurd (h0▸hr) (by simp),fun j hj=>?_⟩
  by_cases ku:j=i
  ·subst ku; exact hy.wpOp hi hT ⟨.inr hT,H⟩
  obtain ⟨y_,oj,sZ,uz⟩:=mem_ready.1 hj;have ny:=(mem_ready.1 hr).1
  have mO:∀ e∈oj.after,Region.binds md e=true->e.on≠i:=by
   intro e he hb heq;have h1:=uz e he hb;rw [heq] at h1
   by_cases az:i<l.size
   ·simp [az] at h1 ny; rw [ny] at h1; cases h1
   ·simp [Array.getElem?_eq_none (Nat.le_of_not_lt az)] at h1
  have Xb:j≠t:=by
   rintro rfl;obtain ⟨e,he,hb,heq⟩:=hw;rw [ht] at sZ; cases sZ;exact mO e he hb heq
  have o6:=wpOp_putIf sZ (qp j oj sZ ku y_ mO) (fun cs b=>xG i oi cs b hi) (fun cs b=>xG j oj cs b sZ) hQ hy (H.2 j (ready_mono hj ku));refine wpOp_mono (fun a' w' q=>?_) o6;obtain ⟨za,Fq,Fs⟩:=q;rw [Array.setIfInBounds_comm _ _ (Ne.symm ku)] at Fq Fs
  have Bh:(l.setIfInBounds j true).getD i true=false:=by rw [getD_set_ne true ku]; exact ny
  have mh:(l.setIfInBounds j true).getD t false=false:=by rw [getD_set_ne false Xb]; exact hl
  have hT':T w':=by
   rcases Fq with h | h
   ·rw [getD_set_ne false (Ne.symm p6),mh] at h; cases h
   ·exact h
  refine ⟨.inr hT',ih _ _ _ mh ?_ (ready_mono hr (Ne.symm ku)) za hT' Fs⟩;intro k ok hk n7 Ft Fu;refine qp k ok hk n7 ?_ Fu
  by_cases DG:j=k
  ·rw [<- DG]; exact y_
  ·rwa [getD_set_ne true DG] at Ft
theorem Any.take {i t:Nat} {oi:Oper} {T:World->Prop} {l:Array Bool} {a:Act} {w:World} (d:Option Tmp) (hi:ops[i]?=some oi) (hd:oi.dst=d)
  (hs:Region.noSelect ops=true) (hf:Region.free md ops l i=true) (hr:(Region.ready md ops l).contains i=true)
  (hQ:∀ c a w,Q (.panic c) (a.put d v) w->Q (.panic c) a w) (p6:(t == i)=false) (hw:Region.waitsFor md ops t i=true) (hl:l.getD t false=false)
  (hy:YieldsIf P ops T oi v a) (hT:T w)
  (h:Any P md ops Q (iM t T) n (l.setIfInBounds i true) (a.put d v) w):Any P md ops Q (iM t T) (n+1) l a w:=by
 subst hd;obtain ⟨ot,ht,hw⟩:=Region.waitsFor_spec hw;exact Any.first hi (Region.noSelect_spec hs) hQ (by simpa using p6) ht hw n l a w hl (Region.free_spec hi hf) (by simpa using hr) hy hT h
variable {P:Program} {md:Region.Mode} {ops:Array Oper} {Q:Exit->Act->World->Prop}
theorem iM.set {t i:Nat} {T:World->Prop} {l:Array Bool} {w:World} (p6:t≠i):iM t T (l.setIfInBounds i true) w↔iM t T l w:=by
 unfold iM;rw [getD_set_ne false (Ne.symm p6)]
theorem Any.step {i t:Nat} {oi:Oper} {T:World->Prop} {l:Array Bool} {a:Act} {w:World} (d:Option Tmp) (hi:ops[i]?=some oi) (hd:oi.dst=d) (hw:Region.wanted oi (yielded ops a.tmps)=true)
  (hr:(execOp a.eval oi).run P w=.ok (.value v) w') (hT:iM t T (l.setIfInBounds i true) w') (h:Any P md ops Q (iM t T) n (l.setIfInBounds i true) (a.put d v) w') :
  wpOp P ops Q i (fun a' w'=>iM t T (l.setIfInBounds i true) w'/\Any P md ops Q (iM t T) n (l.setIfInBounds i true) a' w') a w:=qm d hi hd hw hr ⟨hT,h⟩
theorem Any.skip {i t:Nat} {oi:Oper} {T:World->Prop} {l:Array Bool} {a:Act} {w:World} (d:Option Tmp) (hi:ops[i]?=some oi) (hd:oi.dst=d) (hw:Region.wanted oi (yielded ops a.tmps)=true)
  (hr:(execOp a.eval oi).run P w=.ok .skip w') (hT:iM t T (l.setIfInBounds i true) w') (h:Any P md ops Q (iM t T) n (l.setIfInBounds i true) (a.put d undef) w') :
  wpOp P ops Q i (fun a' w'=>iM t T (l.setIfInBounds i true) w'/\Any P md ops Q (iM t T) n (l.setIfInBounds i true) a' w') a w:=y9 d hi hd hw hr ⟨hT,h⟩
theorem DH {o:Oper} {a:Act} {T:World->Prop} (t:TypeId) (x:Operand) (hg:Region.wanted o (yielded ops a.tmps)=true) (ho:o.op=.load t x) (ad:Addr) (hx:a.eval x=.pointer (some ad)) (hr:∀ w,T w->(loadVar t ad).run P w=.ok v w):YieldsIf P ops T o v a :=
 .inl ⟨hg,fun w hw=>eK t x ho ad hx (hr w hw)⟩
theorem aT {o:Oper} {a:Act} {w:World} (s x:Operand) (t:TypeId) (ho:o.op=.call { callee:=.builtin .append,args:=#[s,x],argTypes:=#[t,t] }) {vs vx:Value} (hs:a.eval s=vs) (hx:a.eval x=vx)
  (hr:(Builtin.append_ #[t,t] o.type #[vs,vx]).run P w=.ok v w'):(execOp a.eval o).run P w=.ok (.value v) w':=by
 unfold execOp;simp only [ho,resolve,invoke,builtin,Sem.run_bind,Sem.run_pure,Result.andThen_ok,List.map_toArray,List.map_cons,List.map_nil,hs,hx,hr]
theorem ak {o:Oper} {a:Act} {w:World} (t:TypeId) (x y:Operand) (ho:o.op=.store t x y) (ad:Addr) (hx:a.eval x=.pointer (some ad)) (v:Value) (hv:a.eval y=v) (hr:(storeVar t ad v).run P w=.ok () w') :
  (execOp a.eval o).run P w=.ok .skip w':=by
 unfold execOp;simp only [ho,hx,hv,Instr.storeAt,Instr.sureAddr,Sem.run_bind,Sem.run_pure,Result.andThen_ok,hr]
theorem uA {P:Program} {w:World} (base:Nat) (t ty e:TypeId) (i:TypeInfo) (size c:Nat) (ht:P.underlying t=some (.slice e)) (hi:P.info? e=some i)
  (v:Value) (n:Nat) (xs:List Value) (gH:w.ownsRow base e size v n xs):(Builtin.append_ #[t,t] ty #[v,.slice none 0 c]).run P w=.ok v w:=by
 rcases gH.2 with ⟨rfl,rfl⟩ | ⟨g,cap,cur,rfl,_,_,hnc,_⟩
 ·simp [Builtin.append_,run_underlying ht,sizeOf,typeInfo,hi,Builtin.lenOf,Builtin.firstCells]
 ·simp [Builtin.append_,run_underlying ht,sizeOf,typeInfo,hi,Builtin.lenOf,Builtin.firstCells,hnc,storeCells]

theorem ae {P:Program} (t e:TypeId) (ht:P.underlying t=some (.slice e)) {w:World} {ad:Addr} (h:w.cell? ad=some v):(loadVar t ad).run P w=.ok v w:=by
 simp [loadVar,isAgg,run_underlying ht,load];simp [Sem.run,h]
theorem bz {P:Program} (t:TypeId) {y:Nat} (hs:(P.info? t).map (fun i=>(i.zero,i.size,i.bytes))=some (some z,1,y)) {w:World} {b o c:Nat} {a:Option Addr} {u:Value} (h:w.cell? ⟨b,o,none⟩=some u) (hf:w.frozen? ⟨b,o,none⟩=false) :
  (storeVar t ⟨b,o,none⟩ (.slice a n c)).run P w=.ok () (w.setCell ⟨b,o,none⟩ (.slice a n c)):=by
 obtain ⟨i0,hi,dw,bJ,dZ⟩:=info_parts hs
 have h0:(⟨b,o,none⟩:Addr).add 0=⟨b,o,none⟩:=by simp [Addr.add]
 simp [storeVar,sizeOf,typeInfo,hi,bJ,Value.cells,storeCells,store,h0];simp [Sem.run,h,hf]
theorem uB {P:Program} {t e:TypeId} (T:se P t e z bytes) (w:World) (b o len cap i:Nat) (hi:i<len):(Instr.indexAt t (.slice (some ⟨b,o,none⟩) len cap) (.int .i64 (i:Int))).run P w=.ok (.pointer (some ⟨b,o+i,none⟩)) w:=by
 obtain ⟨i0,ny,dw,bJ,dZ⟩:=info_parts T.info;have h1:(0:Int)<=(i:Int)/\(i:Int)<(len:Int):=⟨by omega,by omega⟩;simp [Instr.indexAt,asIntOf,run_underlying T.ty,sizeOf,typeInfo,ny,bJ,h1,Addr.add];rw [if_pos hi]
 by_cases h0:i=0
 ·subst h0; simp
 ·rw [if_neg h0]
theorem ai {P:Program} {ops:Array Oper} {S:World->Prop} {o:Oper} {a:Act} {t e:TypeId} (T:se P t e z bytes) (x y:Operand) (hg:Region.wanted o (yielded ops a.tmps)=true) (ho:o.op=.indexAddr t x y) (b of len cap i:Nat) (hx:a.eval x=.slice (some ⟨b,of,none⟩) len cap) (hy:a.eval y=.int .i64 (i:Int)) (hi:i<len) :
  YieldsIf P ops S o (.pointer (some ⟨b,of+i,none⟩)) a:=by
 refine .inl ⟨hg,fun w _=>?_⟩;have:=uB T w b of len cap i hi;unfold execOp;simp only [ho,hx,hy,Sem.run_bind,Sem.run_pure,Result.andThen_ok,this]
theorem o7 {P:Program} {o:Oper} {a:Act} {t e:TypeId} (T:se P t e z bytes) (ho:o.op=.buildSlice t 0 #[]) (X:World):(execOp a.eval o).run P X=.ok (.value (.slice (some ⟨X.heap.size,0,none⟩) 0 0)) (X.alloc (.cells #[] e)):=by
 obtain ⟨i0,hi,dw,bJ,dZ⟩:=info_parts T.info;have h0:Array.range (0*1)=#[]:=rfl;unfold execOp;simp [ho,Instr.buildSlice,run_underlying T.ty,sizeOf,typeInfo,hi,newRow,h0,Instr.fill,Result.andThen]
theorem wG {P:Program} {t e:TypeId} (T:se P t e z bytes) (ty:TypeId) {us:List Value} (gH:X.ownsRow B e 1 v n xs) (hX:B<=X.heap.size)
  (nz:cH X xv us) (h1:∀ u∈us,u.oneCell'=true) (hn:n+us.length<1000000000) :
  ∃ v' X',(Builtin.append_ #[t,t] ty #[v,xv]).run P X=.ok v' X'/\X'.ownsRow B e 1 v' (n+us.length) (xs++us)/\X.grownBy X' v.ownBlock:=by
 obtain ⟨i0,hi,dw,bJ,dZ⟩:=info_parts T.info;obtain ⟨ad,cap,rfl,q2,q3,q4,q5⟩:=nz
 cases ad with
 | none =>
  have h0:us=[]:=by
   cases us with
   | nil=>rfl
   | cons u r=>obtain ⟨b,o,e1,_⟩:=q5 (by simp); cases e1
  subst h0;exact ⟨v,X,uA (P:=P) (w:=X) B t ty e i0 1 cap T.ty hi v n xs gH,by simpa using gH,⟨rfl,rfl,rfl,Nat.le_refl _,fun _ _ _=>rfl⟩⟩
 | some ad =>
  obtain ⟨v',w',hr,h2,h3,h4,h5⟩:=run_append_own_at (P:=P) X B t ty e i0 z 1 bytes T.ty hi dw bJ dZ T.zc (by decide) v n xs gH ad us.length cap us (by omega) (fun j u hu=>by
   have hj:=(List.getElem?_eq_some_iff.1 hu).1;obtain ⟨b,o,e1,e2,e3⟩:=q5 (by omega);simp at e1; subst e1
   rw [Addr.add_mid,e3 j hj,<- hu,List.getElem?_eq_getElem hj]) h1 (by unfold maxLen; omega) (by have:(n+us.length)*bytes<=1000000000*64:=Nat.mul_le_mul (by omega) T.small; omega) hX
  exact ⟨v',w',hr,h2,h3⟩
theorem Any.call {P:Program} {md:Region.Mode} {ops:Array Oper} {Q:Exit->Act->World->Prop} {i t:Nat} {oi:Oper} {T:World->Prop} {l:Array Bool} {a:Act} {w:World} (d:Option Tmp) (hi:ops[i]?=some oi) (hd:oi.dst=d) (hw:Region.wanted oi (yielded ops a.tmps)=true) (f:FuncId) (args:Array Value)
  (hr:(execOp a.eval oi).run P w=.ok (.enter f args) w)
  (hc:Calls P f args w fun e w'=>∃ v,e=.returned v/\iM t T (l.setIfInBounds i true) w'/\Any P md ops Q (iM t T) n (l.setIfInBounds i true) (a.put d v) w') :
  wpOp P ops Q i (fun a' w'=>iM t T (l.setIfInBounds i true) w'/\Any P md ops Q (iM t T) n (l.setIfInBounds i true) a' w') a w:=by
 subst hd;unfold wpOp;simp only [hi,hw,if_true]
 left
 unfold Oper.wp;rw [hr,Oper.upon_enter];refine hc.mono fun e w' ⟨v,h1,h2,h3⟩=>?_;subst h1;exact ⟨h2,h3⟩
variable {P:Program} {md:Region.Mode} {ops:Array Oper} {Q:Exit->Act->World->Prop} {S:Array Bool->World->Prop}
theorem Any.Uz {i t:Nat} {oi ot:Oper} {T:World->Prop} (hi:ops[i]?=some oi) (xG:∀ (j:Nat) (o:Oper) cs b,ops[j]?=some o->o.op≠.select cs b)
  (hQ:∀ c a w,Q (.panic c) (a.put oi.dst v) w->Q (.panic c) a w) (p6:t≠i) (ht:ops[t]?=some ot) (hw:∃ e∈ot.after,Region.binds md e=true/\e.on=i)
  (hS:∀ l w,S (l.setIfInBounds i true) w↔S l w) (PQ:∀ l w,l.getD t false=false->S l w->T w) :
  ∀ (n:Nat) (l:Array Bool) (a:Act) (w:World),l.getD t false=false ->
   (∀ j oj,ops[j]?=some oj->j≠i->l.getD j true=false->(∀ e∈oj.after,Region.binds md e=true->e.on≠i)->oi.apart ops oj=true) ->
   i∈Region.ready md ops l->YieldsIf P ops T oi v a->S l w ->
   Any P md ops Q S n (l.setIfInBounds i true) (a.put oi.dst v) w->Any P md ops Q S (n+1) l a w:=by
 intro n
 induction n with
 | zero =>
  intro l a w hl _ hr hy hT H;refine ⟨fun h0=>absurd (h0▸hr) (by simp),fun j hj=>?_⟩
  by_cases ku:j=i
  ·subst ku; exact hy.wpOp hi (PQ _ _ hl hT) ⟨(hS _ _).2 hT,H⟩
  ·have kQ:=ready_mono hj ku
   rw [H.1] at kQ;simp at kQ
 | succ n ih =>
  intro l a w hl qp hr hy hT H;refine ⟨fun h0=>absurd (h0▸hr) (by simp),fun j hj=>?_⟩
  by_cases ku:j=i
  ·subst ku; exact hy.wpOp hi (PQ _ _ hl hT) ⟨(hS _ _).2 hT,H⟩
  obtain ⟨y_,oj,sZ,uz⟩:=mem_ready.1 hj;have ny:=(mem_ready.1 hr).1
  have mO:∀ e∈oj.after,Region.binds md e=true->e.on≠i:=by
   intro e he hb heq;have h1:=uz e he hb;rw [heq] at h1
   by_cases az:i<l.size
   ·simp [az] at h1 ny; rw [ny] at h1; cases h1
   ·simp [Array.getElem?_eq_none (Nat.le_of_not_lt az)] at h1
  have Xb:j≠t:=by
   rintro rfl;obtain ⟨e,he,hb,heq⟩:=hw;rw [ht] at sZ; cases sZ;exact mO e he hb heq
  have o6:=wpOp_putIf sZ (qp j oj sZ ku y_ mO) (fun cs b=>xG i oi cs b hi) (fun cs b=>xG j oj cs b sZ) hQ hy (H.2 j (ready_mono hj ku));refine wpOp_mono (fun a' w' q=>?_) o6;obtain ⟨za,Fq,Fs⟩:=q;rw [Array.setIfInBounds_comm _ _ (Ne.symm ku)] at Fq Fs
  have mh:(l.setIfInBounds j true).getD t false=false:=by rw [getD_set_ne false Xb]; exact hl
  have cF:=(hS _ _).1 Fq;refine ⟨cF,ih _ _ _ mh ?_ (ready_mono hr (Ne.symm ku)) za cF Fs⟩;intro k ok hk n7 Ft Fu;refine qp k ok hk n7 ?_ Fu
  by_cases DG:j=k
  ·rw [<- DG]; exact y_
  ·rwa [getD_set_ne true DG] at Ft
theorem Any.UC {i:Nat} {oi:Oper} {T:World->Prop} (hi:ops[i]?=some oi) (xG:∀ (j:Nat) (o:Oper) cs b,ops[j]?=some o->o.op≠.select cs b)
  (hQ:∀ c a w,Q (.panic c) (a.put oi.dst v) w->Q (.panic c) a w)
  (hS:∀ l w,S (l.setIfInBounds i true) w↔S l w) (PQ:∀ l w,S l w->T w) :
  ∀ (n:Nat) (l:Array Bool) (a:Act) (w:World),
   (∀ j oj,ops[j]?=some oj->j≠i->l.getD j true=false->(∀ e∈oj.after,Region.binds md e=true->e.on≠i)->oi.apart ops oj=true) ->
   i∈Region.ready md ops l->YieldsIf P ops T oi v a->S l w ->
   Any P md ops Q S n (l.setIfInBounds i true) (a.put oi.dst v) w->Any P md ops Q S (n+1) l a w:=by
 intro n
 induction n with
 | zero =>
  intro l a w _ hr hy hT H;refine ⟨fun h0=>absurd (h0▸hr) (by simp),fun j hj=>?_⟩
  by_cases ku:j=i
  ·subst ku; exact hy.wpOp hi (PQ _ _ hT) ⟨(hS _ _).2 hT,H⟩
  ·have kQ:=ready_mono hj ku
   rw [H.1] at kQ;simp at kQ
 | succ n ih =>
  intro l a w qp hr hy hT H;refine ⟨fun h0=>absurd (h0▸hr) (by simp),fun j hj=>?_⟩
  by_cases ku:j=i
  ·subst ku; exact hy.wpOp hi (PQ _ _ hT) ⟨(hS _ _).2 hT,H⟩
  obtain ⟨y_,oj,sZ,uz⟩:=mem_ready.1 hj;have ny:=(mem_ready.1 hr).1
  have mO:∀ e∈oj.after,Region.binds md e=true->e.on≠i:=by
   intro e he hb heq;have h1:=uz e he hb;rw [heq] at h1
   by_cases az:i<l.size
   ·simp [az] at h1 ny; rw [ny] at h1; cases h1
   ·simp [Array.getElem?_eq_none (Nat.le_of_not_lt az)] at h1
  have o6:=wpOp_putIf sZ (qp j oj sZ ku y_ mO) (fun cs b=>xG i oi cs b hi) (fun cs b=>xG j oj cs b sZ) hQ hy (H.2 j (ready_mono hj ku));refine wpOp_mono (fun a' w' q=>?_) o6;obtain ⟨za,Fq,Fs⟩:=q;rw [Array.setIfInBounds_comm _ _ (Ne.symm ku)] at Fq Fs;have cF:=(hS _ _).1 Fq;refine ⟨cF,ih _ _ _ ?_ (ready_mono hr (Ne.symm ku)) za cF Fs⟩;intro k ok hk n7 Ft Fu;refine qp k ok hk n7 ?_ Fu
  by_cases DG:j=k
  ·rw [<- DG]; exact y_
  ·rwa [getD_set_ne true DG] at Ft
def aK (t:Nat) (T T2:World->Prop) (l:Array Bool) (w:World):Prop:=iM t T l w/\T2 w
theorem aK.set {t i:Nat} {T T2:World->Prop} (p6:t≠i) (l:Array Bool) (w:World):aK t T T2 (l.setIfInBounds i true) w↔aK t T T2 l w:=by
 unfold aK; rw [iM.set p6]
theorem Any.Xc {i t:Nat} {oi:Oper} {T T2:World->Prop} {l:Array Bool} {a:Act} {w:World} (d:Option Tmp) (hi:ops[i]?=some oi) (hd:oi.dst=d)
  (hs:Region.noSelect ops=true) (hf:Region.free md ops l i=true) (hr:(Region.ready md ops l).contains i=true)
  (hQ:∀ c a w,Q (.panic c) (a.put d v) w->Q (.panic c) a w) (p6:(t == i)=false) (hw:Region.waitsFor md ops t i=true) (hl:l.getD t false=false)
  (hy:YieldsIf P ops T oi v a) (hS:aK t T T2 l w)
  (h:Any P md ops Q (aK t T T2) n (l.setIfInBounds i true) (a.put d v) w):Any P md ops Q (aK t T T2) (n+1) l a w:=by
 subst hd;obtain ⟨ot,ht,hw⟩:=Region.waitsFor_spec hw
 have Wr:t≠i:=by simpa using p6
 refine Any.Uz hi (Region.noSelect_spec hs) hQ Wr ht hw (aK.set Wr) (fun l w hl hh=>?_) n l a w hl (Region.free_spec hi hf) (by simpa using hr) hy hS h
 rcases hh.1 with h1 | h1
 ·rw [hl] at h1; cases h1
 ·exact h1
theorem Any.qq {i t:Nat} {oi:Oper} {T T2:World->Prop} {l:Array Bool} {a:Act} {w:World} (d:Option Tmp) (hi:ops[i]?=some oi) (hd:oi.dst=d)
  (hs:Region.noSelect ops=true) (hf:Region.free md ops l i=true) (hr:(Region.ready md ops l).contains i=true)
  (hQ:∀ c a w,Q (.panic c) (a.put d v) w->Q (.panic c) a w) (p6:(t == i)=false)
  (hy:YieldsIf P ops T2 oi v a) (hS:aK t T T2 l w)
  (h:Any P md ops Q (aK t T T2) n (l.setIfInBounds i true) (a.put d v) w):Any P md ops Q (aK t T T2) (n+1) l a w:=by
 subst hd;exact Any.UC hi (Region.noSelect_spec hs) hQ (aK.set (by simpa using p6)) (fun l w hh=>hh.2) n l a w (Region.free_spec hi hf) (by simpa using hr) hy hS h
theorem Any.run {i:Nat} {oi:Oper} {l:Array Bool} {a:Act} {w:World} (d:Option Tmp) (hi:ops[i]?=some oi) (hd:oi.dst=d) (hw:Region.wanted oi (yielded ops a.tmps)=true)
  (hr:(execOp a.eval oi).run P w=.ok (.value v) w') (hS:S (l.setIfInBounds i true) w') (h:Any P md ops Q S n (l.setIfInBounds i true) (a.put d v) w') :
  wpOp P ops Q i (fun a' w'=>S (l.setIfInBounds i true) w'/\Any P md ops Q S n (l.setIfInBounds i true) a' w') a w:=qm d hi hd hw hr ⟨hS,h⟩
theorem Any.dx {i:Nat} {oi:Oper} {l:Array Bool} {a:Act} {w:World} (d:Option Tmp) (hi:ops[i]?=some oi) (hd:oi.dst=d) (hw:Region.wanted oi (yielded ops a.tmps)=true)
  (hr:(execOp a.eval oi).run P w=.ok .skip w') (hS:S (l.setIfInBounds i true) w') (h:Any P md ops Q S n (l.setIfInBounds i true) (a.put d undef) w') :
  wpOp P ops Q i (fun a' w'=>S (l.setIfInBounds i true) w'/\Any P md ops Q S n (l.setIfInBounds i true) a' w') a w:=y9 d hi hd hw hr ⟨hS,h⟩
theorem Any.ask {i:Nat} {oi:Oper} {l:Array Bool} {a:Act} {w:World} (d:Option Tmp) (hi:ops[i]?=some oi) (hd:oi.dst=d) (hw:Region.wanted oi (yielded ops a.tmps)=true) (f:FuncId) (args:Array Value)
  (hr:(execOp a.eval oi).run P w=.ok (.enter f args) w)
  (hc:Calls P f args w fun e w'=>∃ v,e=.returned v/\S (l.setIfInBounds i true) w'/\Any P md ops Q S n (l.setIfInBounds i true) (a.put d v) w') :
  wpOp P ops Q i (fun a' w'=>S (l.setIfInBounds i true) w'/\Any P md ops Q S n (l.setIfInBounds i true) a' w') a w:=by
 subst hd;unfold wpOp;simp only [hi,hw,if_true]
 left
 unfold Oper.wp;rw [hr,Oper.upon_enter];refine hc.mono fun e w' ⟨v,h1,h2,h3⟩=>?_;subst h1;exact ⟨h2,h3⟩
theorem NB {P:Program} {t e:TypeId} (T:se P t e z bytes) (ty:TypeId) (b o n:Nat) (us:List Value) (hl:us.length=n) (hc:∀ i (h:i<us.length),X.cell? ⟨b,o+i,none⟩=some us[i]) (p c:Nat) {u:Value}
  (hu:X.cell? ⟨p,0,none⟩=some u) (hn:n<1000000) :
  ∃ v' X',(Builtin.append_ #[t,t] ty #[.slice (some ⟨b,o,none⟩) n n,.slice (some ⟨p,0,none⟩) 1 c]).run P X=.ok v' X'/\X'.ownsRow X.heap.size e 1 v' (n+1) (us++[u])/\BE X X'/\∃ a c,v'=.slice a (n+1) c:=by
 obtain ⟨i0,hi,dw,bJ,dZ⟩:=info_parts T.info
 obtain ⟨v',w',hr,h2,h3⟩:=run_append_arg_grows (P:=P) X t ty e i0 z 1 bytes T.ty hi dw bJ dZ T.zc (by decide) ⟨b,o,none⟩ n n us (by omega) (fun j x hj=>by
  have sf:=(List.getElem?_eq_some_iff.1 hj).1
  rw [Addr.add_mid,hc j sf,<- hj,List.getElem?_eq_getElem sf]) ⟨p,0,none⟩ 1 c [u] rfl (fun j x hj=>by
  obtain rfl:j=0:=by have:=(List.getElem?_eq_some_iff.1 hj).1; simpa using this
  simp at hj; subst hj
  rw [show (⟨p,0,none⟩:Addr).add 0=⟨p,0,none⟩ from rfl]; exact hu) (by omega) (by unfold maxLen; omega) (by have:(n+1)*bytes<=1000000*64:=Nat.mul_le_mul (by omega) T.small; omega)
 exact ⟨v',w',hr,h2,(Below.refl _ _).grown h3 (Nat.le_refl _) (fun k hk=>by cases hk),cQ h2⟩
end
section
open Go.RowKit
theorem _root_.d7 {P : Program} {md : Region.Mode} {ops : Array Oper} {Q : Exit -> Act -> World -> Prop} {T T2 : World -> Prop} {oi : Oper} {l : Array Bool} {a : Act} {w : World} (i t : Nat) (v : Value) (d : Nat) (hi : ops[i]? = some oi) (hd : oi.dst = some d)
    (hy : YieldsIf P ops T2 oi v a) (hS : aK t T T2 l w) (h : Any P md ops Q (aK t T T2) n (l.setIfInBounds i true) (a.put (some d) v) w)
    (hs : Region.noSelect ops = true := by kernel_rfl) (hf : Region.free md ops l i = true := by kernel_rfl) (hr : (Region.ready md ops l).contains i = true := by kernel_rfl)
    (hQ : ∀ c a w, Q (.panic c) (a.put (some d) v) w -> Q (.panic c) a w := by exact fun _ _ _ h => h) (p6 : (t == i) = false := by exact rfl) : Any P md ops Q (aK t T T2) (n + 1) l a w :=
  Any.qq (some d) hi hd hs hf hr hQ p6 hy hS h
theorem _root_.d8 {P : Program} {md : Region.Mode} {ops : Array Oper} {Q : Exit -> Act -> World -> Prop} {T T2 : World -> Prop} {oi : Oper} {l : Array Bool} {a : Act} {w : World} (i t : Nat) (v : Value) (d : Nat) (hS : aK t T T2 l w) (h : Any P md ops Q (aK t T T2) n (l.setIfInBounds i true) (a.put (some d) v) w)
    (hi : ops[i]? = some oi := by exact rfl) (hd : oi.dst = some d := by exact rfl) (hy : YieldsIf P ops T2 oi v a := by exact .inl ⟨rfl, fun w _ => Go.Proofs.Rg.bQ (v := _) _ rfl rfl⟩)
    (hs : Region.noSelect ops = true := by kernel_rfl) (hf : Region.free md ops l i = true := by kernel_rfl) (hr : (Region.ready md ops l).contains i = true := by kernel_rfl)
    (hQ : ∀ c a w, Q (.panic c) (a.put (some d) v) w -> Q (.panic c) a w := by exact fun _ _ _ h => h) (p6 : (t == i) = false := by exact rfl) : Any P md ops Q (aK t T T2) (n + 1) l a w :=
  Any.qq (some d) hi hd hs hf hr hQ p6 hy hS h
end
section
open Go Go.RowKit
variable {P:Program} {md:Region.Mode} {ops:Array Oper} {Q:Exit->Act->World->Prop} {S:Array Bool->World->Prop}
theorem put_comm (a:Act) {d d':Tmp} (u v:Value) (h:d≠d'):(a.put (some d) u).put (some d') v=(a.put (some d') v).put (some d) u:=by
 unfold Act.put;simp only [Array.setIfInBounds_comm u v h]
def Does (P:Program) (ops:Array Oper) (Q:Exit->Act->World->Prop) (i d:Nat) (I:World->Prop) (R:Value->World->Prop) (K:World->World->Prop) (b:Act) (W:World):Prop :=
 wpOp P ops Q i (fun c W'=>∃ v,c=b.put (some d) v/\I W'/\R v W'/\K W W') b W

theorem Any.inv {J:Nat->Array Bool->Act->World->Prop} {k:Nat} (h0:∀ l a w,J 0 l a w->Any P md ops Q S k l a w)
  (hs:∀ m l a w,J (m+1) l a w->Region.ready md ops l≠[]/\∀ i∈Region.ready md ops l,wpOp P ops Q i (fun a' w'=>S (l.setIfInBounds i true) w'/\J m (l.setIfInBounds i true) a' w') a w) :
  ∀ m l a w,J m l a w->Any P md ops Q S (k+m) l a w
 | 0,l,a,w,h=>h0 l a w h
 | m+1,l,a,w,h=>by
  obtain ⟨h1,h2⟩:=hs m l a w h;exact Any.all rfl h1 fun i hi=>wpOp_mono (fun a' w' q=>⟨q.1,Any.inv h0 hs m _ a' w' q.2⟩) (h2 i hi)
end
end Go.Proofs.Rg
namespace Go.Proofs.YtpedbljnhnoohaaGreat
open Go.RowKit
open Go.Proofs
attribute [local irreducible] Go.Calls
theorem Bi (v:Value) (l:List Int) (w:World) (h:Rg.Ints w v l) (h1:1<=l.length) (h2:l.length<=64) :
  Calls Tryz.prog 68 #[v] w fun e w'=>e=.returned (.int .i64 (Ma.bY l))/\BE w w':=by
 obtain ⟨a,cap,rfl,hc,hm,_,aP⟩:=h.shape;obtain ⟨b,o,rfl,hb,hr⟩:=aP (by omega);have Hr:=U hr;clear hr aP h
 have hz:∀ (cs:Array Value),cs=Array.replicate 64 (.bool false)->(w.alloc (.cells cs 132)).rowIs w.heap.size 132 64 (fun j=>.bool (decide ((j:Int)∈l.take 0))):=by
  rintro cs rfl;have:=World.rowIs_alloc w (Array.replicate 64 (.bool false)) 132 (fun j=>.bool (decide ((j:Int)∈l.take 0))) (fun i hi=>by simp at hi; simp [hi])
  simpa using this
 have HZ:=U hz;clear hz
 go_enter Tryz.func68,Tryz.ntmps68
 go_wp2
 go_loopw [16] (fun i wr=>∃ k:Nat,k<=l.length/\i=.int .i64 k/\Hid (Ma.xD l k)/\Hid (wr.rowIs w.heap.size 132 64 (fun j=>.bool (decide ((j:Int)∈l.take k))))/\BE w wr) (fun i _=>l.length - (intOf i).toNat)
 case atStart=>exact ⟨0,by omega,rfl,Ma.xE l,HZ.u _ rfl,(Below.refl _ _).alloc (Nat.le_refl _) _⟩
 case round =>
  obtain ⟨k,hk,rfl,hp,hs,cu⟩:=hrel;obtain ⟨hc,hf⟩:=Rg.sX cu
  by_cases az:k<l.length
  ·have e0:wr.cell? ⟨b,o+k,none⟩=some (.int .i64 l[k]):=(hc b (o+k) hb).trans (Hr.u k az)
   have hB:b<wr.heap.size:=Nat.lt_of_lt_of_le hb cu.size;generalize hx:l[k]=x at e0;have Hx:=U hx;clear hx hc hf
   by_cases h0:x<0
   ·go_wp2
    go_ret;exact ⟨Rg.iX (Ma.rL h1 h2 (Ma.Mo az (by rw [Hx.u]; exact h0))).symm,by assumption⟩
   by_cases h3:x<l.length
   ·obtain ⟨n,rfl⟩:=Int.eq_ofNat_of_zero_le (by omega:0<=x)
    have hn:n<64:=by omega
    have c1:=hs.u.cell hn;have f1:=hs.u.frozen n
    cases hd:decide ((n:Int)∈l.take k)
    ·rw [hd] at c1
     go_wp2;go_roundw
     case rel =>
      refine ⟨k+1,by omega,by go_num,Ma.Ci hp.u az (by rw [Hx.u]; omega) (by rw [Hx.u]; omega) (by rw [Hx.u]; exact of_decide_eq_false hd),?_,cu.setCell (Nat.le_refl _) _⟩;refine (hs.u.set n _).congr fun i hi=>?_;rw [Ma.qk az,Hx.u]
      by_cases e:i=n
      ·simp [e]
      ·rw [if_neg e,if_neg (by omega)]
     case measure=>simp [intOf]; omega
    ·rw [hd] at c1
     go_wp2;go_ret;exact ⟨Rg.iX (Ma.rL h1 h2 (Ma.Fi az (by rw [Hx.u]; exact of_decide_eq_true hd))).symm,by assumption⟩
   ·go_wp2
    go_ret;exact ⟨Rg.iX (Ma.rL h1 h2 (Ma.Mp az (by rw [Hx.u]; omega))).symm,by assumption⟩
  ·obtain rfl:k=l.length:=by omega
   go_wp2;go_ret;exact ⟨Rg.iX (Ma.nZ h1 h2 (Ma.Fh hp.u)).symm,by assumption⟩
theorem fJ (v:Value) (l:List Int) (w:World) (h:Rg.Ints w v l) :
  Calls Tryz.prog 68 #[v] w fun e w'=>e=.returned (.int .i64 (Ma.bY l))/\BE w w':=by
 by_cases h1:1<=l.length
 ·by_cases h2:l.length<=64
  ·exact Bi v l w h h1 h2
  ·have hp:=U (Ma.rK (l:=l) (by omega))
   obtain ⟨a,cap,rfl,hc,hm,_,aP⟩:=h.shape;clear aP h
   have uC:64<l.length:=by omega
   go_enter Tryz.func68,Tryz.ntmps68
   go_wp2;go_ret;exact ⟨Rg.iX hp.u.symm,Below.refl _ _⟩
 ·have hp:=U (Ma.rK (l:=l) (by omega))
  obtain ⟨a,cap,rfl,hc,hm,_,aP⟩:=h.shape;clear aP h
  have uC:l.length<1:=by omega
  go_enter Tryz.func68,Tryz.ntmps68
  go_wp2;go_ret;exact ⟨Rg.iX hp.u.symm,Below.refl _ _⟩

theorem uD:(Tryz.prog.info? 3).map (fun i=>(i.zero,i.size,i.bytes))=some (some (.int .i64 0),1,8):=by kernel_rfl
theorem o8 (n:Nat) (hn:n<=1000000) (w:World):(Instr.makeSlice 27 (.int .i64 (n:Int)) (.int .i64 (n:Int))).run Tryz.prog w=.ok (.slice (some ⟨w.heap.size,0,none⟩) n n) (w.alloc (.cells (madeCells #[.int .i64 0] n) 3)) :=
 run_make_row' 27 3 (.int .i64 0) 8 Tryz.underlying27 uD rfl .i64 .i64 n (by omega) (by omega) w
theorem DI (n:Nat) (w:World) (hn:n<=1000) :
  Calls Tryz.prog 144 #[.int .i64 n] w fun e w'=>∃ v,e=.returned v/\Rg.oZ w w' v (Ma.bs n)/\BE w w':=by
 have h_:=o8 n (by omega) w;have bH:=U (World.rowIs_made w (.int .i64 0) n 3)
 go_enter Tryz.func144,Tryz.ntmps144
 go_wp2;clear h_
 go_loopw [9] (fun i wr=>∃ k:Nat,k<=n/\i=.int .i64 k/\Hid (wr.rowIs w.heap.size 3 n (fun j=>.int .i64 (if j<k then (j:Int) else 0)))/\BE w wr) (fun i _=>n - (intOf i).toNat)
 case atStart=>exact ⟨0,by omega,rfl,bH.u.congr (fun i hi=>by simp),(Below.refl _ _).alloc (Nat.le_refl _) _⟩
 case round =>
  obtain ⟨k,hk,rfl,hs,cu⟩:=hrel
  by_cases az:k<n
  ·have c1:=hs.u.cell az
   have f1:=hs.u.frozen k;simp only [Nat.lt_irrefl,if_false] at c1;go_wp2;go_roundw
   case rel =>
    refine ⟨k+1,by omega,by go_num,?_,cu.setCell (Nat.le_refl _) _⟩;refine (hs.u.set k _).congr fun i hi=>?_
    by_cases e:i=k
    ·subst e; simp
    ·rw [if_neg e]
     by_cases e2:i<k
     ·rw [if_pos e2,if_pos (by omega)]
     ·rw [if_neg e2,if_neg (by omega)]
   case measure=>simp [intOf]; omega
  ·obtain rfl:k=n:=by omega
   go_wp2;go_ret;refine ⟨_,rfl,⟨Rg.NP.iD hs.u (by rw [Ma.fH]) (by omega) (fun i hi=>?_),Rg.eW.mk _ _ _ _⟩,by assumption⟩;rw [Ma.wy];rw [Ma.fH] at hi;rw [if_pos hi]
theorem DJ (v:Value) (a:List Nat) (w:World) (h:Rg.NP w v a) (ha:Ma.kP a) (hn:a.length<=1000) (h1:1<=a.length) :
  Calls Tryz.prog 203 #[v] w fun e w'=>∃ v,e=.returned v/\Rg.oZ w w' v (Ma.bf a)/\BE w w':=by
 obtain ⟨ad,cap,rfl,hc,_,_,aP⟩:=h.shape;obtain ⟨b,o,rfl,hb,hr⟩:=aP (by omega);have Hr:=U hr;clear hr aP h;have h_:=o8 a.length (by omega) w;have bH:=U (World.rowIs_made w (.int .i64 0) a.length 3)
 go_enter Tryz.func203,Tryz.ntmps203
 go_wp2;clear h_
 go_loopw [11] (fun i wr=>∃ k:Nat,k<=a.length/\i=.int .i64 k/\Hid (wr.rowIs w.heap.size 3 a.length (fun j=>.int .i64 (if j∈a.take k then ((a.idxOf j:Nat):Int) else 0)))/\BE w wr) (fun i _=>a.length - (intOf i).toNat)
 case atStart=>exact ⟨0,by omega,rfl,bH.u.congr (fun i hi=>by simp),(Below.refl _ _).alloc (Nat.le_refl _) _⟩
 case round =>
  obtain ⟨k,hk,rfl,hs,cu⟩:=hrel;obtain ⟨hc,hf⟩:=Rg.sX cu
  by_cases az:k<a.length
  ·have n8:k<a.length:=az
   have e0:wr.cell? ⟨b,o+k,none⟩=some (.int .i64 ((a[k]:Nat):Int)):=(hc b (o+k) hb).trans (Hr.u k n8);have zd:a[k]<a.length:=Ma.yT ha n8;have ze:=Ma.n5 ha n8
   have kQ:∀ i,i∈a.take (k+1)↔(i∈a.take k∨i=a[k]):=fun i=>by rw [List.take_succ_eq_append_getElem n8,List.mem_append,List.mem_singleton]
   generalize hx:a[k]=x at *;have Hx:=U hx;have PR:=U ze;have qs:=U kQ;clear hx hc hf ze kQ;have c1:=hs.u.cell zd;have f1:=hs.u.frozen x;generalize (Value.int .i64 (if x∈a.take k then ((a.idxOf x:Nat):Int) else 0))=u0 at c1;go_wp2;go_roundw
   case rel =>
    refine ⟨k+1,by omega,by go_num,?_,cu.setCell (Nat.le_refl _) _⟩;refine (hs.u.set x _).congr fun i hi=>?_
    by_cases e:i=x
    ·subst e; rw [if_pos rfl,if_pos ((qs.u i).2 (.inr rfl)),PR.u]
    ·rw [if_neg e]
     by_cases e2:i∈a.take k
     ·rw [if_pos e2,if_pos ((qs.u i).2 (.inl e2))]
     ·rw [if_neg e2,if_neg (fun e3=>((qs.u i).1 e3).elim e2 e)]
   case measure=>simp [intOf]; omega
  ·obtain rfl:k=a.length:=by omega
   go_wp2;go_ret;refine ⟨_,rfl,⟨Rg.NP.iD hs.u (by rw [Ma.dN]) (by omega) (fun i hi=>?_),Rg.eW.mk _ _ _ _⟩,by assumption⟩;rw [Ma.rM];rw [Ma.dN] at hi;rw [List.take_of_length_le (Nat.le_refl _),if_pos (Ma.ux ha hi)]

theorem Fv (n:Nat) (w:World) (h1:1<=n) (hn:n<=64) :
  Calls Tryz.prog 114 #[.int .i64 n] w fun e w'=>∃ v,e=.returned (.tuple #[v,.int .i64 0])/\Rg.oZ w w' v (Ma.bs n)/\BE w w':=by
 go_enter Tryz.func114,Tryz.ntmps114
 go_wp2_with (go_at_call 144; refine (DI _ _ (by omega)).mono ?_; rintro e w1 ⟨v,rfl,hv,hb⟩)
 go_ret2;exact ⟨_,rfl,hv,hb⟩
theorem s4 {k:IntKind} {a b:Int} (h:b=a):Ending.returned (.int k a)=.returned (.int k b):=by rw [h]
theorem Cq {l:List Int} {w:World} (h:Rg.Ints w v l) (hb:BE w0 w) :
  Calls Tryz.prog 68 #[v] w fun e w'=>e=.returned (.int .i64 (Ma.bY l))/\BE w0 w' :=
 (fJ v l w h).mono fun _ _ ⟨a,b⟩=>⟨a,Rg.acc hb b⟩
theorem zf (v:Value) (ll:List (List Int)) (w:World) (h:Rg.Rows w v ll) (h1:1<=ll.length) :
  Calls Tryz.prog 142 #[v] w fun e w'=>e=.returned (.int .i64 (Ma.xF ll))/\BE w w':=by
 obtain ⟨ad,cap,rfl,hc,hm,_,aP⟩:=h.shape;obtain ⟨b,o,rfl,hb,hr⟩:=aP (by omega);obtain ⟨u0,eu0,hu0⟩:=hr 0 (by omega);obtain ⟨n0,a0,c0,sY,rfl,hl0⟩:=hu0.len;have Hr:=U hr;clear hr aP h hu0;have Hn0:=U sY;clear sY
 have hn:(ll.headD []).length=n0:=by rw [<- Hn0.u]; cases ll with | nil=>simp at h1 | cons x r=>rfl
 have HN:=U hn;clear hn
 go_enter Tryz.func142,Tryz.ntmps142
 go_wp2
 go_loopw [10] (fun i wr=>∃ k:Nat,k<=ll.length/\i=.int .i64 k/\Hid (Ma.df (ll.drop k)=Ma.df ll)/\BE w wr) (fun i _=>ll.length - (intOf i).toNat)
 case atStart=>exact ⟨0,by omega,rfl,rfl,Below.refl _ _⟩
 case round =>
  obtain ⟨k,hk,rfl,hp,cu⟩:=hrel
  by_cases az:k<ll.length
  ·obtain ⟨u,eu,hu⟩:=Hr.u k az
   have e0:wr.cell? ⟨b,o+k,none⟩=some u:=(cu.cell (p:=⟨b,o+k,none⟩) hb).trans eu;have jG:=hu.p cu
   by_cases hz:Ma.bY ll[k]=0
   ·have Hz:=U hz
    have nA:((Ma.bY ll[k]) != 0)=false:=by rw [hz]; rfl
    clear hz eu hu
    go_wp2_with (go_at_call 68; refine (Cq jG cu).mono ?_; rintro e w1 ⟨rfl,Jv⟩)
    go_roundw
    case rel=>exact ⟨k+1,by omega,by go_num,(Ma.sW az Hz.u).symm.trans hp.u,Jv⟩
    case measure=>simp [intOf]; omega
   ·have Hz:=U hz
    have nA:((Ma.bY ll[k]) != 0)=true:=by rw [bne_iff_ne]; exact hz
    clear hz eu hu
    go_wp2_with (go_at_call 68; refine (Cq jG cu).mono ?_; rintro e w1 ⟨rfl,Jv⟩)
    go_ret;have hh:=(Ma.wx az Hz.u).symm.trans hp.u;exact ⟨s4 (by rw [Ma.Ny (by rw [<- hh]; exact Hz.u),<- hh]),Jv⟩
  ·obtain rfl:k=ll.length:=by omega
   have yy:Ma.df ll=0:=hp.u.symm.trans (Ma.Nv (Nat.le_refl _));have Hf:=U ((Ma.PN yy).trans (by rw [HN.u]));clear yy hp;go_wp2
   go_loopw [22] (fun i wr=>∃ k:Nat,k<=ll.length/\i=.int .i64 k/\Hid (Ma.pU n0 (ll.drop k)=Ma.pU n0 ll)/\BE w wr) (fun i _=>ll.length - (intOf i).toNat)
   case atStart=>exact ⟨0,by omega,rfl,rfl,cu⟩
   case round =>
    obtain ⟨k,hk,rfl,hp,zg⟩:=hrel;have eu1:=(zg.cell (p:=⟨b,o+0,none⟩) hb).trans eu0
    by_cases fK:k<ll.length
    ·obtain ⟨u,eu,hu⟩:=Hr.u k fK
     have e0:=(zg.cell (p:=⟨b,o+k,none⟩) hb).trans eu;obtain ⟨n2,a2,c2,aZ,rfl,qt⟩:=hu.len;rw [Nat.add_zero] at eu1;clear eu hu eu0;have Hn2:=U aZ;clear aZ
     by_cases hz:n2=n0
     ·have nA:((n2:Int) != (n0:Int))=false:=by rw [hz]; simp
      have Hz:=U hz;clear hz;go_wp2;go_roundw
      case rel=>exact ⟨k+1,by omega,by go_num,(Ma.Ju fK (by rw [Hn2.u,Hz.u])).symm.trans hp.u,zg⟩
      case measure=>simp [intOf]; omega
     ·have nA:((n2:Int) != (n0:Int))=true:=by rw [bne_iff_ne]; omega
      have Hz:=U hz;clear hz;go_wp2;go_ret;exact ⟨s4 (by rw [Hf.u,<- hp.u]; exact Ma.Nw fK (by rw [Hn2.u]; exact Hz.u)),zg⟩
    ·clear eu1
     go_wp2;go_ret;exact ⟨s4 (by rw [Hf.u,<- hp.u]; exact Ma.Nx (by omega)),zg⟩

theorem Cr {z:Int} {w:World} (h:Rg.Rows w v ll) (h1:1<=ll.length) (hz:Hid (Ma.xF ll=z)) (hb:BE w0 w) :
  Calls Tryz.prog 142 #[v] w fun e w'=>e=.returned (.int .i64 z)/\BE w0 w' :=
 (zf v ll w h h1).mono fun _ _ ⟨a,b⟩=>⟨by rw [a,hz.u],Rg.acc hb b⟩
theorem Cs {a:List Nat} (ha:Ma.kP a) (h1:1<=a.length) (h2:a.length<=64):Ma.bY (Ma.ah a)=0 :=
 Ma.nZ (by rw [Ma.aB]; exact h1) (by rw [Ma.aB]; exact h2) (Ma.uw ha)

theorem bC:Rg.se Tryz.prog 27 3 (.int .i64 0) 8:=⟨Tryz.underlying27,uD,rfl,by decide⟩
def PT (l:List Nat):List Value:=l.map fun (x:Nat)=>Value.int .i64 (x:Int)
theorem Ct (l:List Nat) (x:Nat):PT (l++[x])=PT l++[.int .i64 (x:Int)]:=by simp [PT]
theorem xH (n:Nat) (w:World) (hn:n<=1000) :
  Calls Tryz.prog 66 #[.int .i64 n] w fun e w'=>∃ v,e=.returned v/\Rg.oZ w w' v (Ma.bs n)/\BE w w':=by
 go_enter Tryz.func66,Tryz.ntmps66
 go_wp2
 go_loopw [3,4] (fun v i wr=>∃ k:Nat,k<=n/\i=.int .i64 k/\Hid (wr.ownsRow w.heap.size 3 1 v k (PT (Ma.bs k)))/\Hid (BE w wr)) (fun _ i _=>n - (intOf i).toNat)
 case atStart=>exact ⟨0,by omega,rfl,World.ownsRow_nil _ _ _ _,Below.refl _ _⟩
 case round =>
  obtain ⟨k,hk,rfl,hs,cu⟩:=hrel
  by_cases az:k<n
  ·go_wp2_with (at_builtin; refine Rg.Mq rfl _ _ 27 rfl bC hs.u cu.u _ (by simp [Value.oneCell']) rfl rfl (by omega) ?_; intro v' w1 nB bZ _ _ _)
   go_roundw
   case rel=>exact ⟨k+1,by omega,by go_num,by rw [show Ma.bs (k+1)=Ma.bs k++[k] from List.range_succ,Ct]; exact nB,bZ⟩
   case measure=>simp [intOf]; omega
  ·obtain rfl:k=n:=by omega
   go_wp2;go_ret;exact ⟨_,rfl,⟨Rg.NP.cV hs.u (by omega),Rg.eW.cV hs.u⟩,cu.u⟩
theorem yz {a b:List Nat} {k:Nat} (hk:k<a.length):Ma.aq (a.take (k+1)) b=Ma.aq (a.take k) b++[b.getD a[k] 0]:=by
 rw [List.take_succ_eq_append_getElem hk]; unfold Ma.aq; rw [List.map_append]; rfl
theorem xI (va vb:Value) (a b:List Nat) (w:World) (h:Rg.NP w va a) (h':Rg.NP w vb b) (fL:∀ x∈a,x<b.length) (hn:a.length<=1000) :
  Calls Tryz.prog 34 #[va,vb] w fun e w'=>∃ v,e=.returned v/\Rg.oZ w w' v (Ma.aq a b)/\BE w w':=by
 obtain ⟨ad,cap,rfl,hc,_,_,aP⟩:=h.shape;obtain ⟨Bj,lH,rfl,gI,ND,_,dy⟩:=h'.shape;have H1:=U aP;have H2:=U dy;clear aP dy h h'
 go_enter Tryz.func34,Tryz.ntmps34
 go_wp2
 go_loopw [5,6] (fun v i wr=>∃ k:Nat,k<=a.length/\i=.int .i64 k/\Hid (wr.ownsRow w.heap.size 3 1 v k (PT (Ma.aq (a.take k) b)))/\Hid (BE w wr)) (fun _ i _=>a.length - (intOf i).toNat)
 case atStart=>exact ⟨0,by omega,rfl,World.ownsRow_nil _ _ _ _,Below.refl _ _⟩
 case round =>
  obtain ⟨k,hk,rfl,hs,cu⟩:=hrel
  by_cases az:k<a.length
  ·obtain ⟨b1,o1,rfl,bZ,cA⟩:=H1.u (by omega)
   have e1:=(cu.u.cell (p:=⟨b1,o1+k,none⟩) bZ).trans (cA k az);have hx:=fL _ (List.getElem_mem az);have o6:=yz (b:=b) az;have hg:=Ma.getD_lt hx;generalize a[k]=x at e1 hx o6 hg;have Xd:=U o6;obtain ⟨b2,o2,rfl,dh,ig⟩:=H2.u (by omega);have e2:=(cu.u.cell (p:=⟨b2,o2+x,none⟩) dh).trans (ig x hx);generalize b[x]=y at e2 hg;have Hg:=U hg;clear hg o6 cA ig
   go_wp2_with (at_builtin; refine Rg.Mq rfl _ _ 27 rfl bC hs.u cu.u _ (by simp [Value.oneCell']) rfl rfl (by omega) ?_; intro v' w1 nB bZ _ _ _)
   go_roundw
   case rel=>exact ⟨k+1,by omega,by go_num,by rw [Xd.u,Hg.u,Ct]; exact nB,bZ⟩
   case measure=>simp [intOf]; omega
  ·obtain rfl:k=a.length:=by omega
   go_wp2;go_ret;exact ⟨_,rfl,⟨Rg.NP.cV (n:=a.length) (by have:=hs.u; rwa [List.take_length] at this) (by omega),Rg.eW.cV hs.u⟩,cu.u⟩
theorem Fw (v:Value) (a:List Nat) (w:World) (h:Rg.NP w v a) (ha:Ma.kP a) (hn:a.length<=1000) :
  Calls Tryz.prog 35 #[v] w fun e w'=>∃ v,e=.returned v/\Rg.oZ w w' v (Ma.bf a)/\BE w w':=by
 obtain ⟨ad,cap,rfl,hc,_,_,aP⟩:=h.shape;have Hr:=U aP;clear aP h;have h_:=o8 a.length (by omega) w;have bH:=U (World.rowIs_made w (.int .i64 0) a.length 3)
 go_enter Tryz.func35,Tryz.ntmps35
 go_wp2;clear h_
 go_loopw [4] (fun i wr=>∃ k:Nat,k<=a.length/\i=.int .i64 k/\Hid (wr.rowIs w.heap.size 3 a.length (fun j=>.int .i64 (if j∈a.take k then ((a.idxOf j:Nat):Int) else 0)))/\BE w wr) (fun i _=>a.length - (intOf i).toNat)
 case atStart=>exact ⟨0,by omega,rfl,bH.u.congr (fun i hi=>by simp),(Below.refl _ _).alloc (Nat.le_refl _) _⟩
 case round =>
  obtain ⟨k,hk,rfl,hs,cu⟩:=hrel;obtain ⟨hc,hf⟩:=Rg.sX cu
  by_cases az:k<a.length
  ·obtain ⟨b,o,rfl,hb,hr⟩:=Hr.u (by omega)
   have e0:wr.cell? ⟨b,o+k,none⟩=some (.int .i64 ((a[k]:Nat):Int)):=(hc b (o+k) hb).trans (hr k az);have zd:a[k]<a.length:=Ma.yT ha az;have ze:=Ma.n5 ha az
   have kQ:∀ i,i∈a.take (k+1)↔(i∈a.take k∨i=a[k]):=fun i=>by rw [List.take_succ_eq_append_getElem az,List.mem_append,List.mem_singleton]
   generalize hx:a[k]=x at *;have PR:=U ze;have qs:=U kQ;clear hx hc hf ze kQ hr;have c1:=hs.u.cell zd;have f1:=hs.u.frozen x;generalize (Value.int .i64 (if x∈a.take k then ((a.idxOf x:Nat):Int) else 0))=u0 at c1;go_wp2;go_roundw
   case rel =>
    refine ⟨k+1,by omega,by go_num,?_,cu.setCell (Nat.le_refl _) _⟩;refine (hs.u.set x _).congr fun i hi=>?_
    by_cases e:i=x
    ·subst e; rw [if_pos rfl,if_pos ((qs.u i).2 (.inr rfl)),PR.u]
    ·rw [if_neg e]
     by_cases e2:i∈a.take k
     ·rw [if_pos e2,if_pos ((qs.u i).2 (.inl e2))]
     ·rw [if_neg e2,if_neg (fun e3=>((qs.u i).1 e3).elim e2 e)]
   case measure=>simp [intOf]; omega
  ·obtain rfl:k=a.length:=by omega
   go_wp2;go_ret;refine ⟨_,rfl,⟨Rg.NP.iD hs.u (by rw [Ma.dN]) (by omega) (fun i hi=>?_),Rg.eW.mk _ _ _ _⟩,by assumption⟩;rw [Ma.rM];rw [Ma.dN] at hi;rw [List.take_of_length_le (Nat.le_refl _),if_pos (Ma.ux ha hi)]

theorem NF:(Tryz.prog.info? 4).map (fun i=>(i.zero,i.size,i.bytes))=some (some (.bool false),1,1):=by kernel_rfl
theorem PU (n:Nat) (hn:n<=1000000) (w:World):(Instr.makeSlice 91 (.int .i64 (n:Int)) (.int .i64 (n:Int))).run Tryz.prog w=.ok (.slice (some ⟨w.heap.size,0,none⟩) n n) (w.alloc (.cells (madeCells #[.bool false] n) 4)) :=
 run_make_row' 91 4 (.bool false) 1 Tryz.underlying91 NF rfl .i64 .i64 n (by omega) (by omega) w
theorem DK (v:Value) (l:List Int) (w:World) (h:Rg.Ints w v l) (h1:1<=l.length) (h2:l.length<=1000) :
  Calls Tryz.prog 38 #[v,.int .i64 l.length] w fun e w'=>e=.returned (.bool (decide (Ma.uu l)))/\BE w w':=by
 obtain ⟨a,cap,rfl,hc,hm,_,aP⟩:=h.shape;obtain ⟨b,o,rfl,hb,hr⟩:=aP (by omega);have Hr:=U hr;clear hr aP h;have h_:=PU l.length (by omega) w;have bH:=U (World.rowIs_made w (.bool false) l.length 4)
 have hne:((l.length:Int) != (l.length:Int))=false:=by simp
 generalize hD:decide (Ma.uu l)=D;have HD:=U hD;clear hD
 go_enter Tryz.func38,Tryz.ntmps38
 go_wp2;clear h_
 go_loopw [6] (fun i wr=>∃ k:Nat,k<=l.length/\i=.int .i64 k/\Hid (Ma.xD l k)/\Hid (wr.rowIs w.heap.size 4 l.length (fun j=>.bool (decide ((j:Int)∈l.take k))))/\BE w wr) (fun i _=>l.length - (intOf i).toNat)
 case atStart=>exact ⟨0,by omega,rfl,Ma.xE l,bH.u.congr (fun i hi=>by simp),(Below.refl _ _).alloc (Nat.le_refl _) _⟩
 case round =>
  obtain ⟨k,hk,rfl,hp,hs,cu⟩:=hrel;obtain ⟨hc,hf⟩:=Rg.sX cu
  by_cases az:k<l.length
  ·have e0:wr.cell? ⟨b,o+k,none⟩=some (.int .i64 l[k]):=(hc b (o+k) hb).trans (Hr.u k az)
   have hB:b<wr.heap.size:=Nat.lt_of_lt_of_le hb cu.size;generalize hx:l[k]=x at e0;have Hx:=U hx;clear hx hc hf
   by_cases h0:x<0
   ·go_wp2
    go_ret;exact ⟨Rg.cN (by rw [<- HD.u]; exact (decide_eq_false (Ma.Mo az (by rw [Hx.u]; exact h0))).symm),by assumption⟩
   by_cases h3:x<l.length
   ·obtain ⟨n,rfl⟩:=Int.eq_ofNat_of_zero_le (by omega:0<=x)
    have hn:n<l.length:=by omega
    have c1:=hs.u.cell hn;have f1:=hs.u.frozen n
    cases hd:decide ((n:Int)∈l.take k)
    ·rw [hd] at c1
     go_wp2;go_roundw
     case rel =>
      refine ⟨k+1,by omega,by go_num,Ma.Ci hp.u az (by rw [Hx.u]; omega) (by rw [Hx.u]; omega) (by rw [Hx.u]; exact of_decide_eq_false hd),?_,cu.setCell (Nat.le_refl _) _⟩;refine (hs.u.set n _).congr fun i hi=>?_;rw [Ma.qk az,Hx.u]
      by_cases e:i=n
      ·simp [e]
      ·rw [if_neg e,if_neg (by omega)]
     case measure=>simp [intOf]; omega
    ·rw [hd] at c1
     go_wp2;go_ret;exact ⟨Rg.cN (by rw [<- HD.u]; exact (decide_eq_false (Ma.Fi az (by rw [Hx.u]; exact of_decide_eq_true hd))).symm),by assumption⟩
   ·go_wp2
    go_ret;exact ⟨Rg.cN (by rw [<- HD.u]; exact (decide_eq_false (Ma.Mp az (by rw [Hx.u]; omega))).symm),by assumption⟩
  ·obtain rfl:k=l.length:=by omega
   go_wp2;go_ret;exact ⟨Rg.cN (by rw [<- HD.u]; exact (decide_eq_true (Ma.Fh hp.u)).symm),by assumption⟩
theorem gT (v:Value) (l:List Int) (w:World) (h:Rg.Ints w v l) :
  Calls Tryz.prog 81 #[v] w fun e w'=>e=.returned (.int .i64 (Ma.bY l))/\BE w w':=by
 have hv:=h
 by_cases h1:1<=l.length
 ·by_cases h2:l.length<=64
  ·obtain ⟨a,cap,rfl,hc,hm,_,aP⟩:=h.shape
   clear aP h
   cases hD:decide (Ma.uu l)
   all_goals
    have HD:=U hD;have hk:=DK _ l w hv h1 (by omega);rw [hD] at hk;clear hD
    go_enter Tryz.func81,Tryz.ntmps81
    go_wp2_with (go_at_call 38; refine hk.mono ?_; rintro e w1 ⟨rfl,bZ⟩)
    go_ret
   ·exact ⟨s4 (Ma.rL h1 h2 (of_decide_eq_false HD.u)),by assumption⟩
   ·exact ⟨s4 (Ma.nZ h1 h2 (of_decide_eq_true HD.u)),by assumption⟩
  ·have hp:=U (Ma.rK (l:=l) (by omega))
   obtain ⟨a,cap,rfl,hc,hm,_,aP⟩:=h.shape;clear aP h hv
   have uC:64<l.length:=by omega
   go_enter Tryz.func81,Tryz.ntmps81
   go_wp2;go_ret;exact ⟨s4 hp.u,Below.refl _ _⟩
 ·have hp:=U (Ma.rK (l:=l) (by omega))
  obtain ⟨a,cap,rfl,hc,hm,_,aP⟩:=h.shape;clear aP h hv
  have uC:l.length<1:=by omega
  go_enter Tryz.func81,Tryz.ntmps81
  go_wp2;go_ret;exact ⟨s4 hp.u,Below.refl _ _⟩

theorem DL (v1 v2:Value) (l1 l2:List Int) (w:World) (h1:Rg.Ints w v1 l1) (h2:Rg.Ints w v2 l2) :
  Calls Tryz.prog 84 #[v1,v2] w fun e w'=>e=.returned (.bool (decide (l1=l2)))/\∃ k,w'=w.drewN k:=by
 obtain ⟨a1,c1,rfl,n1,m1,_,k1⟩:=h1.shape;obtain ⟨a2,c2,rfl,n2,m2,_,k2⟩:=h2.shape;clear h1 h2;have K1:=U k1;have K2:=U k2;clear k1 k2;generalize hD:decide (l1=l2)=D;have HD:=U hD;clear hD
 by_cases hl:l1.length=l2.length
 ·have hb:((l1.length:Int) != (l2.length:Int))=false:=by rw [hl]; simp
  have Hl:=U hl;clear hl
  go_enter Tryz.func84,Tryz.ntmps84
  go_wp2;clear hb
  go_loopw [5] (fun v wr=>∃ i:Nat,v=.int .i64 i/\i<=l1.length/\(∃ k,wr=w.drewN k)/\Hid (l1.take i=l2.take i)) (fun v _=>l1.length - (intOf v).toNat)
  case atStart=>exact ⟨0,rfl,by omega,⟨0,rfl⟩,by show _=_; simp⟩
  case round =>
   obtain ⟨i,rfl,hi,⟨k,rfl⟩,hs⟩:=hrel
   by_cases az:i<l1.length
   ·have iE:i<l2.length:=by have:=Hl.u; omega
    obtain ⟨b1,o1,rfl,bZ,d1⟩:=K1.u (by omega);obtain ⟨b2,o2,rfl,dh,d2⟩:=K2.u (by omega);have x1:w.cell? ⟨b1,o1+i,none⟩=_:=d1 i az;have x2:w.cell? ⟨b2,o2+i,none⟩=_:=d2 i iE
    have fK:(i:Int)<(l2.length:Int):=by omega
    generalize hx:l1[i]=x at x1;generalize hy:l2[i]=y at x2;have Hx:=U hx;have Hy:=U hy;clear d1 d2 hx hy
    by_cases he:x=y
    ·have hb:(x != y)=false:=by rw [he]; simp
     have He:=U he;clear he;go_wp2
     go_quiet (fail)
     go_wp2;go_roundw
     case rel=>exact ⟨i+1,by go_num,by omega,⟨_,rfl⟩,by show _=_; rw [List.take_succ_eq_append_getElem az,List.take_succ_eq_append_getElem iE,hs.u,Hx.u,Hy.u,He.u]⟩
     case measure=>simp [intOf]; omega
    ·have hb:(x != y)=true:=by rw [bne_iff_ne]; exact he
     have He:=U he;clear he;go_wp2
     go_quiet (fail)
     go_wp2;go_ret;exact ⟨Rg.cN (by rw [<- HD.u]; symm; rw [decide_eq_false_iff_not]; intro hc; subst hc; exact He.u (Hx.u.symm.trans Hy.u)),_,World.drewN_drewN _ _ _⟩
   ·go_wp2
    go_ret;refine ⟨Rg.cN ?_,_,rfl⟩;rw [<- HD.u]; symm;rw [decide_eq_true_eq];have h1:=hs.u
    rwa [List.take_of_length_le (by omega),List.take_of_length_le (by have:=Hl.u; omega)] at h1
 ·have hb:((l1.length:Int) != (l2.length:Int))=true:=by rw [bne_iff_ne]; omega
  have Hl:=U hl;clear hl
  go_enter Tryz.func84,Tryz.ntmps84
  go_wp2;go_ret;exact ⟨Rg.cN (by rw [<- HD.u]; symm; rw [decide_eq_false_iff_not]; intro hc; subst hc; exact Hl.u rfl),0,rfl⟩

theorem NP.ints {w:World} {l:List Nat} (h:Rg.NP w v l):Rg.Ints w v (Ma.ah l):=h
theorem NH {w:World} {b:Bool} (h1:Rg.Ints w v1 l1) (h2:Rg.Ints w v2 l2) (hd:Hid (decide (l1=l2)=b)) (hb:BE w0 w) :
  Calls Tryz.prog 84 #[v1,v2] w fun e w'=>e=.returned (.bool b)/\BE w0 w' :=
 (DL v1 v2 l1 l2 w h1 h2).mono fun _ _ ⟨a,_,c⟩=>⟨by rw [a,hd.u],by rw [c]; exact Rg.drewN hb _⟩
theorem DM (v1 v2:Value) (l1 l2:List (List Int)) (w:World) (h1:Rg.Rows w v1 l1) (h2:Rg.Rows w v2 l2) :
  Calls Tryz.prog 58 #[v1,v2] w fun e w'=>e=.returned (.bool (decide (l1=l2)))/\∃ k,w'=w.drewN k:=by
 obtain ⟨a1,c1,rfl,n1,m1,_,k1⟩:=h1.shape;obtain ⟨a2,c2,rfl,n2,m2,_,k2⟩:=h2.shape;clear h1 h2;have K1:=U k1;have K2:=U k2;clear k1 k2;generalize hD:decide (l1=l2)=D;have HD:=U hD;clear hD
 by_cases hl:l1.length=l2.length
 ·have hb:((l1.length:Int) != (l2.length:Int))=false:=by rw [hl]; simp
  have Hl:=U hl;clear hl
  go_enter Tryz.func58,Tryz.ntmps58
  go_wp2;clear hb
  go_loopw [5] (fun v wr=>∃ i:Nat,v=.int .i64 i/\i<=l1.length/\Hid (∃ k,wr=w.drewN k)/\Hid (l1.take i=l2.take i)) (fun v _=>l1.length - (intOf v).toNat)
  case atStart=>exact ⟨0,rfl,by omega,⟨0,rfl⟩,by show _=_; simp⟩
  case round =>
   obtain ⟨i,rfl,hi,hw,hs⟩:=hrel
   by_cases az:i<l1.length
   ·have iE:i<l2.length:=by have:=Hl.u; omega
    obtain ⟨b1,o1,rfl,bZ,d1⟩:=K1.u (by omega);obtain ⟨b2,o2,rfl,dh,d2⟩:=K2.u (by omega);obtain ⟨u1,y1,uE⟩:=d1 i az;obtain ⟨u2,y2,p7⟩:=d2 i iE
    have x1:wr.cell? ⟨b1,o1+i,none⟩=some u1:=by obtain ⟨k,e⟩:=hw.u; rw [e]; exact y1
    have x2:wr.cell? ⟨b2,o2+i,none⟩=some u2:=by obtain ⟨k,e⟩:=hw.u; rw [e]; exact y2
    have fK:(i:Int)<(l2.length:Int):=by omega
    generalize hx:l1[i]=x at uE;generalize hy:l2[i]=y at p7;have Hx:=U hx;have Hy:=U hy;clear d1 d2 hx hy y1 y2;have hq:∀ n,_:=fun n=>DL u1 u2 x y (wr.drewN n) (by obtain ⟨k,e⟩:=hw.u; rw [e]; exact uE) (by obtain ⟨k,e⟩:=hw.u; rw [e]; exact p7)
    by_cases he:x=y
    ·have hdd:decide (x=y)=true:=decide_eq_true he
     have He:=U he;rw [hdd] at hq;have Hq:=U hq;clear he hdd hq;go_wp2
     go_quiet ((go_at_call 84; exact Calls.quiet_of (Hq.u _)))
     go_wp2;go_roundw
     case rel=>exact ⟨i+1,by go_num,by omega,by obtain ⟨k,e⟩:=hw.u; rw [e]; exact ⟨_,World.drewN_drewN _ _ _⟩,by show _=_; rw [List.take_succ_eq_append_getElem az,List.take_succ_eq_append_getElem iE,hs.u,Hx.u,Hy.u,He.u]⟩
     case measure=>simp [intOf]; omega
    ·have hdd:decide (x=y)=false:=decide_eq_false he
     have He:=U he;rw [hdd] at hq;have Hq:=U hq;clear he hdd hq;go_wp2
     go_quiet ((go_at_call 84; exact Calls.quiet_of (Hq.u _)))
     go_wp2;go_ret;exact ⟨Rg.cN (by rw [<- HD.u]; symm; rw [decide_eq_false_iff_not]; intro hc; subst hc; exact He.u (Hx.u.symm.trans Hy.u)),by obtain ⟨k,e⟩:=hw.u; rw [e]; exact ⟨_,World.drewN_drewN _ _ _⟩⟩
   ·go_wp2
    go_ret;refine ⟨Rg.cN ?_,hw.u⟩;rw [<- HD.u]; symm;rw [decide_eq_true_eq];have h1:=hs.u
    rwa [List.take_of_length_le (by omega),List.take_of_length_le (by have:=Hl.u; omega)] at h1
 ·have hb:((l1.length:Int) != (l2.length:Int))=true:=by rw [bne_iff_ne]; omega
  have Hl:=U hl;clear hl
  go_enter Tryz.func58,Tryz.ntmps58
  go_wp2;go_ret;exact ⟨Rg.cN (by rw [<- HD.u]; symm; rw [decide_eq_false_iff_not]; intro hc; subst hc; exact Hl.u rfl),0,rfl⟩

theorem aQ:Rg.se Tryz.prog 26 3 (.int .i64 0) 8:=⟨Tryz.underlying26,uD,rfl,by decide⟩
theorem cX:(Tryz.prog.info? 27).map (fun i=>(i.zero,i.size,i.bytes))=some (some (.slice none 0 0),1,24):=by kernel_rfl
theorem aM:Rg.se Tryz.prog 41 27 (.slice none 0 0) 24:=⟨Tryz.underlying41,cX,rfl,by decide⟩
theorem af {w:World} {ad:Addr} (h:w.cell? ad=some v):(loadVar 3 ad).run Tryz.prog w=.ok v w:=by
 simp [loadVar,isAgg,run_underlying Tryz.underlying3,load];simp [Sem.run,h]
theorem uF (X:World) (u v:Value) (hu:∃ a n c,u=.slice a n c) (hv:∃ a n c,v=.slice a n c):(Instr.buildSlice 41 2 #[(0,u),(1,v)]).run Tryz.prog X=.ok (.slice (some ⟨X.heap.size,0,none⟩) 2 2) (X.alloc (.cells #[u,v] 27)):=by
 obtain ⟨i0,hi,dw,bJ,dZ⟩:=info_parts cX;obtain ⟨a,n,c,rfl⟩:=hu;obtain ⟨a',n',c',rfl⟩:=hv;refine run_buildSlice X 41 27 2 _ _ i0 _ Tryz.underlying41 hi dw (by rw [bJ]; decide) (by rw [bJ]; decide) ?_;generalize (fun x=>((Value.slice none 0 0).cells)[x % (Value.slice none 0 0).cells.size]!)=f;rw [bJ];have h1:Array.range (2*1)=#[0,1]:=rfl;simp [Instr.fill,Value.cells,h1]
theorem Jw {w:World} {us:List Value} (h:Rg.cH w v us) (hf:Rg.eW B v) (hs:w.heap.size<=w'.heap.size) (hk:∀ b o,B<=b->b<w.heap.size->w'.cell? ⟨b,o,none⟩=w.cell? ⟨b,o,none⟩):Rg.cH w' v us:=by
 obtain ⟨a,cap,h1,h2,h3,h4,h5⟩:=h;refine ⟨a,cap,h1,h2,h3,h4,fun h0=>?_⟩;obtain ⟨b,o,e1,e2,e3⟩:=h5 h0
 have hB:B<=b:=by
  subst e1;exact hf _ _ _ h1
 exact ⟨b,o,e1,Nat.lt_of_lt_of_le e2 hs,fun i hi=>(hk b _ hB e2).trans (e3 i hi)⟩
theorem uG {o:Oper} {a:Act} {w:World} (x y:Operand) (ho:o.op=.buildSlice 41 2 #[(0,x),(1,y)]) (hx:a.eval x=u1) (hy:a.eval y=u2)
  (hr:(Instr.buildSlice 41 2 #[(0,u1),(1,u2)]).run Tryz.prog w=.ok v w'):(execOp a.eval o).run Tryz.prog w=.ok (.value v) w':=by
 subst hx hy;unfold execOp;simp only [ho,Sem.run_bind,Sem.run_pure];simp only [List.map_toArray,List.map_cons,List.map_nil];rw [hr];rfl
theorem kR (w:World) (cs:Array Value) (t:TypeId) (n j:Nat):((w.alloc (.cells cs t)).drewN n).frozen? ⟨w.heap.size,j,none⟩=false:=by
 have h:(w.alloc (.cells cs t)).frozen? ⟨w.heap.size,j,none⟩=false:=by simp
 exact h
theorem NI {P:Program} {ops:Array Oper} {rest:List Oper} {o:Oper} {a:Act} {w:World} {Q:Exit->Act->World->Prop} (d:Option Tmp) (hg:o.guard=none) (hd:o.dst=d) (f:FuncId) (args:Array Value)
  (hr:(execOp a.eval o).run P w=.ok (.enter f args) w) (hc:Calls P f args w fun e w'=>∃ v,e=.returned v/\wpList P ops Q rest (a.put d v) w'):wpList P ops Q (o :: rest) a w:=by
 subst hd;refine wpList_plain hg fun K hK=>?_;unfold Oper.wp;rw [hr,Oper.upon_enter];refine hc.mono fun e w' ⟨v,h1,h2⟩=>?_;subst h1;exact hK _ _ h2
theorem wH:(Tryz.prog.info? 3).map (fun i=>(i.zero,i.size,i.bytes))=some (some (.int .i64 0),1,8):=by kernel_rfl
theorem ax {o:Oper} {a:Act} {w:World} (F:FuncId) (x y:Operand) (qu:Array TypeId) (ho:o.op=.call { callee:=.value (.func F),args:=#[x,y],argTypes:=qu }) (hx:a.eval x=u1) (hy:a.eval y=u2)
  (hF:(callFunc F #[u1,u2]).run Tryz.prog w=.ok (.enter F #[u1,u2]) w):(execOp a.eval o).run Tryz.prog w=.ok (.enter F #[u1,u2]) w:=by
 unfold execOp;have hf:a.eval (.func F)=.func (.func F) #[] #[]:=rfl;simp [ho,hx,hy,hf,resolve,invoke,Deferred.ofValue,hF]
theorem bU {o:Oper} {a:Act} {w:World} (x:Operand) (i:Nat) (ho:o.op=.extract x i) {vs:Array Value} (hx:a.eval x=.tuple vs) (hv:vs[i]?=some v):(execOp a.eval o).run Tryz.prog w=.ok (.value v) w:=by
 unfold execOp;simp [ho,hx,hv,Instr.extract]
theorem ik {o:Oper} {a:Act} {w:World} (t e:TypeId) (len:Nat) (parts:Array (Nat × Operand)) (ho:o.op=.buildSlice t len parts) (zs:List Int)
  (hu:Tryz.prog.underlying t=some (.slice e)) (cR:(Tryz.prog.info? e).map (·.size)=some 1) (hz:((Tryz.prog.info? e).bind (·.zero)).isSome=true)
  (hlen:len=zs.length) (abF:0<len) (abD:len<=2 ^ 24)
  (UD:parts.toList=(zs.zipIdx 0).map fun x=>(x.2,Operand.const (Value.int .i64 x.1))) :
  (execOp a.eval o).run Tryz.prog w=.ok (.value (.slice (some ⟨w.heap.size,0,none⟩) len len)) (w.alloc (.cells (zs.map (Value.int .i64)).toArray e)):=by
 cases Jy:Tryz.prog.info? e with
 | none=>simp [Jy] at cR
 | some ie =>
  simp only [Jy,Option.map_some,Option.some.injEq,Option.bind_some] at cR hz;obtain ⟨z,hzz⟩:=Option.isSome_iff_exists.1 hz
  have h1:=run_buildSlice w t e len (parts.map fun (i,x)=>(i,a.eval x)) ((zs.map (Value.int .i64)).toArray) ie z hu Jy hzz (by rw [cR]; omega) (by rw [cR]; omega) (by
   rw [parts_eval a parts .i64 zs UD,cR]
   exact Great.fill_flat _ _ (fun v hv=>by obtain ⟨n,_,rfl⟩:=List.mem_map.1 hv; rfl) (by simp [hlen]))
  unfold execOp;simp only [ho,Sem.run_bind,h1,Result.andThen_ok,Sem.run_pure]
theorem jw (w:World) (t:TypeId) (zs:List Int) (hl:zs.length<=1000):Rg.Ints (w.alloc (.cells (zs.map (Value.int .i64)).toArray t)) (.slice (some ⟨w.heap.size,0,none⟩) zs.length zs.length) zs:=by
 refine ⟨_,zs.length,by simp,by simp,by unfold maxLen; omega,by simp [Rg.oY]; omega,fun _=>⟨w.heap.size,0,rfl,by simp,fun i hi=>?_⟩⟩;rw [Nat.zero_add,Rg.aW];simp only [List.getElem?_toArray];exact List.getElem?_eq_getElem hi
theorem qw:(Tryz.prog.info? 3).map (·.size)=some 1:=by kernel_rfl
theorem xJ:((Tryz.prog.info? 3).bind (·.zero)).isSome=true:=by kernel_rfl
theorem kx {o:Oper} {a:Act} {w:World} (F:FuncId) (qu:Array TypeId) (ho:o.op=.call { callee:=.value (.func F),args:=#[],argTypes:=qu })
  (hF:(callFunc F #[]).run Tryz.prog w=.ok (.enter F #[]) w):(execOp a.eval o).run Tryz.prog w=.ok (.enter F #[]) w:=by
 unfold execOp;have hf:a.eval (.func F)=.func (.func F) #[] #[]:=rfl;simp [ho,hf,resolve,invoke,Deferred.ofValue,hF]
theorem dm {o:Oper} {a:Act} {w:World} {u3:Value} (F:FuncId) (x y z:Operand) (qu:Array TypeId) (ho:o.op=.call { callee:=.value (.func F),args:=#[x,y,z],argTypes:=qu }) (hx:a.eval x=u1) (hy:a.eval y=u2) (hz:a.eval z=u3)
  (hF:(callFunc F #[u1,u2,u3]).run Tryz.prog w=.ok (.enter F #[u1,u2,u3]) w):(execOp a.eval o).run Tryz.prog w=.ok (.enter F #[u1,u2,u3]) w:=by
 unfold execOp;have hf:a.eval (.func F)=.func (.func F) #[] #[]:=rfl;simp [ho,hx,hy,hz,hf,resolve,invoke,Deferred.ofValue,hF]
theorem kS {o:Oper} {a:Act} {w:World} (x y z:Operand) (ho:o.op=.pick x y z) (hx:a.eval x=.bool true) (hy:a.eval y=v):(execOp a.eval o).run Tryz.prog w=.ok (.value v) w:=by
 unfold execOp;simp [ho,hx,hy,asBool]
theorem aA {o:Oper} {a:Act} {w:World} (F:FuncId) (x:Operand) (qu:Array TypeId) (ho:o.op=.call { callee:=.value (.func F),args:=#[x],argTypes:=qu }) (hx:a.eval x=u1)
  (hF:(callFunc F #[u1]).run Tryz.prog w=.ok (.enter F #[u1]) w):(execOp a.eval o).run Tryz.prog w=.ok (.enter F #[u1]) w:=by
 unfold execOp;have hf:a.eval (.func F)=.func (.func F) #[] #[]:=rfl;simp [ho,hx,hf,resolve,invoke,Deferred.ofValue,hF]
theorem ints_set {w:World} {l:List Nat} {b o:Nat} (h:Rg.NP w v l) (hf:Rg.eW B v) (hb:b<B) (x:Value):Rg.NP (w.setCell ⟨b,o,none⟩ x) v l :=
 Jw h hf (by simp) fun b2 o2 h1 h2=>World.cell?_setCell_other (h:=by intro e; injection e with e1; omega) ..
theorem s5 {P:Program} {ops:Array Oper} {rest:List Oper} {o:Oper} {a:Act} {w:World} {Q:Exit->Act->World->Prop} (d:Option Tmp) (hw:Region.wanted o (yielded ops a.tmps)=true) (hd:o.dst=d)
  (hr:(execOp a.eval o).run P w=.ok (.value v) w') (h:wpList P ops Q rest (a.put d v) w'):wpList P ops Q (o :: rest) a w:=by
 subst hd;unfold wpList;rw [if_pos hw]
 left
 unfold Oper.wp;rw [hr];exact h
theorem eL {P:Program} {ops:Array Oper} {rest:List Oper} {o:Oper} {a:Act} {w:World} {Q:Exit->Act->World->Prop} (d:Option Tmp) (hw:Region.wanted o (yielded ops a.tmps)=true) (hd:o.dst=d) (f:FuncId) (args:Array Value)
  (hr:(execOp a.eval o).run P w=.ok (.enter f args) w) (hc:Calls P f args w fun e w'=>∃ v,e=.returned v/\wpList P ops Q rest (a.put d v) w'):wpList P ops Q (o :: rest) a w:=by
 subst hd;unfold wpList;rw [if_pos hw]
 left
 unfold Oper.wp;rw [hr,Oper.upon_enter];refine hc.mono fun e w' ⟨v,h1,h2⟩=>?_;subst h1;exact h2
theorem Cu {o:Oper} {a:Act} {w:World} {u v:Int} (x y:Operand) (ho:o.op=.binOp .eql 30 x y 30) (hx:a.eval x=.int .i64 u) (hy:a.eval y=.int .i64 v) (h:u=v):(execOp a.eval o).run Tryz.prog w=.ok (.value (.bool true)) w:=by
 subst h
 have h:(binOp .eql 30 (.int .i64 u) (.int .i64 u)).run Tryz.prog w=.ok (.bool true) w:=by
  simp [binOp,Op.intCmp]
 have hg:(eqGuard .eql 30 x y (.int .i64 u) (.int .i64 u)).run Tryz.prog w=.ok () w:=by
  simp [eqGuard]
 unfold execOp;simp only [ho,hx,hy,Sem.run_bind,Sem.run_pure,hg,h,Result.andThen_ok]
theorem cg {o:Oper} {a:Act} {w:World} {u v:Int} {R:Value} (op:BinOp) (t:TypeId) (x y:Operand) (ho:o.op=.binOp op t x y t) (hx:a.eval x=.int .i64 u) (hy:a.eval y=.int .i64 v) (h1:(binOp op t (.int .i64 u) (.int .i64 v)).run Tryz.prog w=.ok R w):(execOp a.eval o).run Tryz.prog w=.ok (.value R) w:=by
 have hg:(eqGuard op t x y (.int .i64 u) (.int .i64 v)).run Tryz.prog w=.ok () w:=by
  simp [eqGuard]
 unfold execOp;simp only [ho,hx,hy,Sem.run_bind,Sem.run_pure,hg,h1,Result.andThen_ok]
theorem Jz {w:World} {u v r:Int} (t:TypeId) (h:u*v=r) (hb:-9223372036854775808<=r/\r<=9223372036854775807):(binOp .mul t (.int .i64 u) (.int .i64 v)).run Tryz.prog w=.ok (.int .i64 r) w:=by
 simp [binOp,Op.intArith,h,IntWalk.i64_in r hb]
theorem bD {w:World} {u v r:Int} (t:TypeId) (h:u+v=r) (hb:-9223372036854775808<=r/\r<=9223372036854775807):(binOp .add t (.int .i64 u) (.int .i64 v)).run Tryz.prog w=.ok (.int .i64 r) w:=by
 simp [binOp,Op.intArith,h,IntWalk.i64_in r hb]
theorem nC {w:World} {u v r:Int} (t:TypeId) (h:u - v=r) (hb:-9223372036854775808<=r/\r<=9223372036854775807):(binOp .sub t (.int .i64 u) (.int .i64 v)).run Tryz.prog w=.ok (.int .i64 r) w:=by
 simp [binOp,Op.intArith,h,IntWalk.i64_in r hb]
theorem JA {w:World} {u v r:Int} (t:TypeId) (hv:v≠0) (h:u.tdiv v=r) (hb:-9223372036854775808<=r/\r<=9223372036854775807):(binOp .quo t (.int .i64 u) (.int .i64 v)).run Tryz.prog w=.ok (.int .i64 r) w:=by
 simp [binOp,Op.intDiv,hv,h,IntWalk.i64_in r hb]
theorem eM {w:World} {u v:Int} {b:Bool} (t:TypeId) (h:decide (u=v)=b):(binOp .eql t (.int .i64 u) (.int .i64 v)).run Tryz.prog w=.ok (.bool b) w:=by
 subst h;simp [binOp,Op.intCmp];rfl
theorem bA {w:World} {u v:Int} {b:Bool} (t:TypeId) (h:decide (v<u)=b):(binOp .gtr t (.int .i64 u) (.int .i64 v)).run Tryz.prog w=.ok (.bool b) w:=by
 subst h;simp [binOp,Op.intCmp]
theorem bw {o:Oper} {a:Act} {w:World} (x:Operand) (t:TypeId) (b:Bool) (ho:o.op=.unOp .not t x) (hx:a.eval x=.bool b):(execOp a.eval o).run Tryz.prog w=.ok (.value (.bool !b)) w:=by
 have h1:(Op.unary .not (.bool b)).run Tryz.prog w=.ok (.bool !b) w:=by
  simp [Op.unary]
 unfold execOp;simp only [ho,hx,Sem.run_bind,Sem.run_pure,h1,Result.andThen_ok]
theorem Fy {o:Oper} {a:Act} {w:World} (x y z:Operand) (ho:o.op=.pick x y z) (hx:a.eval x=.bool false) (hz:a.eval z=v):(execOp a.eval o).run Tryz.prog w=.ok (.value v) w:=by
 unfold execOp;simp [ho,hx,hz,asBool]
theorem ee {o:Oper} {a:Act} {w:World} (e:TypeId) (x:Operand) (t:TypeId) (ho:o.op=.call { callee:=.builtin .len,args:=#[x],argTypes:=#[t] }) (ht:Tryz.prog.underlying t=some (.slice e)) (ad:Option Addr) (n c:Nat) (hx:a.eval x=.slice ad n c):(execOp a.eval o).run Tryz.prog w=.ok (.value (.int .i64 (n:Int))) w:=by
 have hw:goInt (n:Int)=.int .i64 (n:Int):=rfl;unfold execOp;simp [ho,hx,resolve,invoke,builtin,Builtin.len_,run_underlying ht,Result.andThen,hw]
theorem kT {P:Program} {ops:Array Oper} {rest:List Oper} {o:Oper} {a:Act} {w:World} {Q:Exit->Act->World->Prop} (d:Option Tmp) (hw:Region.wanted o (yielded ops a.tmps)=false) (hd:o.dst=d)
  (h:wpList P ops Q rest (a.put d undef) w):wpList P ops Q (o :: rest) a w:=by
 subst hd;unfold wpList;rw [if_neg (by rw [hw]; decide)];exact h
theorem mi {w:World} {a:Addr} (h:w.cell? a=some v):a.spot=none:=by
 unfold World.cell? at h
 split at h
 ·split at h
  ·cases h
  ·rename_i hs; simpa using hs
 ·cases h
theorem n_ {a:Addr} {b o:Nat} (h:a=⟨b,o,none⟩) (i:Nat):a.add i=⟨b,o+i,none⟩:=by
 subst h;unfold Addr.add
 split
 ·rename_i h0; subst h0; rfl
 ·rfl
theorem PV:Tryz.prog.cellsOf 27=1:=by kernel_rfl
theorem yU:Tryz.prog.cellsOf 3=1:=by kernel_rfl
theorem dU {w:World} {a:Addr} (h:w.cell? a=some v):a.block<w.heap.size:=by
 unfold World.cell? at h
 split at h
 ·rename_i hh; exact (Array.getElem?_eq_some_iff.1 hh).1
 ·cases h
end Go.Proofs.YtpedbljnhnoohaaGreat
namespace Go.Proofs.Rg
section
open Go.RowKit
theorem _root_.d9 {P : Program} {ops : Array Oper} {rest : List Oper} {o : Oper} {a : Act} {w:World} {Q : Exit -> Act -> World -> Prop} (d : Nat) (hr : (execOp a.eval o).run P w = .ok (.value v) w') (h : wpList P ops Q rest (a.put (some d) v) w') (hw : Region.wanted o (yielded ops a.tmps) = true := by exact rfl) (hd : o.dst = some d := by exact rfl) : wpList P ops Q (o :: rest) a w := Go.Proofs.YtpedbljnhnoohaaGreat.s5 (some d) hw hd hr h
theorem _root_.f4 {P : Program} {ops : Array Oper} {rest : List Oper} {o : Oper} {a : Act} {w : World} {Q : Exit -> Act -> World -> Prop} (d : Nat) {f : FuncId} {args : Array Value} (hr : (execOp a.eval o).run P w = .ok (.enter f args) w) (hc : Calls P f args w fun e w' => ∃ v, e = .returned v /\ wpList P ops Q rest (a.put (some d) v) w') (hg : o.guard = none := by exact rfl) (hd : o.dst = some d := by exact rfl) : wpList P ops Q (o :: rest) a w := Go.Proofs.YtpedbljnhnoohaaGreat.NI (some d) hg hd f args hr hc
theorem _root_.f7 {p : Prop} [Decidable p] (h : p := by omega) : decide p = true := decide_eq_true h
theorem _root_.f8 {p : Prop} [Decidable p] (h : ¬ p := by omega) : decide p = false := decide_eq_false h
end
section
open Go.RowKit Go.Proofs.YtpedbljnhnoohaaGreat
theorem _root_.f9 {P : Program} {ops : Array Oper} {rest : List Oper} {o : Oper} {a : Act} {w : World} {Q : Exit -> Act -> World -> Prop} (d : Nat) (h : wpList P ops Q rest (a.put (some d) undef) w) (hw : Region.wanted o (yielded ops a.tmps) = false := by kernel_rfl) (hd : o.dst = some d := by exact rfl) : wpList P ops Q (o :: rest) a w := kT (some d) hw hd h
theorem _root_.g7 (v : Value) (p : Addr) {P : Program} {o : Oper} {a : Act} {w : World} {t : TypeId} {x : Operand} (hr : (loadVar t p).run P w = .ok v w) (ho : o.op = .load t x := by exact rfl) (hx : a.eval x = .pointer (some p) := by exact rfl) : (execOp a.eval o).run P w = .ok (.value v) w := eK (v := v) t x ho p hx hr
theorem _root_.g8 (R : Value) (op : BinOp) {o : Oper} {a : Act} {w : World} {u v : Int} {t : TypeId} {x y : Operand} (ho : o.op = .binOp op t x y t := by exact rfl) (hx : a.eval x = .int .i64 u := by exact rfl) (hy : a.eval y = .int .i64 v := by exact rfl) (h : (binOp op t (.int .i64 u) (.int .i64 v)).run Tryz.prog w = .ok R w) : (execOp a.eval o).run Tryz.prog w = .ok (.value R) w := cg op t x y ho hx hy h
theorem _root_.g9 {o : Oper} {a : Act} {w : World} {e : TypeId} {x : Operand} {t : TypeId} (ht : Tryz.prog.underlying t = some (.slice e)) {ad : Option Addr} {c:Nat} (ho : o.op = .call { callee := .builtin .len, args := #[x], argTypes := #[t] } := by exact rfl) (hx : a.eval x = .slice ad n c := by exact rfl) : (execOp a.eval o).run Tryz.prog w = .ok (.value (.int .i64 (n : Int))) w := ee e x t ho ht ad n c hx
theorem _root_.i7 (v : Value) {o : Oper} {a : Act} {w : World} {x y z : Operand} (ho : o.op = .pick x y z := by exact rfl) (hx : a.eval x = .bool false := by exact rfl) (hz : a.eval z = v := by exact rfl) : (execOp a.eval o).run Tryz.prog w = .ok (.value v) w := Fy x y z ho hx hz
theorem _root_.i8 (v : Value) {o : Oper} {a : Act} {w : World} {x y z : Operand} (ho : o.op = .pick x y z := by exact rfl) (hx : a.eval x = .bool true := by exact rfl) (hy : a.eval y = v := by exact rfl) : (execOp a.eval o).run Tryz.prog w = .ok (.value v) w := kS x y z ho hx hy
theorem _root_.i9 (v : Value) {o : Oper} {a : Act} {w : World} {x : Operand} {i : Nat} {vs : Array Value} (ho : o.op = .extract x i := by exact rfl) (hx : a.eval x = .tuple vs := by exact rfl) (hv : vs[i]? = some v := by exact rfl) : (execOp a.eval o).run Tryz.prog w = .ok (.value v) w := bU x i ho hx hv
theorem _root_.j0 {P : Program} {md : Region.Mode} {ops : Array Oper} {Q : Exit -> Act -> World -> Prop} {T T2 : World -> Prop} {oi : Oper} {l : Array Bool} {a : Act} {w : World} (i t : Nat) (v : Value) (d : Nat) (hi : ops[i]? = some oi) (hd : oi.dst = some d) (hy : YieldsIf P ops T oi v a) (hS : aK t T T2 l w) (h : Any P md ops Q (aK t T T2) n (l.setIfInBounds i true) (a.put (some d) v) w)
    (hs : Region.noSelect ops = true := by kernel_rfl) (hf : Region.free md ops l i = true := by kernel_rfl) (hr : (Region.ready md ops l).contains i = true := by kernel_rfl) (hQ : ∀ c a w, Q (.panic c) (a.put (some d) v) w -> Q (.panic c) a w := by exact fun _ _ _ h => h) (p6 : (t == i) = false := by exact rfl) (hw : Region.waitsFor md ops t i = true := by kernel_rfl) (hl : l.getD t false = false := by exact rfl) : Any P md ops Q (aK t T T2) (n + 1) l a w := Any.Xc (some d) hi hd hs hf hr hQ p6 hw hl hy hS h
theorem _root_.j1 {P : Program} {md : Region.Mode} {ops : Array Oper} {Q : Exit -> Act -> World -> Prop} {S : Array Bool -> World -> Prop} {oi : Oper} {l : Array Bool} {a : Act} {w:World} (i d : Nat) (hi : ops[i]? = some oi) (hd : oi.dst = some d) (hr : (execOp a.eval oi).run P w = .ok (.value v) w') (hS : S (l.setIfInBounds i true) w') (h : Any P md ops Q S n (l.setIfInBounds i true) (a.put (some d) v) w') (hw : Region.wanted oi (yielded ops a.tmps) = true := by exact rfl) (hre : Region.ready md ops l = [i] := by kernel_rfl) : Any P md ops Q S (n + 1) l a w := Any.one hre (Any.run (some d) hi hd hw hr hS h)
theorem _root_.j2 (ad : Addr) {P : Program} {ops : Array Oper} {o : Oper} {a : Act} {T : World -> Prop} {t : TypeId} {x : Operand} (hr : ∀ w, T w -> (loadVar t ad).run P w = .ok v w) (hg : Region.wanted o (yielded ops a.tmps) = true := by exact rfl) (ho : o.op = .load t x := by exact rfl) (hx : a.eval x = .pointer (some ad) := by exact rfl) : YieldsIf P ops T o v a := DH t x hg ho ad hx hr

theorem _root_.j3 {P : Program} {ops : Array Oper} {o : Oper} {a : Act} {T : World -> Prop} (h : ∀ w, (execOp a.eval o).run P w = .ok (.value v) w) (hg : Region.wanted o (yielded ops a.tmps) = true := by exact rfl) : YieldsIf P ops T o v a := .inl ⟨hg, fun w _ => h w⟩

def _root_.j5 (a : Act) (o : Oper) : Option Value := match o.op with
  | .move x => some (a.eval x)
  | .assign x => some (a.eval x)
  | _ => none
theorem _root_.j6 (v : Value) {P : Program} {ops : Array Oper} {rest : List Oper} {o : Oper} {a : Act} {w : World} {Q : Exit -> Act -> World -> Prop} (hx : j5 a o = some v) (h : wpList P ops Q rest (a.put o.dst v) w) (hw : Region.wanted o (yielded ops a.tmps) = true := by exact rfl) : wpList P ops Q (o :: rest) a w := by
  refine Go.Proofs.YtpedbljnhnoohaaGreat.s5 o.dst hw rfl (v := v) (w' := w) ?_ h;unfold j5 at hx
  split at hx
  . exact bQ (v := v) _ ‹_› (Option.some.inj hx)
  . exact cD (v := v) _ ‹_› (Option.some.inj hx)
  . cases hx
theorem _root_.j7 {P : Program} {ops : Array Oper} {rest : List Oper} {o : Oper} {a : Act} {w : World} {Q : Exit -> Act -> World -> Prop} {k : IntKind} {n : Int} (hx : j5 a o = some (.int k n)) (h : wpList P ops Q rest (a.put o.dst (.int k n)) w) (hw : Region.wanted o (yielded ops a.tmps) = true := by exact rfl) : wpList P ops Q (o :: rest) a w := j6 _ hx h hw
theorem _root_.j8 {P : Program} {ops : Array Oper} {rest : List Oper} {o : Oper} {a : Act} {w : World} {Q : Exit -> Act -> World -> Prop} {p : Option Addr} {c:Nat} (hx : j5 a o = some (.slice p n c)) (h : wpList P ops Q rest (a.put o.dst (.slice p n c)) w) (hw : Region.wanted o (yielded ops a.tmps) = true := by exact rfl) : wpList P ops Q (o :: rest) a w := j6 _ hx h hw
theorem _root_.j9 {P : Program} {ops : Array Oper} {rest : List Oper} {o : Oper} {a : Act} {w : World} {Q : Exit -> Act -> World -> Prop} {p : Option Addr} (hx : j5 a o = some (.pointer p)) (h : wpList P ops Q rest (a.put o.dst (.pointer p)) w) (hw : Region.wanted o (yielded ops a.tmps) = true := by exact rfl) : wpList P ops Q (o :: rest) a w := j6 _ hx h hw
theorem _root_.k7 {P : Program} {ops : Array Oper} {rest : List Oper} {o : Oper} {a : Act} {w : World} {Q : Exit -> Act -> World -> Prop} {b : Bool} (hx : j5 a o = some (.bool b)) (h : wpList P ops Q rest (a.put o.dst (.bool b)) w) (hw : Region.wanted o (yielded ops a.tmps) = true := by exact rfl) : wpList P ops Q (o :: rest) a w := j6 _ hx h hw
theorem _root_.k8 {P : Program} {ops : Array Oper} {rest : List Oper} {o : Oper} {a : Act} {w:World} {Q : Exit -> Act -> World -> Prop} (hr : (execOp a.eval o).run P w = .ok (.value v) w') (h : wpList P ops Q rest (a.put o.dst v) w') (hw : Region.wanted o (yielded ops a.tmps) = true := by exact rfl) : wpList P ops Q (o :: rest) a w := Go.Proofs.YtpedbljnhnoohaaGreat.s5 o.dst hw rfl hr h
end
end Go.Proofs.Rg
namespace Go.Proofs.Ob
abbrev En:=Nat × Int × Nat × List Nat
def DN (T:List En):List Nat:=T.map (·.1)
def Fz (gs:List (List Nat)) (s x:Nat):Nat:=(gs.getD s []).getD x 0
def il (gs:List (List Nat)) (e:En) (T:List En) (s:Nat):List En :=
 if Fz gs s e.1∈DN T then T else T++[(Fz gs s e.1,(e.1:Int),s+1,e.2.2.2++[s+1])]
def aaB (gs:List (List Nat)) (e:En) (T:List En) (n:Nat):List En:=(List.range n).foldl (il gs e) T
def UE (gs:List (List Nat)) (p:Nat):Nat->List En
 | 0=>[(p,-1,0,[])]
 | k+1=>match (UE gs p k)[k]? with
  | some e=>aaB gs e (UE gs p k) gs.length
  | none=>UE gs p k
def tree (gs:List (List Nat)) (D p:Nat):List En:=UE gs p D
theorem qx (T:List En):(DN T).length=T.length:=by simp [DN]
theorem FD (T:List En) (i:Nat) (h:i<(DN T).length):(DN T)[i]=(T[i]'(by rw [<- qx]; exact h)).1:=by simp [DN]
theorem iY {e:En} {T:List En} {s:Nat} (h:Fz gs s e.1∈DN T):il gs e T s=T:=by unfold il; rw [if_pos h]
theorem eX {e:En} {T:List En} {s:Nat} (h:Fz gs s e.1∉DN T):il gs e T s=T++[(Fz gs s e.1,(e.1:Int),s+1,e.2.2.2++[s+1])]:=by unfold il; rw [if_neg h]
def Cl (D:Nat) (gs:List (List Nat)):Prop:=∀ s,s<gs.length->∀ x,x<D->Fz gs s x<D
def JB (gs:List (List Nat)) (D:Nat) (w:List Nat):List Nat:=w.foldl (fun a g=>Ma.aq a (gs.getD (g - 1) [])) (Ma.bs D)
def wd (T:List En) (q:Nat):List Nat:=((T.find? fun e=>e.1 == q).map (·.2.2.2)).getD []

def sJ:List Int->Int->List Int
 | [],x=>[x]
 | a :: r,x=>if a<x then a :: sJ r x else x :: a :: r
def jB (l:List Int):List Int:=l.foldl sJ []
def PW (x y:Int):Bool:=decide (x<=y)
theorem s6:∀ (out:List Int) (x:Int),(sJ out x).Perm (x :: out)
 | [],x=>List.Perm.refl _
 | a :: r,x=>by
  show (if a<x then a :: sJ r x else x :: a :: r).Perm _
  split
  ·exact ((s6 r x).cons a).trans (List.Perm.swap x a r)
  ·exact List.Perm.refl _
theorem uH:∀ (out:List Int) (x:Int),out.Pairwise (·<=·)->(sJ out x).Pairwise (·<=·)
 | [],x,_=>by simp [sJ]
 | a :: r,x,h=>by
  rw [List.pairwise_cons] at h;show (if a<x then a :: sJ r x else x :: a :: r).Pairwise _
  split
  ·rename_i UF
   rw [List.pairwise_cons];refine ⟨fun y hy=>?_,uH r x h.2⟩
   rcases List.mem_cons.1 ((s6 r x).mem_iff.1 hy) with rfl | hy
   ·omega
   ·exact h.1 y hy
  ·rename_i UF
   rw [List.pairwise_cons,List.pairwise_cons];refine ⟨fun y hy=>?_,h.1,h.2⟩
   rcases List.mem_cons.1 hy with rfl | hy
   ·omega
   ·have:=h.1 y hy; omega
theorem rN:∀ (l out:List Int),out.Pairwise (·<=·)->(l.foldl sJ out).Perm (l++out)/\(l.foldl sJ out).Pairwise (·<=·)
 | [],out,h=>⟨List.Perm.refl _,h⟩
 | x :: l,out,h=>by
  obtain ⟨h1,h2⟩:=rN l (sJ out x) (uH out x h);refine ⟨h1.trans ?_,h2⟩;exact ((s6 out x).append_left l).trans (List.perm_middle)
theorem uI:∀ {l l':List Int},l.Perm l'->l.Pairwise (·<=·)->l'.Pairwise (·<=·)->l=l'
 | [],l',h,_,_=>(List.nil_perm.1 h).symm▸rfl
 | a :: r,[],h,_,_=>by simp at h
 | a :: r,b :: r',h,h1,h2=>by
  rw [List.pairwise_cons] at h1 h2
  have e1:a<=b:=by
   rcases List.mem_cons.1 (h.mem_iff.2 (List.mem_cons_self ..):b∈a :: r) with e | hb
   ·omega
   ·exact h1.1 b hb
  have e2:b<=a:=by
   rcases List.mem_cons.1 (h.mem_iff.1 (List.mem_cons_self ..):a∈b :: r') with e | hb
   ·omega
   ·exact h2.1 a hb
  obtain rfl:a=b:=by omega
  rw [uI ((List.perm_cons a).1 h) h1.2 h2.2]
theorem wI (l:List Int):jB l=l.mergeSort PW:=by
 obtain ⟨h1,h2⟩:=rN l [] List.Pairwise.nil;rw [List.append_nil] at h1;refine uI (h1.trans (List.mergeSort_perm l PW).symm) h2 ?_;have:=List.pairwise_mergeSort (le:=PW) (fun a b c h h'=>by unfold PW at *; rw [decide_eq_true_iff] at *; omega) (fun a b=>by unfold PW; simp; omega) l;exact this.imp (fun h=>of_decide_eq_true h)
end Go.Proofs.Ob
namespace Go.Proofs.YtpedbljnhnoohaaGreat
open Go.RowKit
open Go.Proofs
section
attribute [local irreducible] Go.Calls
theorem o_ (v1 v2:Value) (a c:List Nat) (w:World) (h:Rg.NP w v1 a) (h':Rg.NP w v2 c) (PX:∀ x∈a,x<c.length) (hn:a.length<=1000) (h1:1<=a.length) (h2:1<=c.length) :
  Calls Tryz.prog 143 #[v1,v2] w fun e w'=>∃ v,e=.returned v/\Rg.oZ w w' v (Ma.aq a c)/\BE w w':=by
 obtain ⟨ad,cap,rfl,hc,_,_,aP⟩:=h.shape;obtain ⟨b,o,rfl,hb,hr⟩:=aP (by omega);obtain ⟨Bj,lH,rfl,gI,_,_,dy⟩:=h'.shape;obtain ⟨b2,o2,rfl,dh,ig⟩:=dy (by omega);have Hr:=U hr;have Xe:=U ig;have Xf:=U PX;clear hr aP h ig dy h' PX;have h_:=o8 a.length (by omega) w;have bH:=U (World.rowIs_made w (.int .i64 0) a.length 3)
 go_enter Tryz.func143,Tryz.ntmps143
 go_wp2;clear h_
 go_loopw [13] (fun i wr=>∃ k:Nat,k<=a.length/\i=.int .i64 k/\Hid (wr.rowIs w.heap.size 3 a.length (fun j=>.int .i64 (if j<k then ((c.getD (a.getD j 0) 0:Nat):Int) else 0)))/\BE w wr) (fun i _=>a.length - (intOf i).toNat)
 case atStart=>exact ⟨0,by omega,rfl,bH.u.congr (fun i hi=>by simp),(Below.refl _ _).alloc (Nat.le_refl _) _⟩
 case round =>
  obtain ⟨k,hk,rfl,hs,cu⟩:=hrel;obtain ⟨hc,hf⟩:=Rg.sX cu
  by_cases az:k<a.length
  ·have e0:wr.cell? ⟨b,o+k,none⟩=some (.int .i64 ((a[k]:Nat):Int)):=(hc b (o+k) hb).trans (Hr.u k az)
   have zd:a[k]<c.length:=Xf.u _ (List.getElem_mem az);have DO:a.getD k 0=a[k]:=Ma.getD_lt az
   have e1:wr.cell? ⟨b2,o2+a[k],none⟩=some (.int .i64 ((c.getD (a.getD k 0) 0:Nat):Int)):=by
    rw [DO,Ma.getD_lt zd];exact (hc b2 (o2+a[k]) dh).trans (Xe.u a[k] zd)
   generalize a[k]=x at *;have Hga:=U DO;generalize hy:c.getD (a.getD k 0) 0=y at *;have Hy:=U hy;clear hc hf DO hy;have c1:=hs.u.cell az;have f1:=hs.u.frozen k;simp only [Nat.lt_irrefl,if_false] at c1;go_wp2;go_roundw
   case rel =>
    refine ⟨k+1,by omega,by go_num,?_,cu.setCell (Nat.le_refl _) _⟩;refine (hs.u.set k _).congr fun i hi=>?_
    by_cases e:i=k
    ·subst e; rw [if_pos rfl,if_pos (by omega),Hy.u]
    ·rw [if_neg e]
     by_cases e2:i<k
     ·rw [if_pos e2,if_pos (by omega)]
     ·rw [if_neg e2,if_neg (by omega)]
   case measure=>simp [intOf]; omega
  ·obtain rfl:k=a.length:=by omega
   go_wp2;go_ret;refine ⟨_,rfl,⟨Rg.NP.iD hs.u (by rw [Ma.cW]) (by omega) (fun i hi=>?_),Rg.eW.mk _ _ _ _⟩,by assumption⟩;rw [Ma.wz];rw [Ma.cW] at hi;rw [if_pos hi,Ma.getD_lt hi]
theorem Cv {a c:List Nat} (ha:Ma.kP a) (hc:Ma.kP c) (h1:1<=a.length) (h2:a.length<=64) (hl:a.length=c.length):Ma.xF [Ma.ah a,Ma.ah c]=0:=by
 have e1:=Cs ha h1 h2;have e2:=Cs hc (by omega) (by omega)
 have e3:(Ma.ah c).length=(Ma.ah a).length:=by rw [Ma.aB,Ma.aB]; omega
 simp [Ma.xF,Ma.df,Ma.pU,e1,e2,e3]
theorem FE (v1 v2:Value) (a c:List Nat) (w:World) (h:Rg.NP w v1 a) (h':Rg.NP w v2 c) (ha:Ma.kP a) (hc:Ma.kP c) (hl:a.length=c.length) (h1:1<=a.length) (h2:a.length<=64) :
  Calls Tryz.prog 113 #[v1,v2] w fun e w'=>∃ v,e=.returned (.tuple #[v,.int .i64 0])/\Rg.oZ w w' v (Ma.aq a c)/\BE w w':=by
 have hz:=U (Cv ha hc h1 h2 hl);have HL:=U hl;clear hl;have hv:=h;have hv':=h';obtain ⟨ad,cap,rfl,_⟩:=h.shape;obtain ⟨Bj,lH,rfl,_⟩:=h'.shape;have iP:=uF w (.slice ad a.length cap) (.slice Bj c.length lH) ⟨_,_,_,rfl⟩ ⟨_,_,_,rfl⟩;have ky:BE w (w.alloc (.cells #[.slice ad a.length cap,.slice Bj c.length lH] 27)):=(Below.refl _ _).alloc (Nat.le_refl _) _;have lx:=Rg.Rows.two 27 hv hv'
 go_enter Tryz.func113,Tryz.ntmps113
 go_upto_region 1 with fail;refine c6<|j8 rfl<|j8 rfl<|k8 (uG _ _ rfl rfl rfl iP) ?_;go_frame;refine f4 10 (aA 142 _ _ rfl rfl (by kernel_rfl)) ?_;refine (Cr lx (Nat.le_succ 1) hz ky).mono ?_;rintro e w1 ⟨rfl,bZ⟩;refine ⟨_,rfl,?_⟩;go_frame;refine j7 rfl ?_;go_frame;clear iP ky lx
 go_wp2_with (go_at_call 143; refine (o_ _ _ a c _ (hv.p bZ) (hv'.p bZ) (fun x hx=>by have:=ha.1 x hx; have:=HL.u; omega) (by omega) h1 (by have:=HL.u; omega)).mono ?_; rintro e w2 ⟨v2,rfl,UG,dh⟩)
 go_ret2;exact ⟨_,rfl,⟨UG.1,UG.2.mono bZ.size⟩,Rg.acc bZ dh⟩

theorem FF (v:Value) (l:List Int) (x:Int) (w:World) (h:Rg.Ints w v l) :
  Calls Tryz.prog 41 #[v,.int .i64 x] w fun e w'=>e=.returned (.bool (decide (x∈l)))/\BE w w':=by
 obtain ⟨ad,cap,rfl,_,Bk,_,aP⟩:=h.shape;have Hc:=U aP;clear aP h
 go_enter Tryz.func41,Tryz.ntmps41
 go_wp2
 go_loopw [5] (fun i wr=>∃ k:Nat,k<=l.length/\i=.int .i64 k/\Hid (x∉l.take k)/\Hid (BE w wr)) (fun i _=>l.length - (intOf i).toNat)
 case atStart=>exact ⟨0,by omega,rfl,U (by simp),U (Below.refl _ _)⟩
 case round =>
  obtain ⟨k,hk,rfl,hs,cu⟩:=hrel
  by_cases az:k<l.length
  ·obtain ⟨b,o,rfl,hb,hc⟩:=Hc.u (by omega)
   have c0:=(cu.u.cell (p:=⟨b,o+k,none⟩) hb).trans (hc k az);obtain ⟨y,hy⟩:∃ y,Hid (y=l[k]):=⟨_,U rfl⟩;rw [<- hy.u] at c0
   have b_:(k:Int)<(l.length:Int):=by omega
   clear hc hb
   by_cases he:y=x
   ·have hm:decide (x∈l)=true:=by rw [decide_eq_true_iff,<- he,hy.u]; exact List.getElem_mem az
    have HM:=U hm;clear hm
    have e1:(y == x)=true:=by simp [he]
    go_wp2;go_ret;exact ⟨by rw [HM.u]; rfl,cu.u⟩
   ·have e1:(y == x)=false:=by simp [he]
    have HE:=U he;go_wp2;go_roundw
    case rel =>
     refine ⟨k+1,by omega,by go_num,U ?_,cu⟩;rw [List.take_succ_eq_append_getElem az,List.mem_append]
     rintro (hm | hm)
     ·exact hs.u hm
     ·rw [List.mem_singleton] at hm
      exact HE.u (hy.u.trans hm.symm)
    case measure=>simp [intOf]; omega
  ·obtain rfl:k=l.length:=by omega
   have hm:decide (x∈l)=false:=by rw [decide_eq_false_iff_not]; have:=hs.u; rwa [List.take_length] at this
   have HM:=U hm;clear hm;go_wp2;go_ret;exact ⟨by rw [HM.u]; rfl,cu.u⟩
end
section
open Go.Proofs.Ob
attribute [local irreducible] Go.Calls
theorem bh {o:Oper} {a:Act} {w:World} {ad:Addr} (x:Operand) (ho:o.op=.nilCheck x) (hx:a.eval x=.pointer (some ad)):(execOp a.eval o).run Tryz.prog w=.ok (.value (.pointer (some ad))) w:=by
 unfold execOp;simp only [ho,hx,Sem.run_pure]
theorem aw {o:Oper} {a:Act} {w:World} {t:TypeId} {i:Nat} {r:Value} (x:Operand) (ho:o.op=.fieldAddr t x i) (hx:a.eval x=v) (h:(Instr.fieldAt t v i).run Tryz.prog w=.ok r w):(execOp a.eval o).run Tryz.prog w=.ok (.value r) w:=by
 unfold execOp;simp only [ho,hx,Sem.run_bind,Sem.run_pure,h,Result.andThen_ok]
theorem bB {o:Oper} {a:Act} {w:World} {t e:TypeId} (x y:Operand) (ho:o.op=.indexAddr t x y) (hu:Tryz.prog.underlying t=some (.array n e)) (cR:(Tryz.prog.info? e).map (·.size)=some 1) (b of i:Nat) (hx:a.eval x=.pointer (some ⟨b,of,none⟩)) (hy:a.eval y=.int .i64 (i:Int)) (hi:i<n) :
  (execOp a.eval o).run Tryz.prog w=.ok (.value (.pointer (some ⟨b,of+i,none⟩))) w:=by
 obtain ⟨ie,Jy,hs⟩:=Option.map_eq_some_iff.1 cR;have h1:(0:Int)<=(i:Int)/\(i:Int)<(n:Int):=⟨by omega,by omega⟩
 have hr:(Instr.indexAt t (.pointer (some ⟨b,of,none⟩)) (.int .i64 (i:Int))).run Tryz.prog w=.ok (.pointer (some ⟨b,of+i,none⟩)) w:=by
  simp [Instr.indexAt,asIntOf,run_underlying hu,sizeOf,typeInfo,Jy,hs,h1,Addr.add,Instr.sureAddr]
  first | done | rfl | (rw [if_pos hi]; split <;> simp_all)
 unfold execOp;simp only [ho,hx,hy,Sem.run_bind,Sem.run_pure,hr,Result.andThen_ok]
end
end Go.Proofs.YtpedbljnhnoohaaGreat
namespace Go.Proofs.Rg
open Go.RowKit Go.Proofs.YtpedbljnhnoohaaGreat
theorem _root_.j4 {o : Oper} {a : Act} {w : World} {t : TypeId} {i : Nat} {r:Value} {x : Operand} (h : (Instr.fieldAt t v i).run Tryz.prog w = .ok r w) (ho : o.op = .fieldAddr t x i := by exact rfl) (hx : a.eval x = v := by exact rfl) : (execOp a.eval o).run Tryz.prog w = .ok (.value r) w := aw x ho hx h
end Go.Proofs.Rg
namespace Go.Proofs.YtpedbljnhnoohaaGreat
open Go.RowKit
open Go.Proofs
open Go.Proofs.Ob
attribute [local irreducible] Go.Calls
theorem jH (X:World) (x:Int):(Instr.buildSlice 26 1 #[(0,.int .i64 x)]).run Tryz.prog X=.ok (.slice (some ⟨X.heap.size,0,none⟩) 1 1) (X.alloc (.cells #[.int .i64 x] 3)):=by
 obtain ⟨i0,hi,dw,bJ,dZ⟩:=info_parts wH;refine run_buildSlice X 26 3 1 _ _ i0 _ Tryz.underlying26 hi dw (by rw [bJ]; decide) (by rw [bJ]; decide) ?_;generalize (fun x=>((Value.int IntKind.i64 0).cells)[x % (Value.int IntKind.i64 0).cells.size]!)=f;rw [bJ];have h1:Array.range (1*1)=#[0]:=rfl;simp [Instr.fill,Value.cells,h1]
theorem dS {w:World} {b o:Nat} {u:Value} (v:Int) (h:w.cell? ⟨b,o,none⟩=some u) (hf:w.frozen? ⟨b,o,none⟩=false) :
  (storeVar 3 ⟨b,o,none⟩ (.int .i64 v)).run Tryz.prog w=.ok () (w.setCell ⟨b,o,none⟩ (.int .i64 v)):=by
 obtain ⟨i0,hi,dw,bJ,dZ⟩:=info_parts wH
 have h0:(⟨b,o,none⟩:Addr).add 0=⟨b,o,none⟩:=by simp [Addr.add]
 simp [storeVar,sizeOf,typeInfo,hi,bJ,Value.cells,storeCells,store,h0];simp [Sem.run,h,hf]

theorem fe {P:Program} {t e:TypeId} (T:Rg.se P t e z bytes) (ty:TypeId) {u:Value} (gH:X.ownsRow B e 1 v n xs) (hX:B<=X.heap.size) (p c:Nat)
  (hu:X.cell? ⟨p,0,none⟩=some u) (h1:u.oneCell'=true) (hn:n<1000000) :
  ∃ v' X',(Builtin.append_ #[t,t] ty #[v,.slice (some ⟨p,0,none⟩) 1 c]).run P X=.ok v' X'/\X'.ownsRow B e 1 v' (n+1) (xs++[u])/\X.grownBy X' v.ownBlock/\(v'.ownBlock=v.ownBlock∨v'.ownBlock=some X.heap.size)/\∃ a c,v'=.slice a (n+1) c:=by
 obtain ⟨i0,hi,dw,bJ,dZ⟩:=info_parts T.info
 obtain ⟨v',w',hr,h2,h3,h4,h5⟩:=run_append_own_at (P:=P) X B t ty e i0 z 1 bytes T.ty hi dw bJ dZ T.zc (by decide) v n xs gH ⟨p,0,none⟩ 1 c [u] rfl (fun j x hj=>by
  obtain rfl:j=0:=by have:=(List.getElem?_eq_some_iff.1 hj).1; simpa using this
  simp at hj; subst hj
  rw [show (⟨p,0,none⟩:Addr).add 0=⟨p,0,none⟩ from rfl]; exact hu) (by simpa using h1) (by unfold maxLen; omega) (by have:(n+1)*bytes<=1000000*64:=Nat.mul_le_mul (by omega) T.small; omega) hX
 exact ⟨v',w',hr,h2,h3,h5,Rg.cQ h2⟩
theorem ag {o:Oper} {a:Act} {w:World} {t e:TypeId} (T:Rg.se Tryz.prog t e z bytes) (x y:Operand) (ho:o.op=.indexAddr t x y) (b of len cap i:Nat) (hx:a.eval x=.slice (some ⟨b,of,none⟩) len cap) (hy:a.eval y=.int .i64 (i:Int)) (hi:i<len) :
  (execOp a.eval o).run Tryz.prog w=.ok (.value (.pointer (some ⟨b,of+i,none⟩))) w:=by
 have:=Rg.uB T w b of len cap i hi;unfold execOp;simp only [ho,hx,hy,Sem.run_bind,Sem.run_pure,Result.andThen_ok,this]
theorem PY:(Tryz.prog.info? 3).map (·.size)=some 1:=by kernel_rfl

def GG (d:Nat) (gs:List (List Nat)):Prop:=∀ s∈gs,Ma.kP s/\s.length=d
theorem PZ {s:Nat} (hs:s<gs.length):gs.getD s []=gs[s]:=by
 rw [List.getD_eq_getElem?_getD,List.getElem?_eq_getElem hs,Option.getD_some]
theorem P0 {s x:Nat} (hs:s<gs.length) (hx:x<gs[s].length):Fz gs s x=gs[s][x]:=by
 unfold Fz;rw [PZ hs,Ma.getD_lt hx]
theorem GG.cl (h:GG D gs):Cl D gs:=fun s hs x hx=>by
 obtain ⟨h1,h2⟩:=h _ (List.getElem_mem hs);rw [P0 hs (by omega)];have:=h1.1 _ (List.getElem_mem (show x<gs[s].length by omega));omega
theorem mix:Tryz.prog.follows .mixedOrders=true:=by kernel_rfl

theorem NJ {P:Program} {t e:TypeId} (T:Rg.se P t e z bytes) (ty:TypeId) {u:Value} (gH:X.ownsRow B e 1 v n xs) (hX:B<=X.heap.size) (p c:Nat)
  (hu:X.cell? ⟨p,0,none⟩=some u) (h1:u.oneCell'=true) (hn:n<1000000) :
  ∃ v' X',(Builtin.append_ #[t,t] ty #[v,.slice (some ⟨p,0,none⟩) 1 c]).run P X=.ok v' X'/\X'.ownsRow B e 1 v' (n+1) (xs++[u])/\X.grownBy X' v.ownBlock/\(v'.ownBlock=v.ownBlock∨v'.ownBlock=some X.heap.size)/\(∃ a c,v'=.slice a (n+1) c) /\
   (∀ g,v.ownBlock=some g->∀ i,i<n->X'.cell? ⟨g,i,none⟩=X.cell? ⟨g,i,none⟩):=by
 obtain ⟨v',X',r1,r2,r3,r4,r5⟩:=fe T ty gH hX p c hu h1 hn;refine ⟨v',X',r1,r2,r3,r4,r5,fun g hg i hi=>?_⟩;obtain ⟨i0,ny,dw,bJ,dZ⟩:=info_parts T.info;have ho:=gH
 obtain ⟨hl,⟨rfl,_⟩ | ⟨g',cap,cur,rfl,hB,hh,hnc,Xg,ep,ht⟩⟩:=gH
 ·simp [Value.ownBlock] at hg
 ·have DP:g'=g:=by simpa [Value.ownBlock] using hg
  subst DP
  by_cases Xh:n+1<=cap
  ·have hR:=run_append_room (P:=P) X t ty e i0 T.ty ny g' n cap cur hh ⟨p,0,none⟩ 1 c [u] (by rw [bJ]; rfl) (fun j x hj=>by
    obtain rfl:j=0:=by have:=(List.getElem?_eq_some_iff.1 hj).1; simpa using this
    simp at hj; subst hj
    rw [show (⟨p,0,none⟩:Addr).add 0=⟨p,0,none⟩ from rfl]; exact hu) (by simpa using h1) Xh (by rw [bJ,ep]; simp; omega)
   rw [r1] at hR
   injection hR with e1 e2
   subst e1;have c1:=r2.cellAt (j:=i) (by omega);have c2:=ho.cellAt (j:=i) (by omega);rw [c1,c2,List.getElem?_append_left (by omega)]
  ·obtain rfl:n=cap:=by omega
   have hR:=Rg.NB (P:=P) T ty g' 0 n xs (by omega) (fun j hj=>by
    have c2:=ho.cellAt (j:=j) (by omega)
    rw [Nat.zero_add,c2,List.getElem?_eq_getElem hj]) p c hu hn
   obtain ⟨v2,X2,q1,_,q3,_⟩:=hR;rw [r1] at q1
   injection q1 with e1 e2
   subst e2;exact q3.cell (p:=⟨g',i,none⟩) (Array.getElem?_eq_some_iff.1 hh).1
def NK (l:List Int):List Value:=l.map (Value.int .i64)
theorem NL (l:List Int) (x:Int):NK (l++[x])=NK l++[.int .i64 x]:=by simp [NK]
structure T3 (B:Nat) (w:World) (v1 v2 v3:Value) (l1 l2 l3:List Int):Prop where
 o1:w.ownsRow B 3 1 v1 l1.length (NK l1)
 o2:w.ownsRow B 3 1 v2 l2.length (NK l2)
 o3:w.ownsRow B 3 1 v3 l3.length (NK l3)
 a12:Rg.jn v1 v2
 Xi:Rg.jn v1 v3
 a23:Rg.jn v2 v3
def Tmp (w:World) (p:Nat) (x:Int) (v1 v2 v3:Value):Prop:=p<w.heap.size/\w.cell? ⟨p,0,none⟩=some (.int .i64 x)/\v1.ownBlock≠some p/\v2.ownBlock≠some p/\v3.ownBlock≠some p
theorem T3.p {w:World} {v3:Value} {l3:List Int} (h:T3 B w v1 v2 v3 l1 l2 l3) (hb:BE w w'):T3 B w' v1 v2 v3 l1 l2 l3 :=
 ⟨Rg.bP h.o1 hb,Rg.bP h.o2 hb,Rg.bP h.o3 hb,h.a12,h.Xi,h.a23⟩
theorem Tmp.p {w:World} {p:Nat} {x:Int} {v3:Value} (h:Tmp w p x v1 v2 v3) (hb:BE w w'):Tmp w' p x v1 v2 v3 :=
 ⟨Nat.lt_of_lt_of_le h.1 hb.size,(hb.cell (p:=⟨p,0,none⟩) h.1).trans h.2.1,h.2.2⟩
theorem T3.tmp {w:World} {v3:Value} {l3:List Int} (h:T3 B w v1 v2 v3 l1 l2 l3) (x:Int):Tmp (w.alloc (.cells #[.int .i64 x] 3)) w.heap.size x v1 v2 v3 :=
 ⟨by simp,by rw [Rg.aW]; rfl,fun e=>by have:=(h.o1.lt _ e).2; omega,fun e=>by have:=(h.o2.lt _ e).2; omega,fun e=>by have:=(h.o3.lt _ e).2; omega⟩
theorem UH {v':Value} {s p:Nat} (h:v'.ownBlock=v.ownBlock∨v'.ownBlock=some s) (h1:v.ownBlock≠some p) (hp:p<s):v'.ownBlock≠some p:=by
 rcases h with h | h
 ·rw [h]; exact h1
 ·rw [h]; simp; omega
theorem T3.Mq {w:World} {v3:Value} {l3:List Int} (h:T3 B w v1 v2 v3 l1 l2 l3) (hB:B<=w.heap.size) {p:Nat} {x:Int} (hp:Tmp w p x v1 v2 v3) (hl:l1.length<1000000) (ty:TypeId) :
  ∃ a c X,(Builtin.append_ #[26,26] ty #[v1,.slice (some ⟨p,0,none⟩) 1 1]).run Tryz.prog w=.ok (.slice a (l1.length+1) c) X/\T3 B X (.slice a (l1.length+1) c) v2 v3 (l1++[x]) l2 l3/\w.heap.size<=X.heap.size /\
   (∀ p' x',Tmp w p' x' v1 v2 v3->Tmp X p' x' (.slice a (l1.length+1) c) v2 v3)/\(∀ g,v1.ownBlock=some g->∀ i,i<l1.length->X.cell? ⟨g,i,none⟩=w.cell? ⟨g,i,none⟩)/\(∀ {B0:Nat} {W0:World},B0<=B->Below B0 W0 w->Below B0 W0 X):=by
 obtain ⟨v',X,r1,r2,r3,r4,⟨a,c,rfl⟩,r6⟩:=NJ (P:=Tryz.prog) aQ ty h.o1 hB p 1 hp.2.1 rfl hl;refine ⟨a,c,X,r1,⟨by rw [NL,List.length_append]; exact r2,h.a12.keep h.o2 r3,h.Xi.keep h.o3 r3,h.a12.grow h.o2 r4 (Nat.le_refl _),h.Xi.grow h.o3 r4 (Nat.le_refl _),h.a23⟩,r3.size,fun p' x' ht=>?_,r6,fun h0 hb=>hb.grown r3 (by omega) (fun j hj=>by have:=(h.o1.lt j hj).1; omega)⟩;exact ⟨Nat.lt_of_lt_of_le ht.1 r3.size,r3.cell ht.2.1 (fun e=>ht.2.2.1 e.symm),UH r4 ht.2.2.1 ht.1,ht.2.2.2⟩

def Gd (d:Nat) (p:List Nat):Prop:=Ma.kP p/\p.length=d
theorem Gd.mul {d:Nat} {p q:List Nat} (h:Gd d p) (h':Gd d q):Gd d (Ma.aq p q):=⟨Ma.Cp h.1 h'.1 (h.2.trans h'.2.symm),by rw [Ma.cW]; exact h.2⟩
theorem Gd.one (D:Nat):Gd D (Ma.bs D):=⟨Ma.Cn D,Ma.fH D⟩
theorem Gd.inv {s:List Nat} (hs:Gd D s):Gd D (Ma.bf s):=⟨Ma.Co hs.1,by rw [Ma.dN]; exact hs.2⟩
theorem Gd.lt {a b:List Nat} (ha:Gd D a) (hb:Gd D b):∀ x∈a,x<b.length:=fun x hx=>by
 have:=ha.1.1 x hx; have:=ha.2; have:=hb.2; omega
def GA (w:World) (b D:Nat) (a:Option Addr) (gs:List (List Nat)) (c:Nat):Prop :=
 w.cell? ⟨b,0,none⟩=some (.int .i64 (D:Int))/\w.cell? ⟨b,1,none⟩=some (.slice a gs.length c)/\Rg.jq w (.slice a gs.length c) gs/\b<w.heap.size
theorem GA.c0 {w:World} {b:Nat} {a:Option Addr} {c:Nat} (h:GA w b D a gs c):w.cell? ⟨b,0,none⟩=some (.int .i64 ((D:Nat):Int)):=h.1
theorem GA.c1 {w:World} {b:Nat} {a:Option Addr} {c:Nat} (h:GA w b D a gs c):w.cell? ⟨b,1,none⟩=some (.slice a gs.length c):=h.2.1
theorem GA.rows {w:World} {b:Nat} {a:Option Addr} {c:Nat} (h:GA w b D a gs c):Rg.jq w (.slice a gs.length c) gs:=h.2.2.1
theorem GA.lt {w:World} {b:Nat} {a:Option Addr} {c:Nat} (h:GA w b D a gs c):b<w.heap.size:=h.2.2.2
theorem GA.p {w w':World} {b D:Nat} {a:Option Addr} {gs:List (List Nat)} {c:Nat} (h:GA w b D a gs c) (hb:BE w w'):GA w' b D a gs c :=
 ⟨(hb.cell (p:=⟨b,0,none⟩) h.lt).trans h.c0,(hb.cell (p:=⟨b,1,none⟩) h.lt).trans h.c1,Rg.jq.p h.rows hb,Nat.lt_of_lt_of_le h.lt hb.size⟩
theorem GA.new {w:World} {a:Option Addr} {c:Nat} (h:Rg.jq w (.slice a gs.length c) gs):GA (w.alloc (.cells #[.int .i64 (D:Int),.slice a gs.length c] 43)) w.heap.size D a gs c :=
 ⟨by rw [Rg.aW]; rfl,by rw [Rg.aW]; rfl,Rg.jq.p h ((Below.refl _ _).alloc (Nat.le_refl _) _),by simp⟩
theorem GA.gens {w:World} {b:Nat} {a:Option Addr} {c:Nat} (h:GA w b D a gs c) (h0:0<gs.length):∃ bg og,a=some ⟨bg,og,none⟩/\bg<w.heap.size/\∀ i (hi:i<gs.length),∃ u,w.cell? ⟨bg,og+i,none⟩=some u/\Rg.NP w u gs[i]:=by
 obtain ⟨ga,gc,e1,_,_,_,NN⟩:=h.rows.shape
 cases e1
 obtain ⟨bg,og,e2,hbg,Bl⟩:=NN h0;exact ⟨bg,og,e2,hbg,Bl⟩
end Go.Proofs.YtpedbljnhnoohaaGreat
namespace Go.Proofs.Cm
open Go.Proofs
def Gd (n:Nat) (p:List Nat):Prop:=Ma.kP p/\p.length=n
def ap (x:List Nat) (i:Nat):Nat:=x.getD i 0
theorem kz {x:List Nat} {i:Nat} (h:i<x.length):ap x i=x[i]:=by simp [ap,List.getD,List.getElem?_eq_getElem h]
theorem cS {x:List Nat} (h:Gd n x) {i:Nat} (hi:i<n):ap x i<n:=by
 have hl:i<x.length:=by rw [h.2]; exact hi
 rw [kz hl,<- h.2];exact h.1.1 _ (List.getElem_mem hl)
theorem kN {x:List Nat} (h:Gd n x) {i:Nat} (hi:i<n) (hj:j<n) (e:ap x i=ap x j):i=j:=by
 have h1:i<x.length:=by rw [h.2]; exact hi
 have h2:j<x.length:=by rw [h.2]; exact hj
 rw [kz h1,kz h2] at e;exact (List.getElem_inj h.1.2).1 e
theorem jI {a b:List Nat} (ha:a.length=n) (hb:b.length=n) (h:∀ i,i<n->ap a i=ap b i):a=b:=by
 apply List.ext_getElem (by omega)
 intro i h1 h2;have:=h i (by omega)
 rwa [kz h1,kz h2] at this
theorem iF (n:Nat):Gd n (Ma.bs n):=⟨Ma.Cn n,Ma.fH n⟩
theorem bm {a b:List Nat} (ha:Gd n a) (hb:Gd n b):Gd n (Ma.aq a b):=⟨Ma.Cp ha.1 hb.1 (ha.2.trans hb.2.symm),by rw [Ma.cW]; exact ha.2⟩
theorem aX {a:List Nat} (ha:Gd n a):Gd n (Ma.bf a):=⟨Ma.Co ha.1,by rw [Ma.dN]; exact ha.2⟩
theorem dz {i:Nat} (h:i<n):ap (Ma.bs n) i=i:=by
 rw [kz (by rw [Ma.fH]; exact h),Ma.wy]
theorem bL {a b:List Nat} (ha:Gd n a) {i:Nat} (h:i<n):ap (Ma.aq a b) i=ap b (ap a i):=by
 have hl:i<a.length:=by rw [ha.2]; exact h
 rw [kz (by rw [Ma.cW]; exact hl),Ma.wz,kz hl]; rfl
theorem fh {s:List Nat} (hs:Gd n s) {i:Nat} (h:i<n):ap (Ma.bf s) (ap s i)=i:=by
 have hl:i<s.length:=by rw [hs.2]; exact h
 have h2:=cS hs h;rw [kz (x:=Ma.bf s) (by rw [Ma.dN,hs.2]; exact h2),Ma.rM,kz hl];exact Ma.n5 hs.1 hl
theorem iZ {s:List Nat} (hs:Gd n s) {i:Nat} (h:i<n):ap s (ap (Ma.bf s) i)=i:=by
 have h1:=cS (aX hs) h;have h2:=fh (aX hs) h;refine kN (aX hs) (cS hs h1) h ?_;rw [fh hs h1]
theorem mul_assoc {a b c:List Nat} (ha:Gd n a) (hb:Gd n b):Ma.aq (Ma.aq a b) c=Ma.aq a (Ma.aq b c):=by
 refine jI (n:=n) (by rw [Ma.cW,Ma.cW]; exact ha.2) (by rw [Ma.cW]; exact ha.2) fun i hi=>?_;rw [bL (bm ha hb) hi,bL ha hi,bL ha hi,bL hb (cS ha hi)]
theorem one_mul {x:List Nat} (hx:Gd n x):Ma.aq (Ma.bs n) x=x :=
 jI (n:=n) (by rw [Ma.cW,Ma.fH]) hx.2 fun i hi=>by rw [bL (iF n) hi,dz hi]
theorem mul_one {x:List Nat} (hx:Gd n x):Ma.aq x (Ma.bs n)=x :=
 jI (n:=n) (by rw [Ma.cW]; exact hx.2) hx.2 fun i hi=>by rw [bL hx hi,dz (cS hx hi)]
theorem uJ {x:List Nat} (hx:Gd n x):Ma.aq x (Ma.bf x)=Ma.bs n :=
 jI (n:=n) (by rw [Ma.cW]; exact hx.2) (Ma.fH n) fun i hi=>by rw [bL hx hi,fh hx hi,dz hi]
theorem inv_mul {x:List Nat} (hx:Gd n x):Ma.aq (Ma.bf x) x=Ma.bs n :=
 jI (n:=n) (by rw [Ma.cW,Ma.dN]; exact hx.2) (Ma.fH n) fun i hi=>by rw [bL (aX hx) hi,iZ hx hi,dz hi]
theorem inv_one (n:Nat):Ma.bf (Ma.bs n)=Ma.bs n:=by
 have:=uJ (iF n)
 rwa [one_mul (aX (iF n))] at this
theorem mul_inv_cancel {x u:List Nat} (hx:Gd n x) (hu:Gd n u):Ma.aq (Ma.aq x (Ma.bf u)) u=x:=by
 rw [mul_assoc hx (aX hu),inv_mul hu,mul_one hx]
theorem jg {x u:List Nat} (hx:Gd n x) (hu:Gd n u):Ma.aq (Ma.aq x u) (Ma.bf u)=x:=by
 rw [mul_assoc hx hu,uJ hu,mul_one hx]
structure cz (n:Nat) (H:List Nat->Prop):Prop where
 gd:∀ x,H x->Gd n x
 one:H (Ma.bs n)
 mul:∀ x y,H x->H y->H (Ma.aq x y)
 inv:∀ x,H x->H (Ma.bf x)
inductive Gr (n:Nat) (gs:List Nat->Prop):List Nat->Prop
 | one:Gr n gs (Ma.bs n)
 | gen (s:List Nat) (h:gs s):Gr n gs s
 | mul (x y:List Nat) (hx:Gr n gs x) (hy:Gr n gs y):Gr n gs (Ma.aq x y)
 | inv (x:List Nat) (hx:Gr n gs x):Gr n gs (Ma.bf x)
theorem Gr.dE {gs:List Nat->Prop} (h:∀ s,gs s->Gd n s):cz n (Gr n gs):=by
 refine ⟨fun x hx=>?_,.one,fun x y=>.mul x y,fun x=>.inv x⟩
 induction hx with
 | one=>exact iF n
 | gen s hs=>exact h s hs
 | mul x y _ _ i1 i2=>exact bm i1 i2
 | inv x _ i1=>exact aX i1
theorem Gr.sub {gs:List Nat->Prop} (hH:cz n H) (h:∀ s,gs s->H s) {x:List Nat} (hx:Gr n gs x):H x:=by
 induction hx with
 | one=>exact hH.one
 | gen s hs=>exact h s hs
 | mul x y _ _ i1 i2=>exact hH.mul _ _ i1 i2
 | inv x _ i1=>exact hH.inv _ i1
theorem Gr.mono {gs gs':List Nat->Prop} (h:∀ s,gs s->gs' s) {x:List Nat} (hx:Gr n gs x):Gr n gs' x:=by
 induction hx with
 | one=>exact .one
 | gen s hs=>exact .gen s (h s hs)
 | mul x y _ _ i1 i2=>exact .mul _ _ i1 i2
 | inv x _ i1=>exact .inv _ i1
def Fx (i:Nat) (x:List Nat):Prop:=∀ j,j<i->ap x j=j
theorem Fx.mono {i:Nat} {x:List Nat} (h:Fx i x) (wJ:j<=i):Fx j x:=fun k hk=>h k (Nat.lt_of_lt_of_le hk wJ)
theorem Fx.one {i:Nat} (hi:i<=n):Fx i (Ma.bs n):=fun _ hj=>dz (Nat.lt_of_lt_of_le hj hi)
theorem Fx.mul {i:Nat} {x y:List Nat} (gx:Gd n x) (hi:i<=n) (hx:Fx i x) (hy:Fx i y):Fx i (Ma.aq x y):=fun j hj=>by
 rw [bL gx (Nat.lt_of_lt_of_le hj hi),hx j hj,hy j hj]
theorem Fx.inv {i:Nat} {x:List Nat} (gx:Gd n x) (hi:i<=n) (hx:Fx i x):Fx i (Ma.bf x):=fun j hj=>by
 have:=fh gx (Nat.lt_of_lt_of_le hj hi)
 rwa [hx j hj] at this
theorem Fx.all {x:List Nat} (gx:Gd n x) (hx:Fx n x):x=Ma.bs n :=
 jI gx.2 (Ma.fH n) fun i hi=>by rw [hx i hi,dz hi]
def St (H:List Nat->Prop) (i:Nat) (x:List Nat):Prop:=H x/\Fx i x
abbrev Tr:=Nat->Nat->Option (List Nat)
def Sd (n:Nat) (tr:Tr):Nat->List Nat->Prop
 | 0,x=>x=Ma.bs n
 | d+1,x=>∃ u,tr (n - (d+1)) (ap x (n - (d+1)))=some u/\Sd n tr d (Ma.aq x (Ma.bf u))
structure Rp (n lo:Nat) (tr:Tr):Prop where
 gd:∀ i p u,lo<=i->i<n->tr i p=some u->Gd n u
 fx:∀ i p u,lo<=i->i<n->tr i p=some u->Fx i u
 at_:∀ i p u,lo<=i->i<n->tr i p=some u->ap u i=p
 self:∀ i,lo<=i->i<n->tr i i=some (Ma.bs n)
theorem Sd.fx {n lo:Nat} {tr:Tr} (hr:Rp n lo tr):∀ {d:Nat} {x:List Nat},d<=n->lo<=n - d->Gd n x->Sd n tr d x->Fx (n - d) x
 | 0,x,hd,_,gx,h=>by
  cases h
  exact Fx.one (by omega)
 | d+1,x,hd,hl,gx,⟨u,hu,h⟩=>by
  have gu:=hr.gd _ _ _ hl (by omega) hu;have h1:=Sd.fx hr (by omega) (by omega) (bm gx (aX gu)) h;have h2:=mul_inv_cancel gx gu;have h3:=Fx.mul (i:=n - (d+1)) (bm gx (aX gu)) (by omega) (h1.mono (by omega)) (hr.fx _ _ _ hl (by omega) hu)
  rwa [h2] at h3
theorem Sd.one {n lo:Nat} {tr:Tr} (hr:Rp n lo tr):∀ {d:Nat},d<=n->lo<=n - d->Sd n tr d (Ma.bs n)
 | 0,_,_=>rfl
 | d+1,hd,hl=>⟨Ma.bs n,by rw [dz (by omega)]; exact hr.self _ hl (by omega),by rw [inv_one,one_mul (iF n)]; exact Sd.one hr (by omega) (by omega)⟩
theorem Sd.next {lo:Nat} {tr:Tr} (hr:Rp n lo tr) {d:Nat} (hd:d+1<=n) (hl:lo<=n - (d+1)) {x:List Nat} (gx:Gd n x) (hx:ap x (n - (d+1))=n - (d+1)):Sd n tr (d+1) x↔Sd n tr d x:=by
 have e:tr (n - (d+1)) (ap x (n - (d+1)))=some (Ma.bs n):=by rw [hx]; exact hr.self _ hl (by omega)
 constructor
 ·rintro ⟨u,hu,h⟩
  rw [e] at hu
  cases hu
  rwa [inv_one,mul_one gx] at h
 ·intro h
  exact ⟨_,e,by rw [inv_one,mul_one gx]; exact h⟩
theorem Sd.up {n lo:Nat} {tr:Tr} (hr:Rp n lo tr):∀ {k d:Nat},d+k<=n->lo<=n - (d+k)->∀ {x:List Nat},Gd n x->Fx (n - d) x->(Sd n tr (d+k) x↔Sd n tr d x)
 | 0,d,_,_,x,_,_=>Iff.rfl
 | k+1,d,h,hl,x,gx,hx=>by
  have h1:=Sd.next hr (d:=d+k) (by omega) hl gx (hx _ (by omega));exact h1.trans (Sd.up hr (by omega) (by omega) gx hx)
theorem Sd.cons {lo:Nat} {tr:Tr} (hr:Rp n lo tr) {d p:Nat} (hd:d+1<=n) (hl:lo<=n - (d+1)) {y u:List Nat} (gy:Gd n y) (hy:Sd n tr d y) (hu:tr (n - (d+1)) p=some u):Sd n tr (d+1) (Ma.aq y u):=by
 have gu:=hr.gd _ _ _ hl (by omega) hu;have fy:=Sd.fx hr (by omega) (by omega) gy hy
 have e:ap (Ma.aq y u) (n - (d+1))=p:=by
  rw [bL gy (by omega),fy _ (by omega),hr.at_ _ _ _ hl (by omega) hu]
 exact ⟨u,by rw [e]; exact hu,by rw [jg gy gu]; exact hy⟩
theorem Sd.mono {n:Nat} {tr tr':Tr}:∀ {d:Nat},(∀ i p u,n - d<=i->tr i p=some u->tr' i p=some u)->∀ {x:List Nat},Sd n tr d x->Sd n tr' d x
 | 0,_,_,e=>e
 | d+1,h,_,⟨u,hu,hs⟩=>⟨u,h _ _ _ (Nat.le_refl _) hu,Sd.mono (fun i p u hi=>h i p u (by omega)) hs⟩
structure wK (n lo:Nat) (gn:Nat->List Nat->Prop) (tr:Tr):Prop where
 rp:Rp n lo tr
 gd:∀ i s,lo<=i->i<n->gn i s->Gd n s
 low:∀ i s,lo<=i->i+1<n->gn (i+1) s->Gr n (gn i) s
 mem:∀ i p u,lo<=i->i<n->tr i p=some u->Gr n (gn i) u
 cl:∀ i p u s,lo<=i->i<n->tr i p=some u->gn i s->∃ v,tr i (ap s p)=some v/\Sd n tr (n - (i+1)) (Ma.aq (Ma.aq u s) (Ma.bf v))
theorem wK.sub {n lo:Nat} {gn:Nat->List Nat->Prop} {tr:Tr} (h:wK n lo gn tr) {i:Nat} (hl:lo<=i):∀ {k:Nat},i+k<n->∀ {x:List Nat},Gr n (gn (i+k)) x->Gr n (gn i) x
 | 0,_,x,hx=>hx
 | k+1,hk,x,hx=>h.sub hl (k:=k) (by omega) (Gr.sub (Gr.dE (fun s hs=>h.gd _ s (by omega) (by omega) hs)) (fun s hs=>h.low (i+k) s (by omega) (by omega) hs) hx)
theorem wK.gr {n lo:Nat} {gn:Nat->List Nat->Prop} {tr:Tr} (h:wK n lo gn tr) {i:Nat} (hl:lo<=i) (hi:i<n):∀ {d:Nat},i+d<=n->∀ {x:List Nat},Gd n x->Sd n tr d x->n - d≥i->Gr n (gn i) x
 | 0,_,x,_,e,_=>by cases e; exact .one
 | d+1,hd,x,gx,⟨u,hu,hs⟩,uK=>by
  have gu:=h.rp.gd _ _ _ (by omega) (by omega) hu;have h1:=wK.gr h hl hi (d:=d) (by omega) (bm gx (aX gu)) hs (by omega)
  have h2:Gr n (gn i) u:=by
   have:=h.mem _ _ _ (by omega) (by omega) hu;exact h.sub hl (i:=i) (k:=n - (d+1) - i) (by omega) (by rwa [show i+(n - (d+1) - i)=n - (d+1) by omega])
  have:=Gr.mul _ _ h1 h2
  rwa [mul_inv_cancel gx gu] at this
def pw (n:Nat) (s:List Nat):Nat->List Nat
 | 0=>Ma.bs n
 | k+1=>Ma.aq (pw n s k) s
theorem ly {n:Nat} {s:List Nat} (hs:Gd n s):∀ k,Gd n (pw n s k)
 | 0=>iF n
 | k+1=>bm (ly hs k) hs
theorem Mr {n:Nat} {s:List Nat} (hs:Gd n s) (i:Nat):∀ j,pw n s (i+j)=Ma.aq (pw n s i) (pw n s j)
 | 0=>(mul_one (ly hs i)).symm
 | j+1=>by
  show Ma.aq (pw n s (i+j)) s=Ma.aq (pw n s i) (Ma.aq (pw n s j) s);rw [Mr hs i j,mul_assoc (ly hs i) (ly hs j)]
def xK (n:Nat):Nat->List (List Nat)
 | 0=>[[]]
 | k+1=>(xK n k).flatMap fun l=>(List.range n).map fun x=>x :: l
theorem Cw {n:Nat}:∀ {l:List Nat},(∀ x∈l,x<n)->l∈xK n l.length
 | [],_=>by simp [xK]
 | x :: l,h=>by
  have h1:=Cw (l:=l) (fun y hy=>h y (List.mem_cons_of_mem _ hy));have h2:=h x (List.mem_cons_self ..);rw [List.length_cons,xK,List.mem_flatMap];exact ⟨l,h1,List.mem_map.2 ⟨x,List.mem_range.2 h2,rfl⟩⟩
theorem UI {s:List Nat} (hs:Gd n s) (k:Nat):pw n s k∈xK n n:=by
 have h:=ly hs k;have:=Cw (n:=n) (l:=pw n s k) (fun x hx=>by rw [<- h.2]; exact h.1.1 x hx)
 rwa [h.2] at this
theorem Xj {s:List Nat} (hs:Gd n s):∃ i j,i<j/\pw n s i=pw n s j:=by
 by_cases h:∃ i j,i<j/\pw n s i=pw n s j
 ·exact h
 exfalso
 have hn:((List.range ((xK n n).length+1)).map (pw n s)).Nodup:=by
  rw [List.Nodup,List.pairwise_iff_getElem];intro i j hi hj wJ e;simp at e;exact h ⟨i,j,wJ,e⟩
 have:=List.Nodup.length_le_of_subset hn (l₂:=xK n n) (fun x hx=>by
  obtain ⟨k,_,rfl⟩:=List.mem_map.1 hx
  exact UI hs k)
 simp at this;omega
theorem UJ {s:List Nat} (hs:Gd n s):∃ k,Ma.bf s=pw n s k:=by
 obtain ⟨i,j,wJ,e⟩:=Xj hs;obtain ⟨k,rfl⟩:∃ k,j=i+(k+1):=⟨j - i - 1,by omega⟩;refine ⟨k,?_⟩
 have h1:pw n s (k+1)=Ma.bs n:=by
  rw [Mr hs] at e
  have e2:Ma.aq (Ma.bf (pw n s i)) (pw n s i)=Ma.aq (Ma.bf (pw n s i)) (Ma.aq (pw n s i) (pw n s (k+1))):=by rw [<- e]
  rw [inv_mul (ly hs i),<- mul_assoc (aX (ly hs i)) (ly hs i),inv_mul (ly hs i),one_mul (ly hs (k+1))] at e2;exact e2.symm
 have h2:Ma.aq (Ma.aq (pw n s k) s) (Ma.bf s)=Ma.aq (Ma.bs n) (Ma.bf s):=by rw [<- h1]; rfl
 rw [jg (ly hs k) hs,one_mul (aX hs)] at h2;exact h2.symm
theorem NR {gs:List Nat->Prop} (hg:∀ s,gs s->Gd n s) {P:List Nat->Prop} (hs:∀ x s,Gr n gs x->P x->gs s->P (Ma.aq x s)) :
  ∀ {x:List Nat},Gr n gs x->∀ y,Gr n gs y->P y->P (Ma.aq y x)/\P (Ma.aq y (Ma.bf x)):=by
 have G:=Gr.dE (n:=n) hg;intro x hx
 induction hx with
 | one=>intro y gy hy; rw [inv_one,mul_one (G.gd y gy)]; exact ⟨hy,hy⟩
 | gen s h =>
  intro y gy hy;refine ⟨hs y s gy hy h,?_⟩;obtain ⟨k,hk⟩:=UJ (hg s h);rw [hk]
  have:∀ k,Gr n gs (Ma.aq y (pw n s k))/\P (Ma.aq y (pw n s k)):=by
   intro k
   induction k with
   | zero=>show Gr n gs (Ma.aq y (Ma.bs n))/\P (Ma.aq y (Ma.bs n)); rw [mul_one (G.gd y gy)]; exact ⟨gy,hy⟩
   | succ k ih =>
    show Gr n gs (Ma.aq y (Ma.aq (pw n s k) s))/\P (Ma.aq y (Ma.aq (pw n s k) s));rw [<- mul_assoc (G.gd y gy) (ly (hg s h) k)];exact ⟨.mul _ _ ih.1 (.gen s h),hs _ s ih.1 ih.2 h⟩
  exact (this k).2
 | mul a b ha hb ia ib =>
  intro y gy hy
  have e:Ma.bf (Ma.aq a b)=Ma.aq (Ma.bf b) (Ma.bf a):=by
   have ga:=G.gd a ha;have gb:=G.gd b hb;refine jI (n:=n) (aX (bm ga gb)).2 (bm (aX gb) (aX ga)).2 fun i hi=>?_;rw [bL (aX gb) hi];have h1:=cS (aX gb) hi;have h2:=cS (aX ga) h1;refine kN (bm ga gb) (cS (aX (bm ga gb)) hi) h2 ?_;rw [iZ (bm ga gb) hi,bL ga h2,iZ ga h1,iZ gb hi]
  refine ⟨?_,?_⟩
  ·have:=(ib (Ma.aq y a) (.mul _ _ gy ha) (ia y gy hy).1).1
   rwa [mul_assoc (G.gd y gy) (G.gd a ha)] at this
  ·have:=(ia (Ma.aq y (Ma.bf b)) (.mul _ _ gy (.inv _ hb)) (ib y gy hy).2).2
   rwa [mul_assoc (G.gd y gy) (aX (G.gd b hb)),<- e] at this
 | inv a ha ia =>
  intro y gy hy
  have e:Ma.bf (Ma.bf a)=a:=by
   have ga:=G.gd a ha;refine jI (n:=n) (aX (aX ga)).2 ga.2 fun i hi=>?_;refine kN (aX ga) (cS (aX (aX ga)) hi) (cS ga hi) ?_;rw [iZ (aX ga) hi,fh ga hi]
  rw [e];exact ⟨(ia y gy hy).2,(ia y gy hy).1⟩
theorem Ms {gs:List Nat->Prop} (hg:∀ s,gs s->Gd n s) {P:List Nat->Prop} (h1:P (Ma.bs n)) (hs:∀ x s,Gr n gs x->P x->gs s->P (Ma.aq x s)) {x:List Nat} (hx:Gr n gs x):P x:=by
 have:=(NR hg hs hx _ .one h1).1
 rwa [one_mul ((Gr.dE hg).gd x hx)] at this
structure mj (n:Nat) (H:List Nat->Prop) (tr:Tr):Prop where
 rp:Rp n 0 tr
 mem:∀ i p u,i<n->tr i p=some u->H u
 all:∀ i x,i<n->St H i x->∃ u,tr i (ap x i)=some u
theorem wK.P1 {n lo:Nat} {gn:Nat->List Nat->Prop} {tr:Tr} (h:wK n lo gn tr):∀ {d:Nat},d<=n->lo<=n - d->(∀ y z,Gd n y->Gd n z->Sd n tr d y->Sd n tr d z->Sd n tr d (Ma.aq y z))/\(0<d->∀ x,Gr n (gn (n - d)) x->Sd n tr d x)
 | 0,_,_=>⟨fun y z _ gz hy hz=>by
   have za:y=Ma.bs n:=hy;have uL:z=Ma.bs n:=hz;show Ma.aq y z=Ma.bs n
   rw [za,uL,one_mul (iF n)],fun h=>by omega⟩
 | d+1,hd,hl=>by
  obtain ⟨ih,_⟩:=wK.P1 h (d:=d) (by omega) (by omega)
  have hi:n - (d+1)<n:=by omega
  have eH:∀ s,gn (n - (d+1)) s->Gd n s:=fun s hs=>h.gd _ s hl hi hs
  have key:∀ x,Gr n (gn (n - (d+1))) x->Sd n tr (d+1) x:=by
   intro x hx;refine Ms eH (P:=Sd n tr (d+1)) (Sd.one h.rp hd hl) ?_ hx;intro x s gx ⟨u,hu,hy⟩ hs;have Gx:=(Gr.dE eH).gd x gx;have gu:=h.rp.gd _ _ _ hl hi hu;have gs:=eH s hs;obtain ⟨v,hv,hq⟩:=h.cl _ _ _ _ hl hi hu hs;have gv:=h.rp.gd _ _ _ hl hi hv;rw [show n - (n - (d+1)+1)=d by omega] at hq;have gy:=bm Gx (aX gu);have gq:=bm (bm gu gs) (aX gv);have h1:=Sd.cons h.rp hd hl (bm gy gq) (ih _ _ gy gq hy hq) hv
   have e:Ma.aq (Ma.aq (Ma.aq x (Ma.bf u)) (Ma.aq (Ma.aq u s) (Ma.bf v))) v=Ma.aq x s:=by
    rw [mul_assoc gy gq,mul_inv_cancel (bm gu gs) gv,<- mul_assoc gy gu,mul_inv_cancel Gx gu]
   rwa [e] at h1
  refine ⟨fun y z gy gz hy hz=>key _ (.mul _ _ (h.gr hl hi (by omega) gy hy (Nat.le_refl _)) (h.gr hl hi (by omega) gz hz (Nat.le_refl _))),fun _=>key⟩
theorem wK.Mt {gn:Nat->List Nat->Prop} {tr:Tr} (h:wK n 0 gn tr) (hn:0<n):mj n (Gr n (gn 0)) tr:=by
 have eH:∀ s,gn 0 s->Gd n s:=fun s hs=>h.gd _ s (Nat.zero_le _) hn hs;refine ⟨h.rp,fun i p u hi hu=>?_,fun i x hi hx=>?_⟩
 ·have:=h.mem i p u (Nat.zero_le _) hi hu
  exact h.sub (i:=0) (Nat.le_refl _) (k:=i) (by omega) (by rwa [Nat.zero_add])
 ·have gx:=(Gr.dE eH).gd x hx.1
  have h1:=(h.P1 (d:=n) (Nat.le_refl _) (Nat.zero_le _)).2 hn x (by rw [Nat.sub_self]; exact hx.1);have h2:=(Sd.up h.rp (d:=n - i) (k:=i) (by omega) (Nat.zero_le _) gx (by rw [show n - (n - i)=i by omega]; exact hx.2)).1 (by rw [show n - i+i=n by omega]; exact h1);rw [show n - i=(n - i - 1)+1 by omega] at h2;obtain ⟨u,hu,_⟩:=h2;rw [show n - (n - i - 1+1)=i by omega] at hu;exact ⟨u,hu⟩
theorem Sd.entry {tr:Tr} (hr:Rp n 0 tr) {i p:Nat} (hi:i<n) {u:List Nat} (hu:tr i p=some u):Sd n tr n u:=by
 have gu:=hr.gd _ _ _ (Nat.zero_le _) hi hu;have h1:Sd n tr (n - i - 1+1) (Ma.aq (Ma.bs n) u):=Sd.cons hr (by omega) (Nat.zero_le _) (iF n) (Sd.one hr (by omega) (Nat.zero_le _)) (p:=p) (by rw [show n - (n - i - 1+1)=i by omega]; exact hu);rw [one_mul gu,show n - i - 1+1=n - i by omega] at h1;have h2:=(Sd.up hr (d:=n - i) (k:=i) (by omega) (Nat.zero_le _) gu (by rw [show n - (n - i)=i by omega]; exact hr.fx _ _ _ (Nat.zero_le _) hi hu)).2 h1
 rwa [show n - i+i=n by omega] at h2
theorem Cx {n:Nat} {tr:Tr} (hr:Rp n 0 tr) (hc:∀ i p u j q v,i<n->j<n->tr i p=some u->tr j q=some v->Sd n tr n (Ma.aq u v)) :
  ∀ {d:Nat},d<=n->∀ y z,Gd n y->Gd n z->Sd n tr d y->Sd n tr d z->Sd n tr d (Ma.aq y z)
 | 0,_,y,z,_,gz,hy,hz=>by
  have za:y=Ma.bs n:=hy;have uL:z=Ma.bs n:=hz;show Ma.aq y z=Ma.bs n;rw [za,uL,one_mul (iF n)]
 | d+1,hd,y,z,gy,gz,hy,hz=>by
  have ih:=Cx hr hc (d:=d) (by omega)
  have R:∀ x j q b,Gd n x->Sd n tr (d+1) x->n - (d+1)<=j->j<n->tr j q=some b->Sd n tr (d+1) (Ma.aq x b):=by
   intro x j q b gx ⟨u,hu,hx⟩ yA sf hb;have gu:=hr.gd _ _ _ (by omega) (by omega) hu;have gb:=hr.gd _ _ _ (by omega) sf hb;have h1:=hc _ _ _ _ _ _ (by omega) sf hu hb;have hf:Fx (n - (d+1)) (Ma.aq u b):=Fx.mul gu (by omega) (hr.fx _ _ _ (by omega) (by omega) hu) ((hr.fx _ _ _ (by omega) sf hb).mono yA);have h2:=(Sd.up hr (d:=d+1) (k:=n - (d+1)) (by omega) (by omega) (bm gu gb) hf).1 (by rw [show d+1+(n - (d+1))=n by omega]; exact h1);obtain ⟨v,hv,hz⟩:=h2;have gv:=hr.gd _ _ _ (by omega) (by omega) hv;have UK:=bm gx (aX gu);have Xk:=bm (bm gu gb) (aX gv);have h3:=Sd.cons hr hd (by omega) (bm UK Xk) (ih _ _ UK Xk hx hz) hv
   have e:Ma.aq (Ma.aq (Ma.aq x (Ma.bf u)) (Ma.aq (Ma.aq u b) (Ma.bf v))) v=Ma.aq x b:=by
    rw [mul_assoc UK Xk,mul_inv_cancel (bm gu gb) gv,<- mul_assoc UK gu,mul_inv_cancel gx gu]
   rwa [e] at h3
  have W:∀ e w,e<=d+1->Gd n w->Sd n tr e w->∀ x,Gd n x->Sd n tr (d+1) x->Sd n tr (d+1) (Ma.aq x w):=by
   intro e
   induction e with
   | zero =>
    intro w _ gw hw x gx hx;have hw':w=Ma.bs n:=hw;rw [hw',mul_one gx]; exact hx
   | succ e ie =>
    intro w he gw ⟨u,hu,hw⟩ x gx hx;have gu:=hr.gd _ _ _ (by omega) (by omega) hu;have Xl:=bm gw (aX gu);have h1:=ie _ (by omega) Xl hw x gx hx;have h2:=R _ _ _ _ (bm gx Xl) h1 (by omega) (by omega) hu
    rwa [mul_assoc gx Xl,mul_inv_cancel gw gu] at h2
  exact W _ z (Nat.le_refl _) gz hz y gy hy
theorem NU {gs:List Nat->Prop} {tr:Tr} (hr:Rp n 0 tr) (hg:∀ s,gs s->Gd n s) (hs:∀ s,gs s->Sd n tr n s) (he:∀ i p u,i<n->tr i p=some u->Gr n gs u)
  (hc:∀ i p u j q v,i<n->j<n->tr i p=some u->tr j q=some v->Sd n tr n (Ma.aq u v)):mj n (Gr n gs) tr:=by
 refine ⟨hr,he,fun i x hi hx=>?_⟩;have G:=Gr.dE (n:=n) hg;have gx:=G.gd x hx.1;have h1:Sd n tr n x:=Ms hg (P:=Sd n tr n) (Sd.one hr (Nat.le_refl _) (Nat.zero_le _)) (fun y s gy hy h=>Cx hr hc (Nat.le_refl _) _ _ (G.gd y gy) (hg s h) hy (hs s h)) hx.1;have h2:=(Sd.up hr (d:=n - i) (k:=i) (by omega) (Nat.zero_le _) gx (by rw [show n - (n - i)=i by omega]; exact hx.2)).1 (by rw [show n - i+i=n by omega]; exact h1);rw [show n - i=(n - i - 1)+1 by omega] at h2;obtain ⟨u,hu,_⟩:=h2;rw [show n - (n - i - 1+1)=i by omega] at hu;exact ⟨u,hu⟩
def lexLt (n:Nat) (y z:List Nat):Prop:=∃ j,j<n/\(∀ m,m<j->ap y m=ap z m)/\ap y j<ap z j
def lO (n:Nat) (P:List Nat->Prop) (y:List Nat):Prop:=P y/\∀ z,P z->z=y∨lexLt n y z
theorem lexLt.asymm {m:Nat} {y z:List Nat} (h:lexLt n y z) (h':lexLt m z y):False:=by
 obtain ⟨j,_,h2,h3⟩:=h;obtain ⟨k,_,h5,h6⟩:=h'
 rcases Nat.lt_trichotomy j k with e | e | e
 ·have:=h5 j e; omega
 ·subst e; omega
 ·have:=h2 k e; omega
theorem lO.uniq {P:List Nat->Prop} {y z:List Nat} (h:lO n P y) (h':lO n P z):y=z:=by
 rcases h.2 z h'.1 with e | e
 ·exact e.symm
 ·rcases h'.2 y h.1 with e' | e'
  ·exact e'
  ·exact (e.asymm e').elim
def LI (H:List Nat->Prop) (i k:Nat) (x y:List Nat):Prop :=
 (∃ h,St H (i+1) h/\y=Ma.aq h x)/\∀ h,St H (i+1) h->(∀ m,m<k->ap y m=ap (Ma.aq h x) m)∨∃ j,j<k/\(∀ m,m<j->ap y m=ap (Ma.aq h x) m)/\ap y j<ap (Ma.aq h x) j
theorem LI.start (hH:cz n H) {i:Nat} (hi:i<n) {x:List Nat} (gx:Gd n x):LI H i (i+1) x x:=by
 refine ⟨⟨Ma.bs n,⟨hH.one,Fx.one (by omega)⟩,(one_mul gx).symm⟩,fun h hh=>.inl fun m hm=>?_⟩;rw [bL (hH.gd h hh.1) (by omega),hh.2 m hm]
theorem LI.step (hH:cz n H) {tr:Tr} (ht:mj n H tr) {i k q:Nat} {x y u:List Nat} (gx:Gd n x) (hik:i<k) (hk:k<n) (h:LI H i k x y) (hu:tr k q=some u)
  (hq:∀ q',tr k q'≠none->ap y q<=ap y q'):LI H i (k+1) x (Ma.aq u y):=by
 obtain ⟨⟨h0,DQ,rfl⟩,h2⟩:=h;have gu:=ht.rp.gd _ _ _ (Nat.zero_le _) hk hu;have fu:=ht.rp.fx _ _ _ (Nat.zero_le _) hk hu;have g0:=hH.gd h0 DQ.1;have gy:=bm g0 gx
 have pV:∀ m,m<k->ap (Ma.aq u (Ma.aq h0 x)) m=ap (Ma.aq h0 x) m:=fun m hm=>by rw [bL gu (by omega),fu m hm]
 refine ⟨⟨Ma.aq u h0,⟨hH.mul _ _ (ht.mem _ _ _ hk hu) DQ.1,Fx.mul gu (by omega) (fu.mono (by omega)) DQ.2⟩,(mul_assoc gu g0).symm⟩,fun h hh=>?_⟩
 rcases h2 h hh with h3 | ⟨j,hj,h4,h5⟩
 ·have gh:=hH.gd h hh.1
  have gz:=bm gh gx
  have fg:Fx k (Ma.aq (Ma.aq h x) (Ma.bf (Ma.aq h0 x))):=fun m hm=>by
   rw [bL gz (by omega),<- h3 m hm,fh gy (by omega)]
  have eg:Ma.aq (Ma.aq h x) (Ma.bf (Ma.aq h0 x))=Ma.aq h (Ma.bf h0):=by
   refine jI (n:=n) (bm gz (aX gy)).2 (bm gh (aX g0)).2 fun m hm=>?_;rw [bL gz hm,bL gh hm,bL gh hm];have h1:=cS gh hm;have UL:=cS (aX g0) h1
   have e:ap x (ap h m)=ap (Ma.aq h0 x) (ap (Ma.bf h0) (ap h m)):=by rw [bL g0 UL,iZ g0 h1]
   rw [e,fh gy UL]
  have hgH:St H k (Ma.aq (Ma.aq h x) (Ma.bf (Ma.aq h0 x))):=⟨by rw [eg]; exact hH.mul _ _ hh.1 (hH.inv _ DQ.1),fg⟩;obtain ⟨v,hv⟩:=ht.all k _ hk hgH;have hle:=hq _ (by rw [hv]; simp)
  have ez:ap (Ma.aq h0 x) (ap (Ma.aq (Ma.aq h x) (Ma.bf (Ma.aq h0 x))) k)=ap (Ma.aq h x) k:=by
   rw [bL gz hk,iZ gy (cS gz hk)]
  rw [ez] at hle
  have ey:ap (Ma.aq u (Ma.aq h0 x)) k=ap (Ma.aq h0 x) q:=by rw [bL gu hk,ht.rp.at_ _ _ _ (Nat.zero_le _) hk hu]
  rcases Nat.lt_or_eq_of_le hle with az | heq
  ·exact .inr ⟨k,by omega,fun m hm=>by rw [pV m hm]; exact h3 m hm,by rw [ey]; exact az⟩
  ·exact .inl fun m hm=>by
    by_cases e:m=k
    ·subst e; rw [ey,heq]
    ·rw [pV m (by omega)]; exact h3 m (by omega)
 ·exact .inr ⟨j,by omega,fun m hm=>by rw [pV m (by omega)]; exact h4 m hm,by rw [pV j hj]; exact h5⟩
theorem LI.done (hH:cz n H) {i:Nat} (hi:i<n) {x y:List Nat} (hx:St H i x) (h:LI H i n x y):lO n (fun z=>St H i z/\ap z i=ap x i) y:=by
 obtain ⟨⟨h0,DQ,rfl⟩,h2⟩:=h;have gx:=hH.gd x hx.1;have g0:=hH.gd h0 DQ.1;refine ⟨⟨⟨hH.mul _ _ DQ.1 hx.1,Fx.mul g0 (by omega) (DQ.2.mono (by omega)) hx.2⟩,by rw [bL g0 hi,DQ.2 i (by omega)]⟩,fun z ⟨hz,hzi⟩=>?_⟩;have gz:=hH.gd z hz.1
 have hf:Fx (i+1) (Ma.aq z (Ma.bf x)):=fun m hm=>by
  rw [bL gz (by omega)]
  by_cases e:m=i
  ·subst e; rw [hzi,fh gx hi]
  ·rw [hz.2 m (by omega)]
   have:=fh gx (show m<n by omega)
   rwa [hx.2 m (by omega)] at this
 have e:=mul_inv_cancel gz gx
 rcases h2 _ ⟨hH.mul _ _ hz.1 (hH.inv _ hx.1),hf⟩ with h3 | h3
 ·rw [e] at h3
  exact .inl (jI (n:=n) gz.2 (bm g0 gx).2 fun m hm=>(h3 m hm).symm)
 ·rw [e] at h3
  obtain ⟨j,hj,h4,h5⟩:=h3;exact .inr ⟨j,hj,h4,h5⟩
structure ar (n:Nat) (H:List Nat->Prop) (O:List (List Nat)) (R:List (List (List Nat))):Prop where
 i_:O.length=n
 iN:R.length=n
 jB:∀ i,i<n->(O.getD i []).Pairwise (· < ·)
 orb:∀ i p,i<n->(p∈O.getD i []↔∃ x,St H i x/\ap x i=p)
 len:∀ i,i<n->(R.getD i []).length=(O.getD i []).length
 rep:∀ i k,i<n->k<(O.getD i []).length->lO n (fun z=>St H i z/\ap z i=(O.getD i []).getD k 0) ((R.getD i []).getD k [])
theorem Cy:∀ {l l':List Nat},l.Pairwise (· < ·)->l'.Pairwise (· < ·)->(∀ x,x∈l↔x∈l')->l=l'
 | [],[],_,_,_=>rfl
 | [],y :: l',_,_,h=>by have:=(h y).2 (List.mem_cons_self ..); simp at this
 | x :: l,[],_,_,h=>by have:=(h x).1 (List.mem_cons_self ..); simp at this
 | x :: l,y :: l',h1,h2,h=>by
  rw [List.pairwise_cons] at h1 h2;have hx:=(h x).1 (List.mem_cons_self ..);have hy:=(h y).2 (List.mem_cons_self ..)
  have e:x=y:=by
   rcases List.mem_cons.1 hx with e | e
   ·exact e
   ·rcases List.mem_cons.1 hy with e' | e'
    ·exact e'.symm
    ·have:=h1.1 y e'; have:=h2.1 x e; omega
  subst e
  rw [Cy h1.2 h2.2 fun z=>⟨fun hz=>by
   rcases List.mem_cons.1 ((h z).1 (List.mem_cons_of_mem _ hz)) with e | e
   ·subst e; have:=h1.1 z hz; omega
   ·exact e,fun hz=>by
   rcases List.mem_cons.1 ((h z).2 (List.mem_cons_of_mem _ hz)) with e | e
   ·subst e; have:=h2.1 z hz; omega
   ·exact e⟩]
theorem getD_in {α:Type} {l:List α} {i:Nat} (h:i<l.length) (d:α):l.getD i d=l[i]:=by rw [List.getD,List.getElem?_eq_getElem h]; rfl
theorem ar.uniq {n:Nat} {H:List Nat->Prop} {O O':List (List Nat)} {R R':List (List (List Nat))} (h:ar n H O R) (h':ar n H O' R'):O=O'/\R=R':=by
 have hO:O=O':=by
  apply List.ext_getElem (by rw [h.i_,h'.i_])
  intro i h1 h2
  have hi:i<n:=by rw [<- h.i_]; exact h1
  have e1:O.getD i []=O[i]:=by simp [List.getD,List.getElem?_eq_getElem h1]
  have e2:O'.getD i []=O'[i]:=by simp [List.getD,List.getElem?_eq_getElem h2]
  rw [<- e1,<- e2];exact Cy (h.jB i hi) (h'.jB i hi) fun p=>(h.orb i p hi).trans (h'.orb i p hi).symm
 subst hO;refine ⟨rfl,?_⟩
 apply List.ext_getElem (by rw [h.iN,h'.iN])
 intro i h1 h2
 have hi:i<n:=by rw [<- h.iN]; exact h1
 have e1:R.getD i []=R[i]:=by simp [List.getD,List.getElem?_eq_getElem h1]
 have e2:R'.getD i []=R'[i]:=by simp [List.getD,List.getElem?_eq_getElem h2]
 rw [<- e1,<- e2]
 apply List.ext_getElem (by rw [h.len i hi,h'.len i hi])
 intro k k1 k2
 have hk:k<(O.getD i []).length:=by rw [<- h.len i hi]; exact k1
 have f1:(R.getD i []).getD k []=(R.getD i [])[k]:=getD_in k1 _;have f2:(R'.getD i []).getD k []=(R'.getD i [])[k]:=getD_in k2 _;rw [<- f1,<- f2];exact (h.rep i k hi hk).uniq (h'.rep i k hi hk)

def dn (n:Nat) (tr:Tr):Nat->List Nat->Nat × List Nat
 | 0,x=>(n,x)
 | d+1,x=>match tr (n - (d+1)) (ap x (n - (d+1))) with
  | none=>(n - (d+1),x)
  | some u=>dn n tr d (Ma.aq x (Ma.bf u))
theorem kA {tr:Tr} {d:Nat} {x:List Nat} (h:tr (n - (d+1)) (ap x (n - (d+1)))=none):dn n tr (d+1) x=(n - (d+1),x):=by
 unfold dn; rw [h]
theorem iG {tr:Tr} {d:Nat} {x u:List Nat} (h:tr (n - (d+1)) (ap x (n - (d+1)))=some u):dn n tr (d+1) x=dn n tr d (Ma.aq x (Ma.bf u)):=by
 conv=>lhs; unfold dn
 rw [h]
theorem uM {lo:Nat} {tr:Tr} (hr:Rp n lo tr) {i:Nat} (hl:lo<=i) (hi:i<n) {x u:List Nat} (gx:Gd n x) (fx:Fx i x) (hu:tr i (ap x i)=some u):Gd n (Ma.aq x (Ma.bf u))/\Fx (i+1) (Ma.aq x (Ma.bf u)):=by
 have gu:=hr.gd _ _ _ hl hi hu;have fu:=hr.fx _ _ _ hl hi hu;have au:=hr.at_ _ _ _ hl hi hu;refine ⟨bm gx (aX gu),fun j hj=>?_⟩;rw [bL gx (by omega)]
 by_cases e:j=i
 ·subst e; rw [<- au]; exact fh gu hi
 ·rw [fx j (by omega)]
  exact Fx.inv gu (by omega) fu j (by omega)
theorem oh {n lo:Nat} {tr:Tr} (hr:Rp n lo tr):∀ {d:Nat} {x:List Nat},d<=n->lo<=n - d->Gd n x->Fx (n - d) x ->
  (dn n tr d x).1<=n/\n - d<=(dn n tr d x).1/\Gd n (dn n tr d x).2/\Fx (dn n tr d x).1 (dn n tr d x).2/\((dn n tr d x).1<n->tr (dn n tr d x).1 (ap (dn n tr d x).2 (dn n tr d x).1)=none)
 | 0,x,_,_,gx,fx=>⟨Nat.le_refl _,by show n - 0<=n; omega,gx,fx,fun h=>absurd h (Nat.lt_irrefl _)⟩
 | d+1,x,hd,hl,gx,fx=>by
  cases h:tr (n - (d+1)) (ap x (n - (d+1))) with
  | none =>
   rw [kA h];exact ⟨by show n - (d+1)<=n; omega,Nat.le_refl _,gx,fx,fun _=>h⟩
  | some u =>
   rw [iG h];obtain ⟨g1,f1⟩:=uM hr hl (by omega) gx fx h;rw [show n - (d+1)+1=n - d by omega] at f1;obtain ⟨a,b,c⟩:=oh hr (d:=d) (by omega) (by omega) g1 f1;exact ⟨a,by omega,c⟩
theorem rO {n:Nat} {tr tr':Tr}:∀ {d:Nat} {x:List Nat},d<=n->(∀ i p u,n - d<=i->tr i p=some u->tr' i p=some u)->Sd n tr' (n - (dn n tr d x).1) (dn n tr d x).2->Sd n tr' d x
 | 0,x,_,_,h=>by
  have:Sd n tr' (n - n) x:=h
  rwa [Nat.sub_self] at this
 | d+1,x,hd,hm,hs=>by
  cases h:tr (n - (d+1)) (ap x (n - (d+1))) with
  | none =>
   rw [kA h] at hs;have:Sd n tr' (n - (n - (d+1))) x:=hs
   rwa [show n - (n - (d+1))=d+1 by omega] at this
  | some u =>
   rw [iG h] at hs;exact ⟨u,hm _ _ _ (Nat.le_refl _) h,rO (by omega) (fun i p u hi=>hm i p u (by omega)) hs⟩
theorem zh {n:Nat} {tr:Tr} {H:List Nat->Prop} (hH:cz n H):∀ {d:Nat} {x:List Nat},d<=n->(∀ i p u,n - d<=i->i<n->tr i p=some u->H u)->H x->H (dn n tr d x).2
 | 0,_,_,_,h=>h
 | d+1,x,hd,hm,hx=>by
  cases h:tr (n - (d+1)) (ap x (n - (d+1))) with
  | none=>rw [kA h]; exact hx
  | some u =>
   rw [iG h];exact zh hH (by omega) (fun i p u hi=>hm i p u (by omega)) (hH.mul _ _ hx (hH.inv _ (hm _ _ _ (Nat.le_refl _) (by omega) h)))
structure Lv where
 gens:List (List Nat)
 orb:List Nat
 rep:Nat->Option (List Nat)
 tried:Nat->Nat
abbrev bx:=Nat->Lv
def cw (T:bx):Tr:=fun i p=>(T i).rep p
structure fY (n:Nat) (T:bx) (i:Nat):Prop where
 Bm:∀ s∈(T i).gens,Gd n s
 NV:∀ s∈(T i).gens,Fx i s
 low:i+1<n->∀ s∈(T (i+1)).gens,Gr n (·∈(T i).gens) s
 self:(T i).rep i=some (Ma.bs n)
 zi:∀ p u,(T i).rep p=some u->Gd n u
 FG:∀ p u,(T i).rep p=some u->Fx i u
 DR:∀ p u,(T i).rep p=some u->ap u i=p
 DS:∀ p u,(T i).rep p=some u->p<n
 FH:∀ p u,(T i).rep p=some u->Gr n (·∈(T i).gens) u
 nd:(T i).orb.Nodup
 orb:∀ p,p∈(T i).orb↔∃ u,(T i).rep p=some u
 le:∀ q,(T i).tried q<=(T i).gens.length
 zj:∀ p,(T i).rep p=none->(T i).tried p=0
 pr:∀ q u k (hk:k<(T i).gens.length),(T i).rep q=some u->k<(T i).tried q->∃ v,(T i).rep (ap (T i).gens[k] q)=some v/\Sd n (cw T) (n - (i+1)) (Ma.aq (Ma.aq u (T i).gens[k]) (Ma.bf v))
def Bn (T:bx) (i:Nat):Prop:=∀ q u,(T i).rep q=some u->(T i).tried q=(T i).gens.length
theorem fY.rp {lo:Nat} {T:bx} (h:∀ j,lo<=j->j<n->fY n T j):Rp n lo (cw T) :=
 ⟨fun i p u hl hi hu=>(h i hl hi).zi p u hu,fun i p u hl hi hu=>(h i hl hi).FG p u hu,fun i p u hl hi hu=>(h i hl hi).DR p u hu,fun i hl hi=>(h i hl hi).self⟩
theorem fY.Xm {lo:Nat} {T:bx} (h:∀ j,lo<=j->j<n->fY n T j/\Bn T j):wK n lo (fun i s=>s∈(T i).gens) (cw T):=by
 refine ⟨fY.rp fun j a b=>(h j a b).1,fun i s a b=>(h i a b).1.Bm s,fun i s a b=>(h i a (by omega)).1.low b s,fun i p u a b hu=>(h i a b).1.FH p u hu,fun i p u s a b hu hs=>?_⟩;obtain ⟨k,hk,rfl⟩:=List.getElem_of_mem hs;exact (h i a b).1.pr p u k hk hu (by rw [(h i a b).2 p u hu]; exact hk)
theorem fY.sd {lo:Nat} {T:bx} (h:∀ j,lo<=j->j<n->fY n T j/\Bn T j) (hl:lo<n) {x:List Nat} (hx:Gr n (·∈(T lo).gens) x):Sd n (cw T) (n - lo) x:=by
 have:=((fY.Xm h).P1 (d:=n - lo) (by omega) (by omega)).2 (by omega) x;rw [show n - (n - lo)=lo by omega] at this;exact this hx
structure Ext (T T':bx):Prop where
 rep:∀ j p u,(T j).rep p=some u->(T' j).rep p=some u
 orb:∀ j,(T j).orb.length<=(T' j).orb.length
 gens:∀ j s,s∈(T j).gens->s∈(T' j).gens
theorem Ext.refl (T:bx):Ext T T:=⟨fun _ _ _ h=>h,fun _=>Nat.le_refl _,fun _ _ h=>h⟩
theorem Ext.trans {T T' T'':bx} (h:Ext T T') (h':Ext T' T''):Ext T T'':=⟨fun j p u e=>h'.rep j p u (h.rep j p u e),fun j=>Nat.le_trans (h.orb j) (h'.orb j),fun j s e=>h'.gens j s (h.gens j s e)⟩
theorem fY.Ws {i:Nat} {T T':bx} (h:fY n T i) (he:T' i=T i) (hx:∀ j p u,(T j).rep p=some u->(T' j).rep p=some u) (pV:i+1<n->∀ s∈(T' (i+1)).gens,Gr n (·∈(T i).gens) s):fY n T' i:=by
 refine ⟨by rw [he]; exact h.Bm,by rw [he]; exact h.NV,by rw [he]; exact pV,by rw [he]; exact h.self,by rw [he]; exact h.zi,by rw [he]; exact h.FG,by rw [he]; exact h.DR,by rw [he]; exact h.DS,by rw [he]; exact h.FH,by rw [he]; exact h.nd,by rw [he]; exact h.orb,by rw [he]; exact h.le,by rw [he]; exact h.zj,?_⟩;simp only [he];intro q u k hk hu hq;obtain ⟨v,h1,h2⟩:=h.pr q u k hk hu hq;exact ⟨v,h1,Sd.mono (fun j p u _ e=>hx j p u e) h2⟩
theorem fY.ext {i:Nat} {T T':bx} (h:fY n T i) (he:T' i=T i) (hx:Ext T T') (pV:i+1<n->∀ s∈(T' (i+1)).gens,Gr n (·∈(T i).gens) s):fY n T' i:=h.Ws he hx.rep pV
theorem Bn.ext {i:Nat} {T T':bx} (h:Bn T i) (he:T' i=T i):Bn T' i:=by
 unfold Bn at *; rw [he]; exact h
def qA (n:Nat) (T:bx):Nat->Nat
 | 0=>0
 | d+1=>(T (n - (d+1))).orb.length+qA n T d
def DT (n:Nat) (T:bx) (i:Nat):Nat:=qA n T (n - i)
theorem s9 {n:Nat} {T T':bx} (h:Ext T T'):∀ d,qA n T d<=qA n T' d
 | 0=>Nat.le_refl _
 | d+1=>Nat.add_le_add (h.orb _) (s9 h d)
theorem zk {n:Nat} {T T':bx} (h:Ext T T') {i:Nat} (hi:i<n) (az:(T i).orb.length<(T' i).orb.length):∀ d,d<=n->n - i<=d->qA n T d<qA n T' d
 | 0,_,hd=>by omega
 | d+1,UM,hd=>by
  by_cases e:n - i=d+1
  ·have:n - (d+1)=i:=by omega
   show (T (n - (d+1))).orb.length+qA n T d<(T' (n - (d+1))).orb.length+qA n T' d;rw [this];exact Nat.add_lt_add_of_lt_of_le az (s9 h d)
  ·exact Nat.add_lt_add_of_le_of_lt (h.orb _) (zk h hi az d (by omega) (by omega))
theorem NW {T T':bx} (h:Ext T T') (i:Nat):DT n T i<=DT n T' i:=s9 h _
theorem NZ {T T':bx} (h:Ext T T') {i:Nat} (hi:i<n) (hj:j<=i) (az:(T i).orb.length<(T' i).orb.length):DT n T j<DT n T' j:=zk h hi az _ (by omega) (by omega)
theorem om {i:Nat} {T:bx} (h:fY n T i):(T i).orb.length<=n:=by
 have h1:(T i).orb ⊆ List.range n:=fun p hp=>by
  obtain ⟨u,hu⟩:=(h.orb p).1 hp;exact List.mem_range.2 (h.DS p u hu)
 have:=List.Nodup.length_le_of_subset h.nd h1
 rwa [List.length_range] at this
theorem FL {n lo:Nat} {T:bx} (h:∀ j,lo<=j->j<n->fY n T j):∀ d,d<=n->lo<=n - d->qA n T d<=d*n
 | 0,_,_=>by simp [qA]
 | d+1,hd,hl=>by
  have h1:=om (h (n - (d+1)) hl (by omega));have h2:=FL h d (by omega) (by omega);show _+_<=_;rw [Nat.succ_mul]; omega
theorem Mu {lo:Nat} {T:bx} (h:∀ j,lo<=j->j<n->fY n T j) {i:Nat} (hi:lo<=i) (hn:n<=64):DT n T i<=4096:=by
 by_cases aS:i<=n
 ·have h1:=FL h (n - i) (by omega) (by omega)
  have h2:(n - i)*n<=64*64:=Nat.mul_le_mul (by omega) hn;unfold DT; omega
 ·unfold DT; rw [show n - i=0 by omega]; simp [qA]
def il (T:bx) (lo hi:Nat) (r:List Nat):bx:=fun j=>if lo<=j/\j<=hi then { T j with gens:=(T j).gens++[r] } else T j
theorem iY {T:bx} {lo hi:Nat} {r:List Nat} (h:lo<=j/\j<=hi):il T lo hi r j={ T j with gens:=(T j).gens++[r] }:=if_pos h
theorem eX {T:bx} {lo hi:Nat} {r:List Nat} (h:¬ (lo<=j/\j<=hi)):il T lo hi r j=T j:=if_neg h
theorem uN (T:bx) (lo hi:Nat) (r:List Nat):cw (il T lo hi r)=cw T:=by
 funext j p
 unfold cw
 by_cases h:lo<=j/\j<=hi
 ·rw [iY h]
 ·rw [eX h]
theorem wL (T:bx) (lo hi:Nat) (r:List Nat) (j:Nat):(il T lo hi r j).orb=(T j).orb:=by
 by_cases h:lo<=j/\j<=hi
 ·rw [iY h]
 ·rw [eX h]
theorem wM (T:bx) (lo hi:Nat) (r:List Nat):Ext T (il T lo hi r) :=
 ⟨fun j p u h=>(show cw (il T lo hi r) j p=some u by rw [uN]; exact h),fun j=>by rw [wL]; exact Nat.le_refl _,fun j s hs=>by
  by_cases h:lo<=j/\j<=hi
  ·rw [iY h]; exact List.mem_append_left _ hs
  ·rw [eX h]; exact hs⟩
theorem N1 {lo hi i:Nat} {T:bx} {r:List Nat} (h:fY n T i) (hl:lo<=i) (hr:Gd n r) (hf:Fx hi r):fY n (il T lo hi r) i:=by
 have DU:=fun p=>congrFun (congrFun (uN T lo hi r) i) p;have sK:∀ p,(il T lo hi r i).rep p=(T i).rep p:=DU
 by_cases iE:i<=hi
 ·have e:=iY (T:=T) (r:=r) ⟨hl,iE⟩
  have hg:∀ s,s∈(T i).gens->s∈(il T lo hi r i).gens:=fun s hs=>by rw [e]; exact List.mem_append_left _ hs
  have hm:∀ s,s∈(il T lo hi r i).gens->s∈(T i).gens∨s=r:=fun s hs=>by
   rw [e] at hs
   rcases List.mem_append.1 hs with hs | hs
   ·exact .inl hs
   ·exact .inr (List.mem_singleton.1 hs)
  have UN:r∈(il T lo hi r i).gens:=by rw [e]; exact List.mem_append_right _ (List.mem_singleton.2 rfl)
  refine ⟨fun s hs=>?_,fun s hs=>?_,fun h1 s hs=>?_,by rw [sK]; exact h.self,fun p u hu=>h.zi p u (by rwa [sK] at hu),fun p u hu=>h.FG p u (by rwa [sK] at hu),fun p u hu=>h.DR p u (by rwa [sK] at hu),fun p u hu=>h.DS p u (by rwa [sK] at hu),
   fun p u hu=>(h.FH p u (by rwa [sK] at hu)).mono hg,by rw [wL]; exact h.nd,fun p=>by rw [wL,sK]; exact h.orb p,fun q=>?_,fun p hp=>by rw [sK] at hp; rw [e]; exact h.zj p hp,?_⟩
  ·rcases hm s hs with hs | rfl
   ·exact h.Bm s hs
   ·exact hr
  ·rcases hm s hs with hs | rfl
   ·exact h.NV s hs
   ·exact hf.mono iE
  ·by_cases h2:i+1<=hi
   ·rw [iY ⟨by omega,h2⟩] at hs
    rcases List.mem_append.1 hs with hs | hs
    ·exact (h.low h1 s hs).mono hg
    ·rw [List.mem_singleton] at hs; subst hs; exact .gen _ UN
   ·rw [eX (by omega)] at hs
    exact (h.low h1 s hs).mono hg
  ·have:=h.le q
   rw [e]; simp; omega
  ·intro q u k hk hu hq
   rw [sK] at hu
   have FM:k<(T i).tried q:=by rw [e] at hq; exact hq
   have P2:k<(T i).gens.length:=Nat.lt_of_lt_of_le FM (h.le q)
   have eg:(il T lo hi r i).gens[k]=(T i).gens[k]:=by simp only [e]; rw [List.getElem_append_left P2]
   obtain ⟨v,h1,h2⟩:=h.pr q u k P2 hu FM;rw [eg];exact ⟨v,by rw [sK]; exact h1,by rw [uN]; exact h2⟩
 ·exact h.ext (eX (by omega)) (wM T lo hi r) fun h1 s hs=>by
   rw [eX (by omega)] at hs; exact h.low h1 s hs
def tick (T:bx) (i q:Nat):bx:=fun j=>if j=i then { T j with tried:=fun p=>if p=q then (T j).tried p+1 else (T j).tried p } else T j
def find (T:bx) (i p:Nat) (y:List Nat):bx:=fun j=>if j=i then { T j with orb:=(T j).orb++[p],rep:=fun z=>if z=p then some y else (T j).rep z } else T j
theorem ew (T:bx) (i q:Nat):tick T i q i={ T i with tried:=fun p=>if p=q then (T i).tried p+1 else (T i).tried p }:=if_pos rfl
theorem ja {T:bx} {i q:Nat} (h:j≠i):tick T i q j=T j:=if_neg h
theorem oq (T:bx) (i p:Nat) (y:List Nat):find T i p y i={ T i with orb:=(T i).orb++[p],rep:=fun z=>if z=p then some y else (T i).rep z }:=if_pos rfl
theorem qB {T:bx} {i p:Nat} {y:List Nat} (h:j≠i):find T i p y j=T j:=if_neg h
theorem kB (T:bx) (i q:Nat):Ext T (tick T i q) :=
 ⟨fun j p u h=>by
  by_cases e:j=i
  ·subst e; rw [ew]; exact h
  ·rw [ja e]; exact h,fun j=>by
  by_cases e:j=i
  ·subst e; rw [ew]; exact Nat.le_refl _
  ·rw [ja e]; exact Nat.le_refl _,fun j s hs=>by
  by_cases e:j=i
  ·subst e; rw [ew]; exact hs
  ·rw [ja e]; exact hs⟩
theorem wN {T:bx} {i p:Nat} {y:List Nat} (hp:(T i).rep p=none):Ext T (find T i p y) :=
 ⟨fun j z u h=>by
  by_cases e:j=i
  ·subst e
   rw [oq];show (if z=p then some y else (T j).rep z)=some u;rw [if_neg,h];rintro rfl; rw [hp] at h; cases h
  ·rw [qB e]; exact h,fun j=>by
  by_cases e:j=i
  ·subst e; rw [oq]; simp
  ·rw [qB e]; exact Nat.le_refl _,fun j s hs=>by
  by_cases e:j=i
  ·subst e; rw [oq]; exact hs
  ·rw [qB e]; exact hs⟩
theorem N2 {i q:Nat} {T T':bx} (h:fY n T i) {s uq v:List Nat} (hk:(T i).tried q<(T i).gens.length) (hs:(T i).gens[(T i).tried q]=s) (lz:(T i).rep q=some uq)
  (hi:T' i=tick T i q i) (hx:Ext T T') (pV:i+1<n->∀ s∈(T' (i+1)).gens,Gr n (·∈(T i).gens) s) (hv:(T i).rep (ap s q)=some v) (Xn:Sd n (cw T') (n - (i+1)) (Ma.aq (Ma.aq uq s) (Ma.bf v))):fY n T' i:=by
 rw [ew] at hi;refine ⟨by rw [hi]; exact h.Bm,by rw [hi]; exact h.NV,by rw [hi]; exact pV,by rw [hi]; exact h.self,by rw [hi]; exact h.zi,by rw [hi]; exact h.FG,by rw [hi]; exact h.DR,by rw [hi]; exact h.DS,by rw [hi]; exact h.FH,by rw [hi]; exact h.nd,by rw [hi]; exact h.orb,?_,?_,?_⟩
 ·rw [hi]
  intro p;show (if p=q then (T i).tried p+1 else (T i).tried p)<=(T i).gens.length
  split
  ·rename_i e; subst e; omega
  ·exact h.le p
 ·rw [hi]
  intro p hp;show (if p=q then (T i).tried p+1 else (T i).tried p)=0;rw [if_neg]
  ·exact h.zj p hp
  ·rintro rfl
   have DV:(T i).rep p=none:=hp;rw [lz] at DV; cases DV
 ·simp only [hi]
  intro p u k dF hu hp
  by_cases e:p=q
  ·subst e
   rw [if_pos rfl] at hp
   by_cases e2:k=(T i).tried p
   ·subst e2
    rw [lz] at hu; cases hu;rw [hs]; exact ⟨v,hv,Xn⟩
   ·obtain ⟨v2,h1,h2⟩:=h.pr p u k dF hu (by omega)
    exact ⟨v2,h1,Sd.mono (fun j p u _ e=>hx.rep j p u e) h2⟩
  ·rw [if_neg e] at hp
   obtain ⟨v2,h1,h2⟩:=h.pr p u k dF hu hp;exact ⟨v2,h1,Sd.mono (fun j p u _ e=>hx.rep j p u e) h2⟩
theorem N3 {i q:Nat} {T:bx} (h:∀ j,i<=j->j<n->fY n T j) (aS:i<n) {s uq:List Nat} (hk:(T i).tried q<(T i).gens.length) (hs:(T i).gens[(T i).tried q]=s) (lz:(T i).rep q=some uq) (hp:(T i).rep (ap s q)=none) :
  fY n (find (tick T i q) i (ap s q) (Ma.aq uq s)) i:=by
 have hl:=h i (Nat.le_refl _) aS
 have N4:s∈(T i).gens:=by rw [<- hs]; exact List.getElem_mem hk
 have gs:=hl.Bm s N4;have gu:=hl.zi q uq lz;have hq:=hl.DS q uq lz;have gy:=bm gu gs;have hx:Ext T (find (tick T i q) i (ap s q) (Ma.aq uq s)):=(kB T i q).trans (wN (by rw [ew]; exact hp))
 have ei:find (tick T i q) i (ap s q) (Ma.aq uq s) i={ gens:=(T i).gens,orb:=(T i).orb++[ap s q],rep:=fun z=>if z=ap s q then some (Ma.aq uq s) else (T i).rep z,tried:=fun p=>if p=q then (T i).tried p+1 else (T i).tried p }:=by rw [oq,ew]
 have ay:ap (Ma.aq uq s) i=ap s q:=by rw [bL gu aS,hl.DR q uq lz]
 have fy:Fx i (Ma.aq uq s):=Fx.mul gu (by omega) (hl.FG q uq lz) (hl.NV s N4);refine ⟨by rw [ei]; exact hl.Bm,by rw [ei]; exact hl.NV,?_,?_,?_,?_,?_,?_,?_,?_,?_,?_,?_,?_⟩
 ·rw [ei]
  intro h1 z hz;rw [qB (by omega),ja (by omega)] at hz;exact hl.low h1 z hz
 ·rw [ei]
  show (if i=ap s q then _ else _)=_;rw [if_neg,hl.self];intro e; rw [<- e,hl.self] at hp; cases hp
 ·rw [ei]
  intro p u hu;have jG:(if p=ap s q then some (Ma.aq uq s) else (T i).rep p)=some u:=hu
  split at jG
  ·cases jG; exact gy
  ·exact hl.zi p u jG
 ·rw [ei]
  intro p u hu;have jG:(if p=ap s q then some (Ma.aq uq s) else (T i).rep p)=some u:=hu
  split at jG
  ·cases jG; exact fy
  ·exact hl.FG p u jG
 ·rw [ei]
  intro p u hu;have jG:(if p=ap s q then some (Ma.aq uq s) else (T i).rep p)=some u:=hu
  split at jG
  ·rename_i e; cases jG; rw [e]; exact ay
  ·exact hl.DR p u jG
 ·rw [ei]
  intro p u hu;have jG:(if p=ap s q then some (Ma.aq uq s) else (T i).rep p)=some u:=hu
  split at jG
  ·rename_i e; rw [e]; exact cS gs hq
  ·exact hl.DS p u jG
 ·rw [ei]
  intro p u hu;have jG:(if p=ap s q then some (Ma.aq uq s) else (T i).rep p)=some u:=hu
  split at jG
  ·cases jG; exact .mul _ _ (hl.FH q uq lz) (.gen _ N4)
  ·exact hl.FH p u jG
 ·rw [ei]
  show ((T i).orb++[ap s q]).Nodup;rw [List.nodup_append];refine ⟨hl.nd,by simp,?_⟩;intro a ha b hb e;rw [List.mem_singleton] at hb;subst hb; subst e;obtain ⟨u,hu⟩:=(hl.orb _).1 ha;rw [hp] at hu; cases hu
 ·rw [ei]
  intro p;show p∈(T i).orb++[ap s q]↔∃ u,(if p=ap s q then some (Ma.aq uq s) else (T i).rep p)=some u;rw [List.mem_append,List.mem_singleton]
  by_cases e:p=ap s q
  ·rw [if_pos e]; exact ⟨fun _=>⟨_,rfl⟩,fun _=>.inr e⟩
  ·rw [if_neg e,<- hl.orb p]; exact ⟨fun h=>h.resolve_right e,.inl⟩
 ·rw [ei]
  intro p;show (if p=q then (T i).tried p+1 else (T i).tried p)<=(T i).gens.length
  split
  ·rename_i e; subst e; omega
  ·exact hl.le p
 ·rw [ei]
  intro p nD;have nE:(if p=ap s q then some (Ma.aq uq s) else (T i).rep p)=none:=nD;show (if p=q then (T i).tried p+1 else (T i).tried p)=0
  split at nE
  ·cases nE
  ·rw [if_neg]
   ·exact hl.zj p nE
   ·rintro rfl; rw [lz] at nE; cases nE
 ·intro p u k uO hu gW
  have dF:k<(T i).gens.length:=by rw [ei] at uO; exact uO
  simp only [ei] at hu gW ⊢
  have DU:∀ z v,(T i).rep z=some v->(if z=ap s q then some (Ma.aq uq s) else (T i).rep z)=some v:=fun z v hz=>by
   rw [if_neg,hz];rintro rfl; rw [hp] at hz; cases hz
  have hold:∀ p u k (dF:k<(T i).gens.length),(T i).rep p=some u->k<(T i).tried p->∃ v,(if ap (T i).gens[k] p=ap s q then some (Ma.aq uq s) else (T i).rep (ap (T i).gens[k] p))=some v/\Sd n (cw (find (tick T i q) i (ap s q) (Ma.aq uq s))) (n - (i+1)) (Ma.aq (Ma.aq u (T i).gens[k]) (Ma.bf v)):=fun p u k dF hu gW=>by
   obtain ⟨v,h1,h2⟩:=hl.pr p u k dF hu gW;exact ⟨v,DU _ _ h1,Sd.mono (fun j p u _ e=>hx.rep j p u e) h2⟩
  by_cases e:p=ap s q
  ·
   rw [if_pos e] at hu
   exfalso
   by_cases e2:p=q
   ·rw [<- e2,e,hp] at lz; cases lz
   ·rw [if_neg e2] at gW
    have:=hl.zj p (by rw [e]; exact hp);omega
  ·rw [if_neg e] at hu
   by_cases e2:p=q
   ·subst e2
    rw [if_pos rfl] at gW
    by_cases e3:k=(T i).tried p
    ·subst e3
     rw [lz] at hu; cases hu;rw [hs,if_pos rfl];refine ⟨_,rfl,?_⟩;rw [uJ gy];have hr:Rp n (i+1) (cw T):=fY.rp fun j a b=>h j (by omega) b;exact Sd.mono (fun j p u _ e=>hx.rep j p u e) (Sd.one hr (by omega) (by omega))
    ·exact hold p u k dF hu (by omega)
   ·rw [if_neg e2] at gW
    exact hold p u k dF hu gW
end Go.Proofs.Cm
namespace Go.Proofs.YtpedbljnhnoohaaGreat
open Go.RowKit
open Go.Proofs
section
attribute [local irreducible] Go.Calls
theorem aI {w:World} {u v:Int} {b:Bool} (t:TypeId) (h:decide (u<v)=b):(binOp .lss t (.int .i64 u) (.int .i64 v)).run Tryz.prog w=.ok (.bool b) w:=by
 subst h;simp [binOp,Op.intCmp]
theorem DW {w:World} {u v:Int} {b:Bool} (t:TypeId) (h:decide (u<=v)=b):(binOp .leq t (.int .i64 u) (.int .i64 v)).run Tryz.prog w=.ok (.bool b) w:=by
 subst h;simp [binOp,Op.intCmp]
theorem nG {w:World} {u v:Int} {b:Bool} (t:TypeId) (h:decide (v<=u)=b):(binOp .geq t (.int .i64 u) (.int .i64 v)).run Tryz.prog w=.ok (.bool b) w:=by
 subst h;simp [binOp,Op.intCmp]
theorem aE {w:World} {u v:Int} {b:Bool} (t:TypeId) (h:decide (u≠v)=b):(binOp .neq t (.int .i64 u) (.int .i64 v)).run Tryz.prog w=.ok (.bool b) w:=by
 subst h
 by_cases e:u=v <;> simp [binOp,Op.intCmp,e]
def GI (w:World) (b:Nat) (d:Int) (a:Option Addr) (ll:List (List Int)) (c:Nat):Prop :=
 w.cell? ⟨b,0,none⟩=some (.int .i64 d)/\w.cell? ⟨b,1,none⟩=some (.slice a ll.length c)/\Rg.Rows w (.slice a ll.length c) ll/\b<w.heap.size
theorem GI.c0 {w:World} {b:Nat} {a:Option Addr} {c:Nat} (h:GI w b d a ll c):w.cell? ⟨b,0,none⟩=some (.int .i64 d):=h.1
theorem GI.c1 {w:World} {b:Nat} {a:Option Addr} {c:Nat} (h:GI w b d a ll c):w.cell? ⟨b,1,none⟩=some (.slice a ll.length c):=h.2.1
theorem GI.rows {w:World} {b:Nat} {a:Option Addr} {c:Nat} (h:GI w b d a ll c):Rg.Rows w (.slice a ll.length c) ll:=h.2.2.1
theorem GI.lt {w:World} {b:Nat} {a:Option Addr} {c:Nat} (h:GI w b d a ll c):b<w.heap.size:=h.2.2.2
theorem GI.p {w w':World} {b:Nat} {d:Int} {a:Option Addr} {ll:List (List Int)} {c:Nat} (h:GI w b d a ll c) (hb:BE w w'):GI w' b d a ll c :=
 ⟨(hb.cell (p:=⟨b,0,none⟩) h.lt).trans h.c0,(hb.cell (p:=⟨b,1,none⟩) h.lt).trans h.c1,Rg.Rows.p h.rows hb,Nat.lt_of_lt_of_le h.lt hb.size⟩
theorem GI.new {w:World} {a:Option Addr} {c:Nat} (h:Rg.Rows w (.slice a ll.length c) ll):GI (w.alloc (.cells #[.int .i64 d,.slice a ll.length c] 43)) w.heap.size d a ll c :=
 ⟨by rw [Rg.aW]; rfl,by rw [Rg.aW]; rfl,Rg.Rows.p h ((Below.refl _ _).alloc (Nat.le_refl _) _),by simp⟩
theorem GI.enter {w:World} {gv:Value} (d:Int) (h:Rg.Rows w gv ll):∃ a c,gv=.slice a ll.length c/\GI (w.alloc (.cells #[.int .i64 d,.slice a ll.length c] 43)) w.heap.size d a ll c/\BE w (w.alloc (.cells #[.int .i64 d,.slice a ll.length c] 43)):=by
 obtain ⟨a,c,rfl,_⟩:=h.shape;exact ⟨a,c,rfl,GI.new h,(Below.refl _ _).alloc (Nat.le_refl _) _⟩
end
section
open Go.Proofs.Ob
attribute [local irreducible] Go.Calls
theorem cn (X:World) (u:Value) (hs:∃ a n c,u=.slice a n c):(Instr.buildSlice 41 1 #[(0,u)]).run Tryz.prog X=.ok (.slice (some ⟨X.heap.size,0,none⟩) 1 1) (X.alloc (.cells #[u] 27)):=by
 obtain ⟨i0,hi,dw,bJ,dZ⟩:=info_parts cX;obtain ⟨a,n,c,rfl⟩:=hs;refine run_buildSlice X 41 27 1 _ _ i0 _ Tryz.underlying41 hi dw (by rw [bJ]; decide) (by rw [bJ]; decide) ?_;generalize (fun x=>((Value.slice none 0 0).cells)[x % (Value.slice none 0 0).cells.size]!)=f;rw [bJ];have h1:Array.range (1*1)=#[0]:=rfl;simp [Instr.fill,Value.cells,h1]
theorem mg {a b:List Nat}:Ma.ah a=Ma.ah b↔a=b:=by
 constructor
 ·intro h
  have:=congrArg (fun l=>l.map Int.toNat) h
  simpa [Ma.ah,List.map_map,Function.comp_def] using this
 ·rintro rfl; rfl
end
section
attribute [local irreducible] Go.Calls Go.wpStill
def Wt (F:FuncId) (jd:Array Value) (mv:List (List Nat)) (p:List Nat->Bool) (w:World):Prop :=
 ∀ x,x∈mv->∀ w1 u,BE w w1->Rg.NP w1 u x->Calls Tryz.prog F (#[u]++jd) w1 fun e w2=>e=.returned (.bool (p x))/\BE w1 w2
def xL (mv:List (List Nat)) (p:List Nat->Bool):Int:=match mv.findIdx? p with
 | some i=>i
 | none=>-1
theorem N5 {mv:List (List Nat)} {p:List Nat->Bool} {k:Nat} (hk:k<mv.length) (h:∀ i (hi:i<mv.length),i<k->p mv[i]=false) (hp:p mv[k]=true):xL mv p=k:=by
 have:mv.findIdx? p=some k:=by
  rw [List.findIdx?_eq_some_iff_getElem];exact ⟨hk,hp,fun j hj=>by simp [h j (by omega) hj]⟩
 unfold xL; rw [this]
theorem JC {mv:List (List Nat)} {p:List Nat->Bool} (h:∀ i (hi:i<mv.length),p mv[i]=false):xL mv p = -1:=by
 have:mv.findIdx? p=none:=by
  rw [List.findIdx?_eq_none_iff];intro x hx;obtain ⟨i,hi,rfl⟩:=List.getElem_of_mem hx;exact h i hi
 unfold xL; rw [this]
theorem N6 (mv:List (List Nat)) (p:List Nat->Bool):decide (0<=xL mv p)=mv.any p:=by
 unfold xL
 cases h:mv.findIdx? p with
 | none =>
  rw [List.findIdx?_eq_none_iff] at h
  have:mv.any p=false:=by rw [List.any_eq_false]; intro x hx; simp [h x hx]
  rw [this]; rfl
 | some i =>
  rw [List.findIdx?_eq_some_iff_getElem] at h;obtain ⟨h1,h2,_⟩:=h
  have:mv.any p=true:=by rw [List.any_eq_true]; exact ⟨_,List.getElem_mem h1,h2⟩
  rw [this]; simp
theorem zl (wO:Value) (mv:List (List Nat)) (F:FuncId) (jd:Array Value) (p:List Nat->Bool) (w:World) (h:Rg.jq w wO mv) (hl:mv.length<=2000) (hF:∀ args w,(callFunc F args).run Tryz.prog w=.ok (.enter F args) w) (hf:Wt F jd mv p w) :
  Calls Tryz.prog 135 #[wO,.func (.func F) #[] jd] w fun e w'=>e=.returned (.int .i64 (xL mv p))/\BE w w':=by
 obtain ⟨ad,cap,rfl,hc,hm,_,aP⟩:=h.shape;have Hr:=U aP;have HF:=U hf;clear h aP hf
 go_enter Tryz.func135,Tryz.ntmps135
 go_wp2
 go_loopw [8] (fun vi wr=>∃ k:Nat,k<=mv.length/\vi=.int .i64 k/\Hid (∀ i (hi:i<mv.length),i<k->p mv[i]=false)/\Hid (BE w wr)) (fun vi _=>mv.length - (intOf vi).toNat)
 case atStart=>exact ⟨0,by omega,rfl,fun i hi h0=>by omega,Below.refl _ _⟩
 case round =>
  obtain ⟨k,hk,rfl,mO,hb⟩:=hrel
  by_cases az:k<mv.length
  ·obtain ⟨b,o,rfl,N7,P3⟩:=Hr.u (by omega)
   obtain ⟨u,eu,hu⟩:=P3 k az;have e0:wr.cell? ⟨b,o+k,none⟩=some u:=(hb.u.cell (p:=⟨b,o+k,none⟩) N7).trans eu;obtain ⟨un,ua,uc,y_,rfl,_⟩:=hu.len;obtain ⟨x,hx⟩:∃ x,x=mv[k]:=⟨_,rfl⟩;rw [<- hx] at hu y_;have jJ:=HF.u x (by rw [hx]; exact List.getElem_mem _) wr _ hb.u (hu.p hb.u);have n8:=U az;have Hx:=U hx;clear P3 eu hu y_ hx
   cases hp:p x
   ·have Hp:=U hp
    have s_:=U (show Calls Tryz.prog F (#[.slice ua un uc]++jd) wr (fun e w2=>e=.returned (.bool false)/\BE wr w2) from jJ.mono fun e w2 ⟨h1,h2⟩=>⟨h1.trans (by rw [Hp.u]),h2⟩);clear jJ hp
    go_wp2_with (refine s_.u.mono ?_; rintro e w1 ⟨rfl,bZ⟩)
    go_roundw
    case rel=>exact ⟨k+1,by omega,by go_num,fun i hi h0=>(by
     rcases Nat.lt_or_ge i k with h1 | h1
     ·exact mO.u i hi h1
     ·obtain rfl:i=k:=by omega
      rw [<- Hx.u]; exact Hp.u),Rg.acc hb.u bZ⟩
    case measure=>simp [intOf]; omega
   ·have Hp:=U hp
    have s_:=U (show Calls Tryz.prog F (#[.slice ua un uc]++jd) wr (fun e w2=>e=.returned (.bool true)/\BE wr w2) from jJ.mono fun e w2 ⟨h1,h2⟩=>⟨h1.trans (by rw [Hp.u]),h2⟩);clear jJ hp
    go_wp2_with (refine s_.u.mono ?_; rintro e w1 ⟨rfl,bZ⟩)
    go_ret;exact ⟨Rg.iX (N5 n8.u mO.u (by rw [<- Hx.u]; exact Hp.u)).symm,Rg.acc hb.u bZ⟩
  ·obtain rfl:k=mv.length:=by omega
   go_wp2;go_ret;exact ⟨Rg.iX (JC (fun i hi=>mO.u i hi hi)).symm,hb.u⟩
theorem mV (wO:Value) (mv:List (List Nat)) (F:FuncId) (jd:Array Value) (p:List Nat->Bool) (w:World) (h:Rg.jq w wO mv) (hl:mv.length<=2000) (hF:∀ args w,(callFunc F args).run Tryz.prog w=.ok (.enter F args) w) (hf:Wt F jd mv p w) :
  Calls Tryz.prog 102 #[wO,.func (.func F) #[] jd] w fun e w'=>e=.returned (.bool (mv.any p))/\BE w w':=by
 have hi:=U (zl wO mv F jd p w h hl hF hf);have ha:=N6 mv p;generalize xL mv p=r at hi ha;generalize mv.any p=b at ha ⊢;have Ha:=U ha;clear ha h hf hF
 go_enter Tryz.func102,Tryz.ntmps102
 go_wp2_with (refine hi.u.mono ?_; rintro e w1 ⟨rfl,bZ⟩)
 go_ret;exact ⟨Rg.cN Ha.u,bZ⟩
end
section
open Go.Proofs.Ob
attribute [local irreducible] Go.Calls
theorem uP:(Tryz.prog.info? 27).map (·.size)=some 1:=by kernel_rfl
theorem FN {w:World} {b o:Nat} {u:Value} (a:Option Addr) (n c:Nat) (h:w.cell? ⟨b,o,none⟩=some u) (hf:w.frozen? ⟨b,o,none⟩=false) :
  (storeVar 27 ⟨b,o,none⟩ (.slice a n c)).run Tryz.prog w=.ok () (w.setCell ⟨b,o,none⟩ (.slice a n c)):=by
 obtain ⟨i0,hi,dw,bJ,dZ⟩:=info_parts cX
 have h0:(⟨b,o,none⟩:Addr).add 0=⟨b,o,none⟩:=by simp [Addr.add]
 simp [storeVar,sizeOf,typeInfo,hi,bJ,Value.cells,storeCells,store,h0];simp [Sem.run,h,hf]
def UA (w:World) (bu:Nat) (gs:List (List Nat)) (D:Nat) (T:List En) (k:Nat):Prop :=
 ∃ F,w.rowIs bu 142 64 F/\∀ i (h:i<T.length),i<k->Rg.NP w (F T[i].1) (JB gs D T[i].2.2.2)/\Rg.eW (bu+1) (F T[i].1)
theorem UA.lt {w:World} {bu:Nat} {T:List En} {k:Nat} (h:UA w bu gs D T k):bu<w.heap.size:=by
 obtain ⟨F,⟨c,h1,_⟩,_⟩:=h;exact (Array.getElem?_eq_some_iff.1 h1).1
theorem UA.p {w w':World} {bu:Nat} {gs:List (List Nat)} {D:Nat} {T:List En} {k:Nat} (h:UA w bu gs D T k) (hb:BE w w'):UA w' bu gs D T k:=by
 obtain ⟨F,⟨c,h1,h2,h3⟩,h4⟩:=h;exact ⟨F,⟨c,by rw [hb.block bu (Array.getElem?_eq_some_iff.1 h1).1]; exact h1,h2,h3⟩,fun i hi hk=>⟨(h4 i hi hk).1.p hb,(h4 i hi hk).2⟩⟩
theorem UA.start (w:World) (gs:List (List Nat)) (D:Nat) (T:List En):UA (w.alloc (.cells (Array.replicate 64 (.slice none 0 0)) 142)) w.heap.size gs D T 0:=by
 refine ⟨fun _=>.slice none 0 0,?_,fun i _ h=>by omega⟩;have:=World.rowIs_alloc w (Array.replicate 64 (.slice none 0 0)) 142 (fun _=>.slice none 0 0) (fun i hi=>by rw [Array.getElem?_replicate,if_pos (by simpa using hi)])
 simpa using this
theorem UA.put {w:World} {bu:Nat} {T:List En} {k:Nat} (h:UA w bu gs D T k) (hb:BE w W) (hnd:(DN T).Nodup) (hk:k<T.length) (uC:T[k].1<64) {a:Option Addr} {c:Nat} (hu:Rg.oZ w W (.slice a n c) (JB gs D T[k].2.2.2)) :
  (storeVar 27 ⟨bu,0+T[k].1,none⟩ (.slice a n c)).run Tryz.prog W=.ok () (W.setCell ⟨bu,0+T[k].1,none⟩ (.slice a n c))/\UA (W.setCell ⟨bu,0+T[k].1,none⟩ (.slice a n c)) bu gs D T (k+1):=by
 have az:=h.lt;have h':=h.p hb;obtain ⟨F,h1,h2⟩:=h';rw [Nat.zero_add];refine ⟨FN a n c (h1.cell uC) (h1.frozen _),_,h1.set T[k].1 (.slice a n c),fun i hi hik=>?_⟩
 by_cases he:i=k
 ·subst he
  simp only [if_true];have hf:Rg.eW (bu+1) (.slice a n c):=hu.2.mono az;exact ⟨ints_set hu.1 hf (by omega) _,hf⟩
 ·have hne:T[i].1≠T[k].1:=by
   intro e;have:=(List.getElem_inj hnd (h₀:=by rw [qx]; omega) (h₁:=by rw [qx]; omega)).1 ((FD T i (by rw [qx]; omega)).trans (e.trans (FD T k (by rw [qx]; omega)).symm));omega
  obtain ⟨g1,g2⟩:=h2 i hi (by omega);simp only [if_neg hne];exact ⟨ints_set g1 g2 (by omega) _,g2⟩

theorem eN {o:Oper} {a:Act} {w:World} (F:FuncId) (x:Operand) (ho:o.op=.makeFunc (.func F) #[] #[x]) (hx:a.eval x=v):(execOp a.eval o).run Tryz.prog w=.ok (.value (.func (.func F) #[] #[v])) w:=by
 unfold execOp;simp [ho,hx,Instr.makeFunc]

theorem cY (w:World):Rg.Rows w (.slice none 0 0) []:=⟨[],⟨none,0,rfl,by simp,by unfold maxLen; simp,by simp [Rg.oY],fun h=>by simp at h⟩,rfl,fun i h=>by simp at h⟩
end
end Go.Proofs.YtpedbljnhnoohaaGreat
namespace Go.Proofs
open Go.Shelf
def Tryz.DY:Go.Shelf.Ren:=⟨fun | 189=>123 | 125=>139 | 257=>150 | 128=>160 | 129=>161 | 294=>167 | 295=>168 | 296=>169 | 297=>170 | 298=>171 | 299=>172 | 216=>140 | 300=>173 | 301=>174 | 328=>180 | 329=>176 | 330=>177 | 331=>181 | 332=>182 | 215=>162 | 343=>184 | n=>n,fun | 28=>26 | 3=>3 | 46=>177 | 0=>0 | 51=>192 | 53=>194 | 4=>4 | 183=>186 | 182=>185 | 131=>156 | 5=>5 | 9=>9 | 218=>204 | 222=>208 | 228=>212 | 229=>213 | n=>n,fun | n=>n⟩
theorem Tryz.P4:Go.Proofs.Lays.n189 Tryz.prog Tryz.DY:={
 mixed:=by kernel_rfl
 f125:=Tryz.func139.trans (congrArg some (by kernel_rfl))
 f128:=Tryz.func160.trans (congrArg some (by kernel_rfl))
 f129:=Tryz.func161.trans (congrArg some (by kernel_rfl))
 f189:=Tryz.func123.trans (congrArg some (by kernel_rfl))
 f215:=Tryz.func162.trans (congrArg some (by kernel_rfl))
 f216:=Tryz.func140.trans (congrArg some (by kernel_rfl))
 f257:=Tryz.func150.trans (congrArg some (by kernel_rfl))
 f294:=Tryz.func167.trans (congrArg some (by kernel_rfl))
 f295:=Tryz.func168.trans (congrArg some (by kernel_rfl))
 f296:=Tryz.func169.trans (congrArg some (by kernel_rfl))
 f297:=Tryz.func170.trans (congrArg some (by kernel_rfl))
 f298:=Tryz.func171.trans (congrArg some (by kernel_rfl))
 f299:=Tryz.func172.trans (congrArg some (by kernel_rfl))
 f300:=Tryz.func173.trans (congrArg some (by kernel_rfl))
 f301:=Tryz.func174.trans (congrArg some (by kernel_rfl))
 f328:=Tryz.func180.trans (congrArg some (by kernel_rfl))
 f329:=Tryz.func176.trans (congrArg some (by kernel_rfl))
 f330:=Tryz.func177.trans (congrArg some (by kernel_rfl))
 f331:=Tryz.func181.trans (congrArg some (by kernel_rfl))
 f332:=Tryz.func182.trans (congrArg some (by kernel_rfl))
 f343:=Tryz.func184.trans (congrArg some (by kernel_rfl))
 t0:=Tryz.underlying0
 a0:=Tryz.isAgg0
 z0:=Tryz.sizeOf0
 v0:=Tryz.zeroValue0
 t3:=Tryz.underlying3
 a3:=Tryz.isAgg3
 z3:=Tryz.sizeOf3
 v3:=Tryz.zeroValue3
 t4:=Tryz.underlying4
 a4:=Tryz.isAgg4
 z4:=Tryz.sizeOf4
 v4:=Tryz.zeroValue4
 t5:=Tryz.underlying5
 a5:=Tryz.isAgg5
 z5:=Tryz.sizeOf5
 v5:=Tryz.zeroValue5
 t9:=Tryz.underlying9
 a9:=Tryz.isAgg9
 z9:=Tryz.sizeOf9
 v9:=Tryz.zeroValue9
 t28:=Tryz.underlying26
 a28:=Tryz.isAgg26
 z28:=Tryz.sizeOf26
 v28:=Tryz.zeroValue26
 t46:=Tryz.underlying177
 a46:=Tryz.isAgg177
 z46:=Tryz.sizeOf177
 v46:=Tryz.zeroValue177
 t51:=Tryz.underlying192
 a51:=Tryz.isAgg192
 z51:=Tryz.sizeOf192
 v51:=Tryz.zeroValue192
 t53:=Tryz.underlying194
 a53:=Tryz.isAgg194
 z53:=Tryz.sizeOf194
 v53:=Tryz.zeroValue194
 t131:=Tryz.underlying156
 a131:=Tryz.isAgg156
 z131:=Tryz.sizeOf156
 v131:=Tryz.zeroValue156
 t182:=Tryz.underlying185
 a182:=Tryz.isAgg185
 z182:=Tryz.sizeOf185
 v182:=Tryz.zeroValue185
 t183:=Tryz.underlying186
 a183:=Tryz.isAgg186
 z183:=Tryz.sizeOf186
 v183:=Tryz.zeroValue186
 t218:=Tryz.underlying204
 a218:=Tryz.isAgg204
 z218:=Tryz.sizeOf204
 v218:=Tryz.zeroValue204
 t222:=Tryz.underlying208
 a222:=Tryz.isAgg208
 z222:=Tryz.sizeOf208
 v222:=Tryz.zeroValue208
 t228:=Tryz.underlying212
 a228:=Tryz.isAgg212
 z228:=Tryz.sizeOf212
 v228:=Tryz.zeroValue212
 t229:=Tryz.underlying213
 a229:=Tryz.isAgg213
 z229:=Tryz.sizeOf213
 v229:=Tryz.zeroValue213 }
open Go.Sort Go.RowKit in
theorem Tryz.slices_Sort_int (blk off cap:Nat) (zs:List Int) (w:World) (hH:Holds (Value.int .i64) w blk off zs.toArray) (hblk:blk<w.heap.size) (cR:zs.length<4611686018427387904) :
  Calls Tryz.prog 123 #[.slice (some ⟨blk,off,none⟩) zs.length cap] w fun e w' =>
   e=.returned (.tuple #[])/\∃ n os,w'=grow (putRow (Value.int .i64) (Sort.ahead w n) blk off (zs.mergeSort fun x y=>decide (x<=y)).toArray) os:=Any.slices_Sort_int Tryz.P4 blk off cap zs w hH hblk cR
end Go.Proofs
namespace Go.Proofs.YtpedbljnhnoohaaGreat
open Go.RowKit
open Go.Proofs
open Go.Proofs.Ob
attribute [local irreducible] Go.Calls
theorem qC (l:List Int):(jB l).length=l.length:=by
 rw [wI]; exact List.length_mergeSort _
theorem N8 (B n:Nat) (v:Value) (l:List Int) (w:World) (h:w.ownsRow B 3 1 v n (l.map (Value.int .i64))) (hn:0<n) (hm:n<=1000000000) :
  Calls Tryz.prog 123 #[v] w fun e w'=>(∃ r,e=.returned r)/\w'.ownsRow B 3 1 v n ((jB l).map (Value.int .i64))/\w.grownBy w' v.ownBlock:=by
 obtain ⟨h1,h2⟩:=h
 have hl:l.length=n:=by simpa using h1
 rcases h2 with ⟨_,h0⟩ | ⟨g,cap,cur,rfl,hg,hc,h3,h4,h5,h6⟩
 ·omega
 subst hl;rw [Nat.mul_one] at h6;have hH:=holds_of_blockI hc h6;refine (Tryz.slices_Sort_int g 0 cap l w hH (Array.getElem?_eq_some_iff.1 hc).1 (by omega)).mono ?_;rintro e w' ⟨rfl,N,os,rfl⟩;have e1:(l.mergeSort fun x y=>decide (x<=y))=jB l:=(wI l).symm;rw [e1];refine ⟨⟨_,rfl⟩,ownsRow_sortedI (qC l) hg hc h3 h4 h5,grownBy_sortedI _⟩
end Go.Proofs.YtpedbljnhnoohaaGreat
namespace Go.Proofs.Rg
open Go Go.RowKit
variable {P:Program} {md:Region.Mode} {ops:Array Oper} {Q:Exit->Act->World->Prop} {S:Array Bool->World->Prop}
theorem jK {i d:Nat} {I:World->Prop} {R:Value->World->Prop} {K:World->World->Prop} {oi:Oper} {b:Act} (hi:ops[i]?=some oi) (hd:oi.dst=some d) (hw:Region.wanted oi (yielded ops b.tmps)=true)
  (hr:(execOp b.eval oi).run P W=.ok (.value v) W') (hp:I W'/\R v W'/\K W W'):Does P ops Q i d I R K b W :=
 qm (some d) hi hd hw hr ⟨v,rfl,hp⟩
def f_ (B:Nat) (us:List Value) (v:Value) (w:World):Prop:=∃ p,v=.slice (some ⟨p,0,none⟩) us.length us.length/\B<=p/\p<w.heap.size/\∀ j (h:j<us.length),w.cell? ⟨p,j,none⟩=some us[j]
theorem f_.p {us:List Value} {w:World} (h:f_ B us v w) (hb:BE w w'):f_ B us v w':=by
 obtain ⟨p,e,h0,h1,h2⟩:=h;exact ⟨p,e,h0,Nat.lt_of_lt_of_le h1 hb.size,fun j hj=>(hb.cell (p:=⟨p,j,none⟩) h1).trans (h2 j hj)⟩
theorem f_.new (w:World) (us:List Value) (t:TypeId) (hB:B<=w.heap.size):f_ B us (.slice (some ⟨w.heap.size,0,none⟩) us.length us.length) (w.alloc (.cells us.toArray t)) :=
 ⟨w.heap.size,rfl,hB,by simp,fun j hj=>by rw [aW]; simp [List.getElem?_eq_getElem hj]⟩
theorem f_.grown {us:List Value} {w:World} {k:Option Nat} (h:f_ B us v w) (hg:w.grownBy w' k) (hk:∀ j,k=some j->j<B):f_ B us v w':=by
 obtain ⟨p,e,h0,h1,h2⟩:=h
 exact ⟨p,e,h0,Nat.lt_of_lt_of_le h1 hg.size,fun j hj=>by
  rw [<- h2 j hj]
  exact World.cell?_of_block (a:=⟨p,j,none⟩) (hg.block p h1 (fun e=>by have:=hk p e.symm; omega))⟩
theorem f_.Fp {us:List Value} {w:World} (h:f_ B us v w) (hl:us.length<=1000000):cH w v us:=by
 obtain ⟨p,rfl,h0,h1,h2⟩:=h;exact cH.mk h1 (Nat.le_refl _) (by unfold maxLen; omega) (by omega) (fun i hi=>by rw [Nat.zero_add]; exact h2 i hi)
end Go.Proofs.Rg
namespace Go.Proofs.YtpedbljnhnoohaaGreat
open Go.RowKit
open Go.Proofs
section
open Go.Proofs.Ob
attribute [local irreducible] Go.Calls
def sL (B:Nat) (u:Value) (w:World):Prop:=w.ownsRow B 3 1 u 0 []/\∃ p,u=.slice (some ⟨p,0,none⟩) 0 0/\p<w.heap.size/\w.cell? ⟨p,0,none⟩=none
theorem sL.p {u:Value} {w:World} (h:sL B u w) (hb:BE w w'):sL B u w':=by
 obtain ⟨h1,p,e,h2,h3⟩:=h;exact ⟨Rg.bP h1 hb,p,e,Nat.lt_of_lt_of_le h2 hb.size,(hb.cell (p:=⟨p,0,none⟩) h2).trans h3⟩
theorem sL.new (w:World) (hB:B<=w.heap.size):sL B (.slice (some ⟨w.heap.size,0,none⟩) 0 0) (w.alloc (.cells #[] 3)):=by
 refine ⟨⟨rfl,.inr ⟨w.heap.size,0,#[],rfl,hB,by show (w.heap.push _)[w.heap.size]?=_; simp,Nat.le_refl _,Nat.zero_le _,rfl,rfl⟩⟩,w.heap.size,rfl,by simp,by rw [Rg.aW]; rfl⟩
theorem sL.ne {B':Nat} {u:Value} {x:Value} {w:World} (h:sL B u w) (h':Rg.f_ B' [x] v w):∀ p,v=.slice (some ⟨p,0,none⟩) 1 1->u.ownBlock≠some p:=by
 obtain ⟨_,p,rfl,_,h3⟩:=h;obtain ⟨q,rfl,_,_,h4⟩:=h';intro p' e' e;simp at e';subst e';simp [Value.ownBlock] at e;subst e;have:=h4 0 (by simp);rw [h3] at this; cases this
theorem f_.off {x:Value} {w:World} {k:Option Nat} (h:Rg.f_ B [x] v w) (hg:w.grownBy w' k) (hk:∀ p,v=.slice (some ⟨p,0,none⟩) 1 1->k≠some p):Rg.f_ B [x] v w':=by
 obtain ⟨p,e,h0,h1,h2⟩:=h
 exact ⟨p,e,h0,Nat.lt_of_lt_of_le h1 hg.size,fun j hj=>by
  rw [<- h2 j hj]
  exact World.cell?_of_block (a:=⟨p,j,none⟩) (hg.block p h1 (fun e'=>hk p e e'.symm))⟩
theorem qD {l:List Int}:∀ u∈l.map (Value.int .i64),u.oneCell'=true:=fun u hu=>by
 obtain ⟨x,_,rfl⟩:=List.mem_map.1 hu; rfl

theorem uQ {l1 l2:List (List Int)} {w:World} {b:Bool} (h1:Rg.Rows w v1 l1) (h2:Rg.Rows w v2 l2) (hd:Hid (decide (l1=l2)=b)) :
  Calls Tryz.prog 58 #[v1,v2] w fun e w'=>e=.returned (.bool b)/\BE w w':=by
 refine (DM v1 v2 l1 l2 w h1 h2).mono ?_;rintro e w' ⟨rfl,k,rfl⟩;exact ⟨by rw [hd.u],Rg.drewN (Below.refl _ _) k⟩

theorem GA.enter {w:World} {gv:Value} (D:Nat) (h:Rg.jq w gv gs):∃ a c,gv=.slice a gs.length c/\GA (w.alloc (.cells #[.int .i64 ((D:Nat):Int),.slice a gs.length c] 43)) w.heap.size D a gs c/\BE w (w.alloc (.cells #[.int .i64 ((D:Nat):Int),.slice a gs.length c] 43)):=by
 obtain ⟨a,c,rfl,_⟩:=h.shape;exact ⟨a,c,rfl,GA.new h,(Below.refl _ _).alloc (Nat.le_refl _) _⟩

def R2 (B:Nat) (w:World) (v1 v2:Value) (l1 l2:List Int):Prop :=
 B<=w.heap.size/\w.ownsRow B 3 1 v1 l1.length (l1.map (Value.int .i64))/\w.ownsRow B 3 1 v2 l2.length (l2.map (Value.int .i64))/\Rg.jn v1 v2
theorem R2.p {w:World} (h:R2 B w v1 v2 l1 l2) (hb:BE w w'):R2 B w' v1 v2 l1 l2 :=
 ⟨Nat.le_trans h.1 hb.size,Rg.bP h.2.1 hb,Rg.bP h.2.2.1 hb,h.2.2.2⟩
theorem R2.nil {B:Nat} {w:World} (h:B<=w.heap.size):R2 B w (.slice none 0 0) (.slice none 0 0) [] []:=⟨h,World.ownsRow_nil _ _ _ _,World.ownsRow_nil _ _ _ _,Rg.jn.nil _⟩
theorem R2.Mq {w:World} (h:R2 B w v1 v2 l1 l2) (hl:l1.length<1000000) {x:Int} {p c:Nat} (hc:w.cell? ⟨p,0,none⟩=some (.int .i64 x)) (ty:TypeId) :
  ∃ v' X,(Builtin.append_ #[26,26] ty #[v1,.slice (some ⟨p,0,none⟩) 1 c]).run Tryz.prog w=.ok v' X/\R2 B X v' v2 (l1++[x]) l2/\w.grownBy X v1.ownBlock:=by
 obtain ⟨h1,h2,h3,h4⟩:=h;obtain ⟨v',X,r1,r2,r3,r4,_⟩:=fe (P:=Tryz.prog) aQ ty h2 h1 p c hc rfl hl;exact ⟨v',X,r1,⟨Nat.le_trans h1 r3.size,by simpa using r2,h4.keep h3 r3,h4.grow h3 r4 (Nat.le_refl _)⟩,r3⟩
theorem R2.swap {w:World} (h:R2 B w v1 v2 l1 l2):R2 B w v2 v1 l2 l1:=⟨h.1,h.2.2.1,h.2.1,h.2.2.2.symm⟩
variable {t e bt:TypeId} {B X n:Nat} {w w':World} {v lv:Value} {O:List (List Int)} {l:List Int} {F:Nat->Bool}
def sn (O:List (List Int)) (x:Nat):Bool:=decide (∃ l∈O,(x:Int)∈l)
theorem rP:(Tryz.prog.info? 26).map (fun i=>(i.zero,i.size,i.bytes))=some (some (.slice none 0 0),1,24):=by kernel_rfl
theorem bM:Rg.se Tryz.prog 22 26 (.slice none 0 0) 24:=⟨Tryz.underlying22,rP,rfl,by decide⟩
theorem pg (X:World) (u:Value) (hs:∃ a n c,u=.slice a n c):(Instr.buildSlice 22 1 #[(0,u)]).run Tryz.prog X=.ok (.slice (some ⟨X.heap.size,0,none⟩) 1 1) (X.alloc (.cells #[u] 26)):=by
 obtain ⟨i0,hi,dw,bJ,dZ⟩:=info_parts rP;obtain ⟨a,n,c,rfl⟩:=hs;refine run_buildSlice X 22 26 1 _ _ i0 _ Tryz.underlying22 hi dw (by rw [bJ]; decide) (by rw [bJ]; decide) ?_;generalize (fun x=>((Value.slice none 0 0).cells)[x % (Value.slice none 0 0).cells.size]!)=f;rw [bJ];have h1:Array.range (1*1)=#[0]:=rfl;simp [Instr.fill,Value.cells,h1]
end
section
attribute [local irreducible] Go.Calls
theorem zm (v1 v2:Value) (a c:List Nat) (w:World) (h:Rg.NP w v1 a) (h':Rg.NP w v2 c) (PX:∀ x∈a,x<c.length) (hn:a.length<=1000) (h1:1<=a.length) (h2:1<=c.length) :
  Calls Tryz.prog 117 #[v1,v2] w fun e w'=>∃ v,e=.returned v/\Rg.oZ w w' v (Ma.aq a c)/\BE w w':=by
 obtain ⟨ad,cap,rfl,hc,_,_,aP⟩:=h.shape;obtain ⟨b,o,rfl,hb,hr⟩:=aP (by omega);obtain ⟨Bj,lH,rfl,gI,_,_,dy⟩:=h'.shape;obtain ⟨b2,o2,rfl,dh,ig⟩:=dy (by omega);have Hr:=U hr;have Xe:=U ig;have Xf:=U PX;clear hr aP h ig dy h' PX;have h_:=o8 a.length (by omega) w;have bH:=U (World.rowIs_made w (.int .i64 0) a.length 3)
 go_enter Tryz.func117,Tryz.ntmps117
 go_wp2;clear h_
 go_loopw [13] (fun i wr=>∃ k:Nat,k<=a.length/\i=.int .i64 k/\Hid (wr.rowIs w.heap.size 3 a.length (fun j=>.int .i64 (if j<k then ((c.getD (a.getD j 0) 0:Nat):Int) else 0)))/\BE w wr) (fun i _=>a.length - (intOf i).toNat)
 case atStart=>exact ⟨0,by omega,rfl,bH.u.congr (fun i hi=>by simp),(Below.refl _ _).alloc (Nat.le_refl _) _⟩
 case round =>
  obtain ⟨k,hk,rfl,hs,cu⟩:=hrel;obtain ⟨hc,hf⟩:=Rg.sX cu
  by_cases az:k<a.length
  ·have e0:wr.cell? ⟨b,o+k,none⟩=some (.int .i64 ((a[k]:Nat):Int)):=(hc b (o+k) hb).trans (Hr.u k az)
   have zd:a[k]<c.length:=Xf.u _ (List.getElem_mem az);have DO:a.getD k 0=a[k]:=Ma.getD_lt az
   have e1:wr.cell? ⟨b2,o2+a[k],none⟩=some (.int .i64 ((c.getD (a.getD k 0) 0:Nat):Int)):=by
    rw [DO,Ma.getD_lt zd];exact (hc b2 (o2+a[k]) dh).trans (Xe.u a[k] zd)
   generalize a[k]=x at *;have Hga:=U DO;generalize hy:c.getD (a.getD k 0) 0=y at *;have Hy:=U hy;clear hc hf DO hy;have c1:=hs.u.cell az;have f1:=hs.u.frozen k;simp only [Nat.lt_irrefl,if_false] at c1;go_wp2;go_roundw
   case rel =>
    refine ⟨k+1,by omega,by go_num,?_,cu.setCell (Nat.le_refl _) _⟩;refine (hs.u.set k _).congr fun i hi=>?_
    by_cases e:i=k
    ·subst e; rw [if_pos rfl,if_pos (by omega),Hy.u]
    ·rw [if_neg e]
     by_cases e2:i<k
     ·rw [if_pos e2,if_pos (by omega)]
     ·rw [if_neg e2,if_neg (by omega)]
   case measure=>simp [intOf]; omega
  ·obtain rfl:k=a.length:=by omega
   go_wp2;go_ret;refine ⟨_,rfl,⟨Rg.NP.iD hs.u (by rw [Ma.cW]) (by omega) (fun i hi=>?_),Rg.eW.mk _ _ _ _⟩,by assumption⟩;rw [Ma.wz];rw [Ma.cW] at hi;rw [if_pos hi,Ma.getD_lt hi]
theorem JD (n:Nat) (w:World) (hn:n<=1000) :
  Calls Tryz.prog 119 #[.int .i64 n] w fun e w'=>∃ v,e=.returned v/\Rg.oZ w w' v (Ma.bs n)/\BE w w':=by
 have h_:=o8 n (by omega) w;have bH:=U (World.rowIs_made w (.int .i64 0) n 3)
 go_enter Tryz.func119,Tryz.ntmps119
 go_wp2;clear h_
 go_loopw [9] (fun i wr=>∃ k:Nat,k<=n/\i=.int .i64 k/\Hid (wr.rowIs w.heap.size 3 n (fun j=>.int .i64 (if j<k then (j:Int) else 0)))/\BE w wr) (fun i _=>n - (intOf i).toNat)
 case atStart=>exact ⟨0,by omega,rfl,bH.u.congr (fun i hi=>by simp),(Below.refl _ _).alloc (Nat.le_refl _) _⟩
 case round =>
  obtain ⟨k,hk,rfl,hs,cu⟩:=hrel
  by_cases az:k<n
  ·have c1:=hs.u.cell az
   have f1:=hs.u.frozen k;simp only [Nat.lt_irrefl,if_false] at c1;go_wp2;go_roundw
   case rel =>
    refine ⟨k+1,by omega,by go_num,?_,cu.setCell (Nat.le_refl _) _⟩;refine (hs.u.set k _).congr fun i hi=>?_
    by_cases e:i=k
    ·subst e; simp
    ·rw [if_neg e]
     by_cases e2:i<k
     ·rw [if_pos e2,if_pos (by omega)]
     ·rw [if_neg e2,if_neg (by omega)]
   case measure=>simp [intOf]; omega
  ·obtain rfl:k=n:=by omega
   go_wp2;go_ret;refine ⟨_,rfl,⟨Rg.NP.iD hs.u (by rw [Ma.fH]) (by omega) (fun i hi=>?_),Rg.eW.mk _ _ _ _⟩,by assumption⟩;rw [Ma.wy];rw [Ma.fH] at hi;rw [if_pos hi]
theorem zn (v:Value) (a:List Nat) (w:World) (h:Rg.NP w v a) (ha:Ma.kP a) (hn:a.length<=1000) (h1:1<=a.length) :
  Calls Tryz.prog 118 #[v] w fun e w'=>∃ v,e=.returned v/\Rg.oZ w w' v (Ma.bf a)/\BE w w':=by
 obtain ⟨ad,cap,rfl,hc,_,_,aP⟩:=h.shape;obtain ⟨b,o,rfl,hb,hr⟩:=aP (by omega);have Hr:=U hr;clear hr aP h;have h_:=o8 a.length (by omega) w;have bH:=U (World.rowIs_made w (.int .i64 0) a.length 3)
 go_enter Tryz.func118,Tryz.ntmps118
 go_wp2;clear h_
 go_loopw [11] (fun i wr=>∃ k:Nat,k<=a.length/\i=.int .i64 k/\Hid (wr.rowIs w.heap.size 3 a.length (fun j=>.int .i64 (if j∈a.take k then ((a.idxOf j:Nat):Int) else 0)))/\BE w wr) (fun i _=>a.length - (intOf i).toNat)
 case atStart=>exact ⟨0,by omega,rfl,bH.u.congr (fun i hi=>by simp),(Below.refl _ _).alloc (Nat.le_refl _) _⟩
 case round =>
  obtain ⟨k,hk,rfl,hs,cu⟩:=hrel;obtain ⟨hc,hf⟩:=Rg.sX cu
  by_cases az:k<a.length
  ·have n8:k<a.length:=az
   have e0:wr.cell? ⟨b,o+k,none⟩=some (.int .i64 ((a[k]:Nat):Int)):=(hc b (o+k) hb).trans (Hr.u k n8);have zd:a[k]<a.length:=Ma.yT ha n8;have ze:=Ma.n5 ha n8
   have kQ:∀ i,i∈a.take (k+1)↔(i∈a.take k∨i=a[k]):=fun i=>by rw [List.take_succ_eq_append_getElem n8,List.mem_append,List.mem_singleton]
   generalize hx:a[k]=x at *;have Hx:=U hx;have PR:=U ze;have qs:=U kQ;clear hx hc hf ze kQ;have c1:=hs.u.cell zd;have f1:=hs.u.frozen x;generalize (Value.int .i64 (if x∈a.take k then ((a.idxOf x:Nat):Int) else 0))=u0 at c1;go_wp2;go_roundw
   case rel =>
    refine ⟨k+1,by omega,by go_num,?_,cu.setCell (Nat.le_refl _) _⟩;refine (hs.u.set x _).congr fun i hi=>?_
    by_cases e:i=x
    ·subst e; rw [if_pos rfl,if_pos ((qs.u i).2 (.inr rfl)),PR.u]
    ·rw [if_neg e]
     by_cases e2:i∈a.take k
     ·rw [if_pos e2,if_pos ((qs.u i).2 (.inl e2))]
     ·rw [if_neg e2,if_neg (fun e3=>((qs.u i).1 e3).elim e2 e)]
   case measure=>simp [intOf]; omega
  ·obtain rfl:k=a.length:=by omega
   go_wp2;go_ret;refine ⟨_,rfl,⟨Rg.NP.iD hs.u (by rw [Ma.dN]) (by omega) (fun i hi=>?_),Rg.eW.mk _ _ _ _⟩,by assumption⟩;rw [Ma.rM];rw [Ma.dN] at hi;rw [List.take_of_length_le (Nat.le_refl _),if_pos (Ma.ux ha hi)]
theorem im {w:World} {e:TypeId} {size:Nat} (h:w.ownsRow base e size v n xs) (hk:Rg.Kp M w w') (hM:∀ k,M k->v.ownBlock≠some k):w'.ownsRow base e size v n xs:=by
 obtain ⟨h1,h2⟩:=h
 rcases h2 with h2 | ⟨g,cap,cur,rfl,hg,hc,h3⟩
 ·exact ⟨h1,.inl h2⟩
 ·exact ⟨h1,.inr ⟨g,cap,cur,rfl,hg,(hk.block g (Array.getElem?_eq_some_iff.1 hc).1 (fun e=>hM g e (by simp [Value.ownBlock]))).trans hc,h3⟩⟩
def KF (F:Nat->Prop) (w w':World):Prop:=Rg.Kp (fun k=>¬ F k) w w'
theorem KF.refl (F:Nat->Prop) (w:World):KF F w w:=Rg.Kp.refl _ _
theorem KF.size {F:Nat->Prop} {w w':World} (h:KF F w w'):w.heap.size<=w'.heap.size:=Rg.Kp.size h
theorem KF.aD {F:Nat->Prop} {w w':World} (h:BE w w'):KF F w w':=Rg.Kp.aD h
theorem KF.trans {F F':Nat->Prop} {w w' w'':World} (h:KF F w w') (h':KF F' w' w'') (hF:∀ k,F k->F' k):KF F w w'':=Rg.Kp.trans h h' (fun k _ hk hf=>hk (hF k hf))
theorem KF.gS {F F':Nat->Prop} {w w':World} (h:KF F' w w') (hF:∀ k,F k->F' k):KF F w w':=Rg.Kp.gS h (fun k hk hf=>hk (hF k hf))
theorem KF.cell {F:Nat->Prop} {w w':World} (h:KF F w w') {b o:Nat} (hF:F b) (hb:b<w.heap.size):w'.cell? ⟨b,o,none⟩=w.cell? ⟨b,o,none⟩ :=
 World.cell?_of_block (a:=⟨b,o,none⟩) (Rg.Kp.block h b hb (fun e=>e hF))
theorem KF.p {w:World} (h:KF F w w') (hB:B<=w.heap.size) (hF:∀ k,k<B->F k):Below B w w' :=
 ⟨Rg.Kp.os h,Rg.Kp.tape h,Rg.Kp.output h,h.size,fun k hk=>Rg.Kp.block h k (Nat.lt_of_lt_of_le hk hB) (fun e=>e (hF k hk))⟩
def cE (F:Nat->Prop) (w w':World):Nat->Prop:=fun k=>F k∨(w.heap.size<=k/\k<w'.heap.size)
structure KG (F0:Nat->Prop) (w0:World) (F:Nat->Prop) (w:World):Prop where
 sub:∀ k,F0 k->F k
 lt:∀ k,F k->k<w.heap.size
 kf:KF F0 w0 w
theorem KG.refl {F:Nat->Prop} {w:World} (h:∀ k,F k->k<w.heap.size):KG F w F w:=⟨fun _ h=>h,h,KF.refl _ _⟩
theorem KG.up {w:World} (h:KG F0 w0 F w) (hb:BE w w'):KG F0 w0 (cE F w w') w' :=
 ⟨fun k hk=>.inl (h.sub k hk),fun k hk=>by rcases hk with hk | hk; exact Nat.lt_of_lt_of_le (h.lt k hk) hb.size; exact hk.2,KF.trans h.kf (KF.aD (F:=F) hb) h.sub⟩
theorem KG.zp {w:World} (h:KG F0 w0 F w) (hk:KF F w w'):KG F0 w0 F w' :=
 ⟨h.sub,fun k hf=>Nat.lt_of_lt_of_le (h.lt k hf) hk.size,KF.trans h.kf hk h.sub⟩
theorem KG.trans {F0 F F':Nat->Prop} {w0 w w':World} (h:KG F0 w0 F w) (h':KG F w F' w'):KG F0 w0 F' w' :=
 ⟨fun k hk=>h'.sub k (h.sub k hk),h'.lt,KF.trans h.kf h'.kf h.sub⟩
structure CF (F:Nat->Prop) (w:World) (b o:Nat) (v:Value):Prop where
 cell:w.cell? ⟨b,o,none⟩=some v
 N9:F b
 lt:b<w.heap.size
theorem CF.up {w:World} {b o:Nat} (h:CF F w b o v) (hb:BE w w'):CF (cE F w w') w' b o v :=
 ⟨(hb.cell (p:=⟨b,o,none⟩) h.lt).trans h.cell,.inl h.N9,Nat.lt_of_lt_of_le h.lt hb.size⟩
theorem CF.kf {w:World} {b o:Nat} (h:CF F w b o v) (hk:KF F w w'):CF F w' b o v :=
 ⟨(hk.cell h.N9 h.lt).trans h.cell,h.N9,Nat.lt_of_lt_of_le h.lt hk.size⟩
theorem CF.mono {w:World} {b o:Nat} (h:CF F w b o v) (hF:∀ k,F k->F' k):CF F' w b o v:=⟨h.cell,hF _ h.N9,h.lt⟩
theorem CF.kg {w:World} {b o:Nat} (h:CF F w b o v) (hk:KG F w F' w'):CF F' w' b o v:=(h.kf hk.kf).mono hk.sub
theorem N_ {w:World} {us:List Value} (h:Rg.cK F w v us) (hb:BE w w'):Rg.cK (cE F w w') w' v us:=by
 obtain ⟨a,cap,h1,h2,h3,h4,h5⟩:=h;refine ⟨a,cap,h1,h2,h3,h4,fun h0=>?_⟩;obtain ⟨b,o,e1,e2,e3,e4⟩:=h5 h0;exact ⟨b,o,e1,Nat.lt_of_lt_of_le e2 hb.size,.inl e3,fun i hi=>(hb.cell (p:=⟨b,o+i,none⟩) e2).trans (e4 i hi)⟩
def FP (F:Nat->Prop) (w:World) (v:Value) (p:List Nat):Prop:=Rg.FI F w v (Ma.ah p)
theorem FP.np {w:World} {p:List Nat} (h:FP F w v p):Rg.NP w v p:=Rg.FI.ints h
theorem FP.up {w:World} {p:List Nat} (h:FP F w v p) (hb:BE w w'):FP (cE F w w') w' v p:=N_ h hb
theorem FP.kf {w:World} {p:List Nat} (h:FP F w v p) (hk:KF F w w'):FP F w' v p:=Rg.FI.kp h hk (fun _ hF hn=>hn hF)
theorem FP.mono {F F':Nat->Prop} {w:World} {v:Value} {p:List Nat} (h:FP F w v p) (hF:∀ k,F k->F' k):FP F' w v p:=Rg.FI.mono h hF
theorem FP.kg {w:World} {p:List Nat} (h:FP F w v p) (hk:KG F w F' w'):FP F' w' v p:=(h.kf hk.kf).mono hk.sub
theorem FP.new {w:World} {p:List Nat} (h:Rg.oZ w w' v p):FP (cE F w w') w' v p:=by
 obtain ⟨h,hf⟩:=h;obtain ⟨a,cap,h1,h2,h3,h4,h5⟩:=h;refine ⟨a,cap,h1,h2,h3,h4,fun h0=>?_⟩;obtain ⟨b,o,e1,e2,e3⟩:=h5 h0;subst e1;exact ⟨b,o,rfl,e2,.inr ⟨hf _ _ _ h1,e2⟩,e3⟩
theorem FP.shape {w:World} {p:List Nat} (h:FP F w v p) (h1:1<=p.length):∃ b o c,v=.slice (some ⟨b,o,none⟩) p.length c/\F b/\b<w.heap.size/\∀ i (hi:i<p.length),w.cell? ⟨b,o+i,none⟩=some (.int .i64 ((p[i]:Nat):Int)):=by
 obtain ⟨a,cap,e,h2,h3,h4,h5⟩:=h;rw [List.length_map,Ma.aB] at e;obtain ⟨b,o,e1,e2,e3,e4⟩:=h5 (by rw [List.length_map,Ma.aB]; omega);subst e1;exact ⟨b,o,cap,e,e3,e2,fun i hi=>by rw [e4 i (by simp [Ma.aB]; exact hi)]; simp [Ma.ah]⟩
theorem FP.cell {w:World} {b o c:Nat} {p:List Nat} (h:FP F w (.slice (some ⟨b,o,none⟩) n c) p) {i:Nat} (hi:i<p.length):CF F w b (o+i) (.int .i64 ((p.getD i 0:Nat):Int)):=by
 obtain ⟨b',o',c',e,h1,h2,h3⟩:=h.shape (by omega);simp at e;obtain ⟨⟨rfl,rfl⟩,_,_⟩:=e;exact ⟨by rw [h3 i hi]; simp [List.getD,List.getElem?_eq_getElem hi],h1,h2⟩
structure LV where
 g:Value
 us:List Value
 o:Value
 t:Nat->Value
 b:Nat->Value
open Go.Proofs.Cm (Lv bx)
def cont (l:Lv) (v:LV) (m:Nat):Value :=
 if m=0 then v.g else if m=1 then v.o else if m<66 then v.t (m - 2) else if m<130 then v.b (m - 66) else .int .i64 ((l.tried (m - 130):Nat):Int)
structure ml (F:Nat->Prop) (L:Nat) (w:World) (l:Lv) (v:LV):Prop where
 sM:w.ownsRow 0 27 1 v.g l.gens.length v.us
 FU:Rg.bR F w v.us (l.gens.map Ma.ah)
 sN:w.ownsRow 0 3 1 v.o l.orb.length ((Ma.ah l.orb).map (Value.int .i64))
 gF:∀ k,v.g.ownBlock=some k->¬ F k/\k≠L
 oF:∀ k,v.o.ownBlock=some k->¬ F k/\k≠L
 go:∀ k,v.g.ownBlock=some k->v.o.ownBlock≠some k
 some_:∀ p x,p<64->l.rep p=some x->FP F w (v.t p) x/\FP F w (v.b p) (Ma.bf x)
 none_:∀ p,p<64->l.rep p=none->v.t p=.slice none 0 0/\v.b p=.slice none 0 0
def LV.own (v:LV) (k:Nat):Prop:=v.g.ownBlock=some k∨v.o.ownBlock=some k
structure a_ (F:Nat->Prop) (L n:Nat) (w:World) (T:bx) (V:Nat->LV):Prop where
 eP:∀ k,F k->k<w.heap.size
 LF:¬ F L
 row:w.rowIs L 145 (n*194) (fun j=>cont (T (j / 194)) (V (j / 194)) (j % 194))
 lv:∀ i,i<n->ml F L w (T i) (V i)
 kU:∀ i j,i<n->j<n->i≠j->∀ k,(V i).own k->¬ (V j).own k
theorem l0 {w:World} {b:Nat} {t:TypeId} {f:Nat->Value} (h:w.rowIs b t n f):b<w.heap.size:=by
 obtain ⟨c,h1,_⟩:=h;exact (Array.getElem?_eq_some_iff.1 h1).1
theorem a_.lt {w:World} {T:bx} {V:Nat->LV} (h:a_ F L n w T V):L<w.heap.size:=l0 h.row
theorem uR {i m:Nat} (hi:i<n) (hm:m<194):(i*194+m) / 194=i/\(i*194+m) % 194=m/\i*194+m<n*194:=by
 refine ⟨by omega,by omega,?_⟩;have:(i+1)*194<=n*194:=Nat.mul_le_mul_right _ hi;omega
theorem a_.cell {F:Nat->Prop} {L n:Nat} {w:World} {T:bx} {V:Nat->LV} (h:a_ F L n w T V) {i m o:Nat} (hi:i<n) (hm:m<194) (ho:o=i*194+m):w.cell? ⟨L,o,none⟩=some (cont (T i) (V i) m):=by
 subst ho;obtain ⟨h1,h2,h3⟩:=uR hi hm;have:=h.row.cell h3;rw [this,h1,h2]
theorem a_.frozen {F:Nat->Prop} {L n:Nat} {w:World} {T:bx} {V:Nat->LV} (h:a_ F L n w T V) (o:Nat):w.frozen? ⟨L,o,none⟩=false:=h.row.frozen _
theorem ml.kp {F M:Nat->Prop} {L:Nat} {w w':World} {l:Lv} {v:LV} (h:ml F L w l v) (hk:Rg.Kp M w w') (hF:∀ k,F k->¬ M k) (ho:∀ k,v.own k->¬ M k):ml F L w' l v:=by
 refine ⟨im h.sM hk (fun k hm e=>ho k (.inl e) hm),h.FU.kp hk hF,im h.sN hk (fun k hm e=>ho k (.inr e) hm),h.gF,h.oF,h.go,fun p x hp hx=>?_,h.none_⟩;obtain ⟨h1,h2⟩:=h.some_ p x hp hx;exact ⟨Rg.FI.kp h1 hk hF,Rg.FI.kp h2 hk hF⟩
theorem ml.mono {F F':Nat->Prop} {L:Nat} {w:World} {l:Lv} {v:LV} (h:ml F L w l v) (hF:∀ k,F k->F' k) (ho:∀ k,v.own k->¬ F' k):ml F' L w l v:=by
 refine ⟨h.sM,h.FU.mono hF,h.sN,fun k e=>⟨ho k (.inl e),(h.gF k e).2⟩,fun k e=>⟨ho k (.inr e),(h.oF k e).2⟩,h.go,fun p x hp hx=>?_,h.none_⟩;obtain ⟨h1,h2⟩:=h.some_ p x hp hx;exact ⟨h1.mono hF,h2.mono hF⟩
theorem ml.lt {F:Nat->Prop} {L:Nat} {w:World} {l:Lv} {v:LV} (h:ml F L w l v):∀ k,v.own k->k<w.heap.size:=fun k e=>by
 rcases e with e | e
 ·exact (h.sM.lt k e).2
 ·exact (h.sN.lt k e).2
theorem ml.nF {w:World} {l:Lv} {v:LV} (h:ml F L w l v):∀ k,v.own k->¬ F k/\k≠L:=fun k e=>by
 rcases e with e | e
 ·exact h.gF _ e
 ·exact h.oF _ e
theorem eY {w:World} {b:Nat} {t:TypeId} {f:Nat->Value} (h:w.rowIs b t n f) (hk:Rg.Kp M w w') (hM:¬ M b):w'.rowIs b t n f:=by
 have az:=l0 h;obtain ⟨c,h1,h2,h3⟩:=h;exact ⟨c,by rw [hk.block b az hM]; exact h1,h2,h3⟩
theorem a_.up {w:World} {T:bx} {V:Nat->LV} (h:a_ F L n w T V) (hb:BE w w'):a_ (cE F w w') L n w' T V:=by
 have hk:Rg.Kp (fun k=>False) w w':=Rg.Kp.aD hb;have hL:=h.lt
 refine ⟨fun k hk=>by rcases hk with hk | hk; exact Nat.lt_of_lt_of_le (h.eP k hk) hb.size; exact hk.2,fun e=>?_,eY h.row hk id,fun i hi=>?_,h.kU⟩
 ·rcases e with e | e
  ·exact h.LF e
  ·omega
 ·have hv:=h.lv i hi
  refine (hv.kp hk (fun _ _=>id) (fun _ _=>id)).mono (fun k=>.inl) (fun k e=>?_);have h1:=hv.lt k e;have h2:=(hv.nF k e).1
  rintro (h3 | h3)
  ·exact h2 h3
  ·omega
theorem Mv {w:World} {T T':bx} {V V':Nat->LV} {i m o:Nat} {x:Value} (eP:∀ k,F k->k<w.heap.size) (LF:¬ F L)
  (row:w.rowIs L 145 (n*194) (fun j=>cont (T (j / 194)) (V (j / 194)) (j % 194))) (lv:∀ j,j<n->j≠i->ml F L w (T j) (V j))
  (kU:∀ a b,a<n->b<n->a≠b->a≠i->b≠i->∀ k,(V a).own k->¬ (V b).own k) (hi:i<n) (hm:m<194) (ho:o=i*194+m)
  (hT:∀ j,j≠i->T' j=T j/\V' j=V j) (hc:∀ m',m' < 194->cont (T' i) (V' i) m'=if m'=m then x else cont (T i) (V i) m')
  (hv:ml F L w (T' i) (V' i)) (hd:∀ j k,j<n->j≠i->(V' i).own k->¬ (V j).own k) :
  a_ F L n (w.setCell ⟨L,o,none⟩ x) T' V'/\KF F w (w.setCell ⟨L,o,none⟩ x):=by
 subst ho;have hk:Rg.Kp (fun k=>k=L) w (w.setCell ⟨L,i*194+m,none⟩ x):=Rg.Kp.aR rfl;have JE:∀ k,F k->¬ k=L:=fun k hk e=>LF (e▸hk);refine ⟨⟨fun k hf=>Nat.lt_of_lt_of_le (eP k hf) hk.size,LF,?_,fun j hj=>?_,fun a b ha hb fL k h1 h2=>?_⟩,Rg.Kp.gS hk fun k e hf=>JE k hf e⟩
 ·refine (row.set (i*194+m) x).congr fun j hj=>?_
  obtain ⟨h1,h2,_⟩:=uR hi hm
  by_cases e:j / 194=i
  ·have ou:j % 194<194:=Nat.mod_lt _ (by decide)
   have:=hc (j % 194) ou
   by_cases e2:j=i*194+m
   ·rw [if_pos e2,e,this,if_pos (by rw [e2,h2])]
   ·rw [if_neg e2,e,this,if_neg (by omega)]
  ·have e2:j≠i*194+m:=by rintro rfl; exact e h1
   rw [if_neg e2,(hT _ e).1,(hT _ e).2]
 ·by_cases e:j=i
  ·subst e
   exact hv.kp hk JE fun k e=>(hv.nF k e).2
  ·rw [(hT j e).1,(hT j e).2]
   exact (lv j hj e).kp hk JE fun k e'=>((lv j hj e).nF k e').2
 ·by_cases ea:a=i
  ·have eb:b≠i:=fun e=>fL (ea.trans e.symm)
   rw [ea] at h1; rw [(hT b eb).2] at h2;exact hd b k hb eb h1 h2
  ·rw [(hT a ea).2] at h1
   by_cases eb:b=i
   ·rw [eb] at h2
    exact hd a k ha ea h2 h1
   ·rw [(hT b eb).2] at h2
    exact kU a b ha hb fL ea eb k h1 h2
theorem a_.put {w:World} {T T':bx} {V V':Nat->LV} (h:a_ F L n w T V) {i m o:Nat} {x:Value} (hi:i<n) (hm:m<194) (ho:o=i*194+m)
  (hT:∀ j,j≠i->T' j=T j/\V' j=V j) (hc:∀ m',m' < 194->cont (T' i) (V' i) m'=if m'=m then x else cont (T i) (V i) m')
  (hv:ml F L w (T' i) (V' i)) (hd:∀ j k,j<n->j≠i->(V' i).own k->¬ (V j).own k) :
  a_ F L n (w.setCell ⟨L,o,none⟩ x) T' V'/\KF F w (w.setCell ⟨L,o,none⟩ x) :=
 Mv h.eP h.LF h.row (fun j hj _=>h.lv j hj) (fun a b ha hb fL _ _=>h.kU a b ha hb fL) hi hm ho hT hc hv hd
theorem a_.tick {F:Nat->Prop} {L n:Nat} {w:World} {T:bx} {V:Nat->LV} (h:a_ F L n w T V) {i q o:Nat} (hi:i<n) (hq:q<64) (ho:o=i*194+(130+q)) :
  a_ F L n (w.setCell ⟨L,o,none⟩ (.int .i64 (((T i).tried q+1:Nat):Int))) (Cm.tick T i q) V/\KF F w (w.setCell ⟨L,o,none⟩ (.int .i64 (((T i).tried q+1:Nat):Int))):=by
 have hv:=h.lv i hi;refine h.put hi (by omega) ho (fun j hj=>⟨Cm.ja hj,rfl⟩) (fun m' ou=>?_) ?_ (fun j k hj hne e1 e2=>h.kU i j hi hj (Ne.symm hne) k e1 e2)
 ·rw [Cm.ew]
  unfold cont
  by_cases h0:m'=0
  ·subst h0; simp; omega
  by_cases h1:m'=1
  ·subst h1; simp; omega
  by_cases h2:m' < 66
  ·simp [h0,h1,h2]; omega
  by_cases h3:m' < 130
  ·simp [h0,h1,h2,h3]; omega
  ·simp only [h0,h1,h2,h3,if_false]
   by_cases e:m'=130+q
   ·subst e; simp
   ·rw [if_neg e,if_neg (by omega)]
 ·rw [Cm.ew]
  exact ⟨hv.sM,hv.FU,hv.sN,hv.gF,hv.oF,hv.go,hv.some_,hv.none_⟩
def jL (T:bx) (i p:Nat) (y:List Nat):bx:=fun j=>if j=i then { T j with rep:=fun z=>if z=p then some y else (T j).rep z } else T j
def lA (T:bx) (i p:Nat):bx:=fun j=>if j=i then { T j with orb:=(T j).orb++[p] } else T j
def wP (T:bx) (i:Nat) (r:List Nat):bx:=fun j=>if j=i then { T j with gens:=(T j).gens++[r] } else T j
theorem find_eq (T:bx) (i p:Nat) (y:List Nat):Cm.find T i p y=lA (jL T i p y) i p:=by
 funext j
 unfold Cm.find lA jL
 by_cases e:j=i
 ·simp [e]
 ·simp [e]
theorem a_.jL {F:Nat->Prop} {L n:Nat} {w:World} {T:bx} {V:Nat->LV} (h:a_ F L n w T V) {i p o1 o2:Nat} {y:List Nat} {yv bv:Value} (hi:i<n) (hp:p<64) (ho1:o1=i*194+(2+p)) (ho2:o2=i*194+(66+p))
  (hy:FP F w yv y) (hb:FP F w bv (Ma.bf y)) :
  ∃ V',a_ F L n ((w.setCell ⟨L,o1,none⟩ yv).setCell ⟨L,o2,none⟩ bv) (jL T i p y) V'/\KF F w ((w.setCell ⟨L,o1,none⟩ yv).setCell ⟨L,o2,none⟩ bv):=by
 subst ho1 ho2;have hv:=h.lv i hi
 let V1:Nat->LV:=fun j=>if j=i then { V j with t:=fun z=>if z=p then yv else (V j).t z,b:=fun z=>if z=p then bv else (V j).b z } else V j
 have e1:V1 i={ V i with t:=fun z=>if z=p then yv else (V i).t z,b:=fun z=>if z=p then bv else (V i).b z }:=if_pos rfl
 have eT:Go.Proofs.YtpedbljnhnoohaaGreat.jL T i p y i={ T i with rep:=fun z=>if z=p then some y else (T i).rep z }:=if_pos rfl
 have gO:Rg.Kp (fun k=>k=L) w (w.setCell ⟨L,i*194+(2+p),none⟩ yv):=Rg.Kp.aR rfl;have dF:Rg.Kp (fun k=>k=L) (w.setCell ⟨L,i*194+(2+p),none⟩ yv) ((w.setCell ⟨L,i*194+(2+p),none⟩ yv).setCell ⟨L,i*194+(66+p),none⟩ bv):=Rg.Kp.aR rfl;have hk:=Rg.Kp.trans gO dF (fun k _ e=>e);have JE:∀ k,F k->¬ k=L:=fun k hk e=>h.LF (e▸hk)
 have hvi:ml F L w (Go.Proofs.YtpedbljnhnoohaaGreat.jL T i p y i) (V1 i):=by
  rw [eT,e1];refine ⟨hv.sM,hv.FU,hv.sN,hv.gF,hv.oF,hv.go,fun z x hz hx=>?_,fun z hz hx=>?_⟩
  ·have DZ:(if z=p then some y else (T i).rep z)=some x:=hx
   by_cases e:z=p
   ·rw [if_pos e] at DZ; cases DZ
    simp only [e,if_true]; exact ⟨hy,hb⟩
   ·rw [if_neg e] at DZ
    simp only [e,if_false]; exact hv.some_ z x hz DZ
  ·have DZ:(if z=p then some y else (T i).rep z)=none:=hx
   by_cases e:z=p
   ·rw [if_pos e] at DZ; cases DZ
   ·rw [if_neg e] at DZ
    simp only [e,if_false]; exact hv.none_ z hz DZ
 refine ⟨V1,⟨fun k hf=>Nat.lt_of_lt_of_le (h.eP k hf) hk.size,h.LF,?_,fun j hj=>?_,fun a b ha hb fL k h1 h2=>?_⟩,Rg.Kp.gS hk fun k e hf=>JE k hf e⟩
 ·refine ((h.row.set (i*194+(2+p)) yv).set (i*194+(66+p)) bv).congr fun j hj=>?_
  have ou:j % 194<194:=Nat.mod_lt _ (by decide)
  by_cases e:j / 194=i
  ·rw [e,eT,e1]
   by_cases a:j=i*194+(66+p)
   ·have:j % 194=66+p:=by omega
    rw [if_pos a,this]; unfold cont;rw [if_neg (by omega),if_neg (by omega),if_neg (by omega),if_pos (by omega)];simp
   ·rw [if_neg a]
    by_cases b:j=i*194+(2+p)
    ·have:j % 194=2+p:=by omega
     rw [if_pos b,this]; unfold cont;rw [if_neg (by omega),if_neg (by omega),if_pos (by omega)];simp
    ·rw [if_neg b]
     unfold cont
     by_cases h0:j % 194=0
     ·simp [h0]
     by_cases h1:j % 194=1
     ·simp [h1]
     by_cases h2:j % 194<66
     ·simp only [h0,h1,h2,if_false,if_true]
      show _=(if j % 194 - 2=p then yv else (V i).t (j % 194 - 2));rw [if_neg (by omega)]
     by_cases h3:j % 194<130
     ·simp only [h0,h1,h2,h3,if_false,if_true]
      show _=(if j % 194 - 66=p then bv else (V i).b (j % 194 - 66));rw [if_neg (by omega)]
     ·simp [h0,h1,h2,h3]
  ·have ev:V1 (j / 194)=V (j / 194):=if_neg e
   have et:Go.Proofs.YtpedbljnhnoohaaGreat.jL T i p y (j / 194)=T (j / 194):=if_neg e;rw [if_neg (by rintro rfl; exact e (uR hi (by omega)).1),if_neg (by rintro rfl; exact e (uR hi (by omega)).1),ev,et]
 ·by_cases e:j=i
  ·subst e
   exact hvi.kp hk JE fun k e=>(hvi.nF k e).2
  ·have ev:V1 j=V j:=if_neg e
   have et:Go.Proofs.YtpedbljnhnoohaaGreat.jL T i p y j=T j:=if_neg e;rw [ev,et];exact (h.lv j hj).kp hk JE fun k e=>((h.lv j hj).nF k e).2
 ·have ho:∀ j k,(V1 j).own k->(V j).own k:=fun j k hk=>by
   by_cases e:j=i
   ·subst e; rw [e1] at hk; exact hk
   ·have ev:V1 j=V j:=if_neg e
    rwa [ev] at hk
  exact h.kU a b ha hb fL k (ho a k h1) (ho b k h2)
theorem tj {w:World} {T:bx} {V:Nat->LV} (h:a_ F L n w T V) {i p o:Nat} (hi:i<n) (hp:p<64) (ho:o=i*194+(2+p)):w.cell? ⟨L,o,none⟩=some ((V i).t p):=by
 rw [h.cell hi (m:=2+p) (by omega) ho];unfold cont;rw [if_neg (by omega),if_neg (by omega),if_pos (by omega),show 2+p - 2=p by omega]
theorem JF {w:World} {T:bx} {V:Nat->LV} (h:a_ F L n w T V) {i p o:Nat} (hi:i<n) (hp:p<64) (ho:o=i*194+(66+p)):w.cell? ⟨L,o,none⟩=some ((V i).b p):=by
 rw [h.cell hi (m:=66+p) (by omega) ho];unfold cont;rw [if_neg (by omega),if_neg (by omega),if_neg (by omega),if_pos (by omega),show 66+p - 66=p by omega]
theorem Oa {w:World} {T:bx} {V:Nat->LV} (h:a_ F L n w T V) {i p o:Nat} (hi:i<n) (hp:p<64) (ho:o=i*194+(130+p)):w.cell? ⟨L,o,none⟩=some (.int .i64 (((T i).tried p:Nat):Int)):=by
 rw [h.cell hi (m:=130+p) (by omega) ho];unfold cont;rw [if_neg (by omega),if_neg (by omega),if_neg (by omega),if_neg (by omega),show 130+p - 130=p by omega]
theorem P5 {w:World} {T:bx} {V:Nat->LV} (h:a_ F L n w T V) {i o:Nat} (hi:i<n) (ho:o=i*194):w.cell? ⟨L,o,none⟩=some (V i).g:=by
 rw [h.cell hi (m:=0) (by omega) ho]; rfl
theorem xM {w:World} {T:bx} {V:Nat->LV} (h:a_ F L n w T V) {i o:Nat} (hi:i<n) (ho:o=i*194+1):w.cell? ⟨L,o,none⟩=some (V i).o:=by
 rw [h.cell hi (m:=1) (by omega) ho]; rfl
end
section
open Go.Proofs.Cm (Lv bx)
attribute [local irreducible] Go.Calls
theorem a_.aaC {w:World} {T:bx} {V:Nat->LV} (h:a_ F L n w T V) {i o:Nat} (hi:i<n) (ho:o=i*194) {r:List Nat} (hr:FP F w rv r) (hs:∃ a m c,rv=.slice a m c) (hl:(T i).gens.length<1000000) (ty:TypeId) :
  ∃ a c X,(Builtin.append_ #[41,41] ty #[(V i).g,.slice (some ⟨w.heap.size,0,none⟩) 1 1]).run Tryz.prog (w.alloc (.cells #[rv] 27))=.ok (.slice a ((T i).gens.length+1) c) X /\
   X.cell? ⟨L,o,none⟩=some (V i).g/\X.frozen? ⟨L,o,none⟩=false/\∃ V',a_ F L n (X.setCell ⟨L,o,none⟩ (.slice a ((T i).gens.length+1) c)) (wP T i r) V'/\KF F w (X.setCell ⟨L,o,none⟩ (.slice a ((T i).gens.length+1) c)):=by
 subst ho;have hv:=h.lv i hi;obtain ⟨a0,m0,c0,rfl⟩:=hs;have gO:Rg.Kp (fun _=>False) w (w.alloc (.cells #[.slice a0 m0 c0] 27)):=Rg.Kp.aD ((Below.refl _ _).alloc (Nat.le_refl _) _)
 have cR:(w.alloc (.cells #[.slice a0 m0 c0] 27)).heap.size=w.heap.size+1:=by simp
 have yB:=hv.kp gO (fun _ _=>id) (fun _ _=>id);obtain ⟨v',X,r1,r2,r3,r4,a,c,rfl⟩:=fe (P:=Tryz.prog) aM ty yB.sM (Nat.zero_le _) w.heap.size 1 (u:=.slice a0 m0 c0) (by rw [Rg.aW]; rfl) rfl hl;have jM:Rg.Kp (fun k=>(V i).g.ownBlock=some k) w X:=Rg.Kp.trans (M:=fun k=>(V i).g.ownBlock=some k) (gO.gS fun _=>False.elim) (Rg.Kp.cC r3 fun _ e=>e) (fun _ _ e=>e);have yC:∀ k,F k->¬ (V i).g.ownBlock=some k:=fun k hk e=>(hv.gF k e).1 hk;have P6:¬ (V i).g.ownBlock=some L:=fun e=>(hv.gF L e).2 rfl
 have Xo:X.cell? ⟨L,i*194,none⟩=some (V i).g:=by
  rw [World.cell?_of_block (w:=w) (a:=⟨L,i*194,none⟩) (jM.block L h.lt P6)];exact P5 h hi rfl
 have bH:=eY h.row jM P6
 refine ⟨a,c,X,r1,Xo,bH.frozen _,fun j=>if j=i then { V i with g:=.slice a ((T i).gens.length+1) c,us:=(V i).us++[.slice a0 m0 c0] } else V j,?_⟩
 have bV:∀ k,(Value.slice a ((T i).gens.length+1) c).ownBlock=some k->(V i).g.ownBlock=some k∨k=w.heap.size+1:=fun k e=>by
  rcases r4 with r4 | r4
  ·exact .inl (by rw [<- r4]; exact e)
  ·rw [r4] at e; injection e with e; exact .inr (by omega)
 have xN:=Mv (T:=T) (T':=wP T i r) (V:=V) (V':=fun j=>if j=i then { V i with g:=.slice a ((T i).gens.length+1) c,us:=(V i).us++[.slice a0 m0 c0] } else V j) (x:=.slice a ((T i).gens.length+1) c)
  (fun k hk=>Nat.lt_of_lt_of_le (h.eP k hk) jM.size) h.LF bH (fun j hj hne=>(h.lv j hj).kp jM yC (fun k e e2=>h.kU j i hj hi hne k e (.inl e2)))
  (fun a b ha hb fL _ _=>h.kU a b ha hb fL) hi (m:=0) (by omega) rfl (fun j hj=>⟨if_neg hj,if_neg hj⟩) ?_ ?_ ?_
 ·exact ⟨xN.1,Rg.Kp.trans (jM.gS fun k e hf=>yC k hf e) xN.2 (fun _ _ e=>e)⟩
 ·intro m' ou
  simp only [if_true,wP];unfold cont
  by_cases h0:m'=0
  ·simp [h0]
  by_cases h1:m'=1
  ·simp [h1]
  ·simp [h0,h1]
 ·simp only [if_true,wP]
  have hF:=hv.kp (M:=fun _=>False) (w':=w) (Rg.Kp.refl _ _) (fun _ _=>id) (fun _ _=>id);have az:=hv.lt;have jC:=fun q x hq hx=>(hv.some_ q x hq hx);refine ⟨?_,?_,?_,?_,hv.oF,?_,fun q x hq hx=>⟨Rg.FI.kp (jC q x hq hx).1 jM yC,Rg.FI.kp (jC q x hq hx).2 jM yC⟩,hv.none_⟩
  ·rw [List.length_append]; exact r2
  ·rw [List.map_append]
   exact (hv.FU.kp jM yC).app (Rg.bR.one (Rg.FI.kp hr jM yC))
  ·exact im hv.sN jM (fun k e e2=>hv.go k e e2)
  ·intro k e
   rcases bV k e with e | e
   ·exact hv.gF k e
   ·exact ⟨fun hf=>by have:=h.eP k hf; omega,by have:=h.lt; omega⟩
  ·intro k e e2
   rcases bV k e with e | e
   ·exact hv.go k e e2
   ·have:=az k (.inr e2); omega
 ·intro j k hj hne e
  simp only [if_true] at e
  rcases e with e | e
  ·rcases bV k e with e | e
   ·exact h.kU i j hi hj (Ne.symm hne) k (.inl e)
   ·intro e2; have:=(h.lv j hj).lt k e2; omega
  ·exact h.kU i j hi hj (Ne.symm hne) k (.inr e)
theorem a_.aaD {w:World} {T:bx} {V:Nat->LV} (h:a_ F L n w T V) {i o:Nat} (hi:i<n) (ho:o=i*194+1) (p:Nat) (hl:(T i).orb.length<1000000) (ty:TypeId) :
  ∃ a c X,(Builtin.append_ #[26,26] ty #[(V i).o,.slice (some ⟨w.heap.size,0,none⟩) 1 1]).run Tryz.prog (w.alloc (.cells #[.int .i64 ((p:Nat):Int)] 3))=.ok (.slice a ((T i).orb.length+1) c) X /\
   X.cell? ⟨L,o,none⟩=some (V i).o/\X.frozen? ⟨L,o,none⟩=false/\∃ V',a_ F L n (X.setCell ⟨L,o,none⟩ (.slice a ((T i).orb.length+1) c)) (lA T i p) V'/\KF F w (X.setCell ⟨L,o,none⟩ (.slice a ((T i).orb.length+1) c)):=by
 subst ho;have hv:=h.lv i hi;have gO:Rg.Kp (fun _=>False) w (w.alloc (.cells #[.int .i64 (p:Int)] 3)):=Rg.Kp.aD ((Below.refl _ _).alloc (Nat.le_refl _) _)
 have cR:(w.alloc (.cells #[.int .i64 (p:Int)] 3)).heap.size=w.heap.size+1:=by simp
 have yB:=hv.kp gO (fun _ _=>id) (fun _ _=>id);obtain ⟨v',X,r1,r2,r3,r4,a,c,rfl⟩:=fe (P:=Tryz.prog) aQ ty yB.sN (Nat.zero_le _) w.heap.size 1 (u:=.int .i64 (p:Int)) (by rw [Rg.aW]; rfl) rfl hl;have jM:Rg.Kp (fun k=>(V i).o.ownBlock=some k) w X:=Rg.Kp.trans (M:=fun k=>(V i).o.ownBlock=some k) (gO.gS fun _=>False.elim) (Rg.Kp.cC r3 fun _ e=>e) (fun _ _ e=>e);have yC:∀ k,F k->¬ (V i).o.ownBlock=some k:=fun k hk e=>(hv.oF k e).1 hk;have P6:¬ (V i).o.ownBlock=some L:=fun e=>(hv.oF L e).2 rfl
 have Xo:X.cell? ⟨L,i*194+1,none⟩=some (V i).o:=by
  rw [World.cell?_of_block (w:=w) (a:=⟨L,i*194+1,none⟩) (jM.block L h.lt P6)];exact xM h hi rfl
 have bH:=eY h.row jM P6
 refine ⟨a,c,X,r1,Xo,bH.frozen _,fun j=>if j=i then { V i with o:=.slice a ((T i).orb.length+1) c } else V j,?_⟩
 have bV:∀ k,(Value.slice a ((T i).orb.length+1) c).ownBlock=some k->(V i).o.ownBlock=some k∨k=w.heap.size+1:=fun k e=>by
  rcases r4 with r4 | r4
  ·exact .inl (by rw [<- r4]; exact e)
  ·rw [r4] at e; injection e with e; exact .inr (by omega)
 have xN:=Mv (T:=T) (T':=lA T i p) (V:=V) (V':=fun j=>if j=i then { V i with o:=.slice a ((T i).orb.length+1) c } else V j) (x:=.slice a ((T i).orb.length+1) c)
  (fun k hk=>Nat.lt_of_lt_of_le (h.eP k hk) jM.size) h.LF bH (fun j hj hne=>(h.lv j hj).kp jM yC (fun k e e2=>h.kU j i hj hi hne k e (.inr e2)))
  (fun a b ha hb fL _ _=>h.kU a b ha hb fL) hi (m:=1) (by omega) rfl (fun j hj=>⟨if_neg hj,if_neg hj⟩) ?_ ?_ ?_
 ·exact ⟨xN.1,Rg.Kp.trans (jM.gS fun k e hf=>yC k hf e) xN.2 (fun _ _ e=>e)⟩
 ·intro m' ou
  simp only [if_true,lA];unfold cont
  by_cases h0:m'=0
  ·simp [h0]
  by_cases h1:m'=1
  ·simp [h1]
  ·simp [h0,h1]
 ·simp only [if_true,lA]
  have hF:=hv.kp (M:=fun _=>False) (w':=w) (Rg.Kp.refl _ _) (fun _ _=>id) (fun _ _=>id);have az:=hv.lt;have jC:=fun q x hq hx=>(hv.some_ q x hq hx);refine ⟨?_,hv.FU.kp jM yC,?_,hv.gF,?_,?_,fun q x hq hx=>⟨Rg.FI.kp (jC q x hq hx).1 jM yC,Rg.FI.kp (jC q x hq hx).2 jM yC⟩,hv.none_⟩
  ·exact im hv.sM jM (fun k e e2=>hv.go k e2 e)
  ·have e1:(Ma.ah ((T i).orb++[p])).map (Value.int .i64)=(Ma.ah (T i).orb).map (Value.int .i64)++[.int .i64 (p:Int)]:=by simp [Ma.ah]
   rw [e1,List.length_append]; exact r2
  ·intro k e
   rcases bV k e with e | e
   ·exact hv.oF k e
   ·exact ⟨fun hf=>by have:=h.eP k hf; omega,by have:=h.lt; omega⟩
  ·intro k e e2
   rcases bV k e2 with e2 | e2
   ·exact hv.go k e e2
   ·have:=az k (.inl e); omega
 ·intro j k hj hne e
  simp only [if_true] at e
  rcases e with e | e
  ·exact h.kU i j hi hj (Ne.symm hne) k (.inl e)
  ·rcases bV k e with e | e
   ·exact h.kU i j hi hj (Ne.symm hne) k (.inr e)
   ·intro e2; have:=(h.lv j hj).lt k e2; omega
theorem FV (b o:Nat) (w:World):(Instr.fieldAt 145 (.pointer (some ⟨b,o,none⟩)) 0).run Tryz.prog w=.ok (.pointer (some ⟨b,o,none⟩)) w:=by kernel_rfl
theorem Cz (b o:Nat) (w:World):(Instr.fieldAt 145 (.pointer (some ⟨b,o,none⟩)) 1).run Tryz.prog w=.ok (.pointer (some ⟨b,o+1,none⟩)) w:=by kernel_rfl
theorem xO (b o:Nat) (w:World):(Instr.fieldAt 145 (.pointer (some ⟨b,o,none⟩)) 2).run Tryz.prog w=.ok (.pointer (some ⟨b,o+2,none⟩)) w:=by kernel_rfl
theorem CC (b o:Nat) (w:World):(Instr.fieldAt 145 (.pointer (some ⟨b,o,none⟩)) 3).run Tryz.prog w=.ok (.pointer (some ⟨b,o+66,none⟩)) w:=by kernel_rfl
theorem FW (b o:Nat) (w:World):(Instr.fieldAt 145 (.pointer (some ⟨b,o,none⟩)) 4).run Tryz.prog w=.ok (.pointer (some ⟨b,o+130,none⟩)) w:=by kernel_rfl
theorem zq (b:Nat) (w:World):(Instr.fieldAt 137 (.pointer (some ⟨b,0,none⟩)) 0).run Tryz.prog w=.ok (.pointer (some ⟨b,0,none⟩)) w:=by kernel_rfl
theorem kC (b:Nat) (w:World):(Instr.fieldAt 137 (.pointer (some ⟨b,0,none⟩)) 1).run Tryz.prog w=.ok (.pointer (some ⟨b,1,none⟩)) w:=by kernel_rfl
theorem iq:(Tryz.prog.info? 145).map (·.size)=some 194:=by kernel_rfl
theorem D0 {o:Oper} {a:Act} {w:World} {t e:TypeId} {z:Nat} (x y:Operand) (ho:o.op=.indexAddr t x y) (hu:Tryz.prog.underlying t=some (.slice e)) (cR:(Tryz.prog.info? e).map (·.size)=some z) (b of len cap i:Nat) (hx:a.eval x=.slice (some ⟨b,of,none⟩) len cap) (hy:a.eval y=.int .i64 (i:Int)) (hi:i<len) :
  (execOp a.eval o).run Tryz.prog w=.ok (.value (.pointer (some ⟨b,of+i*z,none⟩))) w:=by
 obtain ⟨ie,Jy,hs⟩:=Option.map_eq_some_iff.1 cR;have h1:(0:Int)<=(i:Int)/\(i:Int)<(len:Int):=⟨by omega,by omega⟩
 have hr:(Instr.indexAt t (.slice (some ⟨b,of,none⟩) len cap) (.int .i64 (i:Int))).run Tryz.prog w=.ok (.pointer (some ⟨b,of+i*z,none⟩)) w:=by
  simp [Instr.indexAt,asIntOf,run_underlying hu,sizeOf,typeInfo,Jy,hs,h1];rw [if_pos hi];unfold Addr.add
  split
  ·rename_i h0; rw [h0]; rfl
  ·rfl
 unfold execOp;simp only [ho,hx,hy,Sem.run_bind,Sem.run_pure,hr,Result.andThen_ok]
theorem bn {o:Oper} {a:Act} {w:World} {t e:TypeId} {z:Nat} (x y:Operand) (ho:o.op=.indexAddr t x y) (hu:Tryz.prog.underlying t=some (.slice e)) (cR:(Tryz.prog.info? e).map (·.size)=some z) (b len cap i:Nat) (hx:a.eval x=.slice (some ⟨b,0,none⟩) len cap) (hy:a.eval y=.int .i64 (i:Int)) (hi:i<len) :
  (execOp a.eval o).run Tryz.prog w=.ok (.value (.pointer (some ⟨b,i*z,none⟩))) w:=by
 have:=D0 (w:=w) x y ho hu cR b 0 len cap i hx hy hi
 rwa [Nat.zero_add] at this
theorem uS {a b:List Nat} {w:World} (h1:FP F w v1 a) (h2:FP F w v2 b) (ga:Cm.Gd n a) (gb:Cm.Gd n b) (hn:1<=n) (aZ:n<=64) :
  Calls Tryz.prog 117 #[v1,v2] w fun e w'=>∃ v,e=.returned v/\FP (cE F w w') w' v (Ma.aq a b)/\BE w w':=by
 have e1:=ga.2;have e2:=gb.2;refine (zm v1 v2 a b w h1.np h2.np (fun x hx=>by have:=ga.1.1 x hx; omega) (by omega) (by omega) (by omega)).mono ?_;rintro e w' ⟨v,rfl,hv,hb⟩;exact ⟨v,rfl,FP.new hv,hb⟩
theorem P7 {a:List Nat} {w:World} (h1:FP F w v1 a) (ga:Cm.Gd n a) (hn:1<=n) (aZ:n<=64) :
  Calls Tryz.prog 118 #[v1] w fun e w'=>∃ v,e=.returned v/\FP (cE F w w') w' v (Ma.bf a)/\BE w w':=by
 have e1:=ga.2;refine (zn v1 a w h1.np ga.1 (by omega) (by omega)).mono ?_;rintro e w' ⟨v,rfl,hv,hb⟩;exact ⟨v,rfl,FP.new hv,hb⟩
theorem FZ (n:Nat) (w:World) (aZ:n<=64) :
  Calls Tryz.prog 119 #[.int .i64 n] w fun e w'=>∃ v,e=.returned v/\FP (cE F w w') w' v (Ma.bs n)/\BE w w':=by
 refine (JD n w (by omega)).mono ?_;rintro e w' ⟨v,rfl,hv,hb⟩;exact ⟨v,rfl,FP.new hv,hb⟩
end
section
open Go.Proofs.Cm (Lv bx cw)
attribute [local irreducible] Go.Calls
theorem zr (args:Array Value) (w:World):(callFunc 117 args).run Tryz.prog w=.ok (.enter 117 args) w:=by kernel_rfl
theorem tq {o:Oper} {a:Act} {w:World} (x y:Operand) (ho:o.op=.binOp .eql 27 x y 27) (hx:a.eval x=.slice none 0 0) (hy:a.eval y=.slice none 0 0):(execOp a.eval o).run Tryz.prog w=.ok (.value (.bool true)) w:=by
 have h1:(binOp .eql 27 (.slice none 0 0) (.slice none 0 0)).run Tryz.prog w=.ok (.bool true) w:=by kernel_rfl
 have hg:(eqGuard .eql 27 x y (.slice none 0 0) (.slice none 0 0)).run Tryz.prog w=.ok () w:=by
  simp [eqGuard]
 unfold execOp;simp only [ho,hx,hy,Sem.run_bind,Sem.run_pure,hg,h1,Result.andThen_ok]
theorem kD {o:Oper} {a:Act} {w:World} {ad:Addr} {c:Nat} (x y:Operand) (ho:o.op=.binOp .eql 27 x y 27) (hx:a.eval x=.slice (some ad) n c) (hy:a.eval y=.slice none 0 0):(execOp a.eval o).run Tryz.prog w=.ok (.value (.bool false)) w:=by
 have h1:(binOp .eql 27 (.slice (some ad) n c) (.slice none 0 0)).run Tryz.prog w=.ok (.bool false) w:=by kernel_rfl
 have hg:(eqGuard .eql 27 x y (.slice (some ad) n c) (.slice none 0 0)).run Tryz.prog w=.ok () w:=by
  simp [eqGuard]
 unfold execOp;simp only [ho,hx,hy,Sem.run_bind,Sem.run_pure,hg,h1,Result.andThen_ok]
theorem a_.byS {w:World} {T:bx} {V:Nat->LV} (h:a_ F L n w T V) {i p:Nat} (hi:i<n) (hp:p<64) {u:List Nat} (hu:cw T i p=some u) (gu:Cm.Gd n u) (hn:1<=n):∃ b o c,(V i).b p=.slice (some ⟨b,o,none⟩) n c/\FP F w (.slice (some ⟨b,o,none⟩) n c) (Ma.bf u):=by
 have h1:=((h.lv i hi).some_ p u hp hu).2;obtain ⟨b,o,c,e,_⟩:=h1.shape (by rw [(Cm.aX gu).2]; exact hn);rw [(Cm.aX gu).2] at e;exact ⟨b,o,c,e,by rw [<- e]; exact h1⟩
theorem a_.UO {w:World} {T:bx} {V:Nat->LV} (h:a_ F L n w T V) {i p:Nat} (hi:i<n) (hp:p<64) {u:List Nat} (hu:cw T i p=some u) (gu:Cm.Gd n u) (hn:1<=n):∃ b o c,(V i).t p=.slice (some ⟨b,o,none⟩) n c/\FP F w (.slice (some ⟨b,o,none⟩) n c) u:=by
 have h1:=((h.lv i hi).some_ p u hp hu).1;obtain ⟨b,o,c,e,_⟩:=h1.shape (by rw [gu.2]; exact hn);rw [gu.2] at e;exact ⟨b,o,c,e,by rw [<- e]; exact h1⟩
theorem FP.du {w:World} {p:List Nat} (h:FP F w v p) (gp:Cm.Gd n p) (hn:1<=n):∃ b o c,v=.slice (some ⟨b,o,none⟩) n c:=by
 obtain ⟨b,o,c,e,_⟩:=h.shape (by rw [gp.2]; exact hn);rw [gp.2] at e;exact ⟨b,o,c,e⟩
theorem FP.ap {F:Nat->Prop} {n:Nat} {w:World} {b o m c:Nat} {p:List Nat} (h:FP F w (.slice (some ⟨b,o,none⟩) m c) p) (gp:Cm.Gd n p) {i:Nat} (hi:i<n):CF F w b (o+i) (.int .i64 ((Cm.ap p i:Nat):Int)):=h.cell (by rw [gp.2]; exact hi)
theorem Oc {w:World} {T:bx} {V:Nat->LV} (hT:a_ F L n w T V) (cI:CF F w tb 0 (.int .i64 ((n:Nat):Int))) (dp:CF F w tb 1 (.slice (some ⟨L,0,none⟩) n n)) (aU:1<=n) (aZ:n<=64) {x:List Nat} {i0:Nat} (hx:FP F w xv x) (gx:Cm.Gd n x) (ny:i0<=n) (F8:Cm.Fx i0 x) (hr:Cm.Rp n i0 (cw T)) :
  Calls Tryz.prog 120 #[.pointer (some ⟨tb,0,none⟩),xv,.int .i64 ((i0:Nat):Int)] w fun e w'=>∃ F' rv,e=.returned (.tuple #[.int .i64 (((Cm.dn n (cw T) (n - i0) x).1:Nat):Int),rv])/\KG F w F' w'/\a_ F' L n w' T V/\FP F' w' rv (Cm.dn n (cw T) (n - i0) x).2/\BE w w':=by
 obtain ⟨xb0,xo0,xc0,rfl⟩:=hx.du gx aU;have K:=U (KG.refl hT.eP);have HT:=U hT;have C0:=U cI;have C1:=U dp;have X:=U hx;have HR:=U hr;obtain ⟨A,hA⟩:∃ A,Hid (A=Cm.dn n (cw T) (n - i0) x):=⟨_,U rfl⟩;rw [<- hA.u];have KB:=U (bi w);have uT:=cI.cell;have hS0:=U hA.u.symm;clear hT cI dp hx hr
 go_enter Tryz.func120,Tryz.ntmps120
 go_wp2
 go_loopw [1,8] (fun yv iv wr=>∃ (i:Nat) (y:List Nat) (F1:Nat->Prop),i0<=i/\i<=n/\iv=.int .i64 i/\Hid (FP F1 wr yv y)/\Hid (a_ F1 L n wr T V)/\Hid (CF F1 wr tb 0 (.int .i64 ((n:Nat):Int)))/\Hid (CF F1 wr tb 1 (.slice (some ⟨L,0,none⟩) n n))/\Hid (KG F w F1 wr)/\Hid (BE w wr)/\Hid (Cm.Gd n y)/\Hid (Cm.Fx i y)/\Hid (Cm.dn n (cw T) (n - i) y=A)) (fun _ iv _=>n - (intOf iv).toNat)
 case atStart=>exact ⟨i0,x,F,Nat.le_refl _,ny,rfl,X,HT,C0,C1,K,KB,U gx,U F8,hS0⟩
 case round =>
  clear X HT C0 C1 K KB uT hS0 F8 gx;obtain ⟨i,y,F,Bh,iE,rfl,X,HT,C0,C1,K,KB,GY,FY,HS⟩:=hrel;have uT:=C0.u.cell
  by_cases aS:i<n
  ·have yD:(i:Int)<(n:Int):=by omega
   obtain ⟨xb,xo,xc,rfl⟩:=X.u.du GY.u aU;have gP:=Cm.cS GY.u aS;obtain ⟨q,hq⟩:∃ q:Nat,Hid (q=Cm.ap y i):=⟨_,U rfl⟩;rw [<- hq.u] at gP;have CX:=U (show CF F wr xb (xo+i) (.int .i64 ((q:Nat):Int)) by rw [hq.u]; exact X.u.ap GY.u aS)
   have kq:q<64:=by omega
   have bN:=U aS
   cases dJ:cw T i q with
   | none =>
    have hby:=((HT.u.lv i aS).none_ q kq dJ).2;have CB:=U (show wr.cell? ⟨L,i*194+66+q,none⟩=some (.slice none 0 0) by rw [JF HT.u aS kq (by omega),hby])
    have HE:=U (show A=(i,y) by
     rw [<- HS.u]
     have e1:n - i=(n - i - 1)+1:=by omega
     rw [e1,Cm.kA]
     ·rw [show n - (n - i - 1+1)=i by omega]
     ·rw [show n - (n - i - 1+1)=i by omega,<- hq.u]; exact dJ)
    have ox:=U HT.u.lt;clear hby dJ;go_upto_region 4 with fail;have d_:BE wr wr.drew:=(Below.refl _ _).drew;replace HT:=U (HT.u.up d_);replace KB:=U (Rg.acc KB.u d_);replace CB:=U ((d_.cell (p:=⟨L,i*194+66+q,none⟩) ox.u).trans CB.u);replace ox:=U (Nat.lt_of_lt_of_le ox.u d_.size);clear d_;have aj:BE wr wr.drew:=(Below.refl _ _).drew;replace X:=U (X.u.up aj);replace C0:=U (C0.u.up aj);replace C1:=U (C1.u.up aj);replace CX:=U (CX.u.up aj);replace K:=U (K.u.up aj);generalize cE F wr wr.drew=F1 at *;clear aj;refine Rg.Any.begin (S:=Rg.aK 13 (fun _=>True) (fun W=>Below wr.drew.heap.size wr.drew W)) mix ?_;generalize wr.drew=w1 at *;have hS:∀ (l:Array Bool) W,BE w1 W->Rg.aK 13 (fun _=>True) (fun W=>BE w1 W) l W:=fun l W h=>⟨.inr trivial,h⟩;have hI:BE w1 w1:=Below.refl _ _;refine d8 0 13 (.pointer (some ⟨tb,0,none⟩)) 19 (hS _ _ hI)<|d7 1 13 (.pointer (some ⟨tb,0,none⟩)) 20 rfl rfl (j3 fun w=>bh _ rfl rfl) (hS _ _ hI)<|d7 2 13 (.pointer (some ⟨tb,1,none⟩)) 21 rfl rfl (j3 fun w=>aw _ rfl rfl (kC _ _)) (hS _ _ hI)<|d7 3 13 (.slice (some ⟨L,0,none⟩) n n) 22 rfl rfl (j2 ⟨tb,1,none⟩ (fun W hW=>Rg.ae _ _ Tryz.underlying135 ((Below.cell (p:=⟨tb,1,none⟩) hW C1.u.lt).trans C1.u.cell))) (hS _ _ hI)<|d8 4 13 (.int .i64 (i:Int)) 23 (hS _ _ hI) ?_;go_frame;refine d8 5 13 (.slice (some ⟨xb,xo,none⟩) n xc) 24 (hS _ _ hI)<|d8 6 13 (.int .i64 (i:Int)) 25 (hS _ _ hI)<|d7 7 13 (.pointer (some ⟨xb,xo+i,none⟩)) 26 rfl rfl (Rg.ai bC _ _ rfl rfl xb (xo) (n) xc (i) rfl rfl bN.u) (hS _ _ hI)<|d7 8 13 (.int .i64 (q:Int)) 27 rfl rfl (j2 ⟨xb,xo+i,none⟩ (fun W hW=>af ((Below.cell (p:=⟨xb,xo+i,none⟩) hW CX.u.lt).trans CX.u.cell))) (hS _ _ hI)<|d7 9 13 (.pointer (some ⟨L,i*194,none⟩)) 28 rfl rfl (j3 fun w=>bn _ _ rfl Tryz.underlying135 iq L (n) (n) (i) rfl rfl bN.u) (hS _ _ hI) ?_;go_frame
    refine d7 10 13 (.pointer (some ⟨L,i*194+66,none⟩)) 29 rfl rfl (j3 fun w=>aw _ rfl rfl (CC _ _ _)) (hS _ _ hI)<|d7 11 13 (.pointer (some ⟨L,i*194+66+q,none⟩)) 30 rfl rfl (j3 fun w=>bB _ _ rfl Tryz.underlying142 uP L (i*194+66) (q) rfl rfl kq) (hS _ _ hI)<|d7 12 13 (.slice none 0 0) 31 rfl rfl (j2 ⟨L,i*194+66+q,none⟩ (fun W hW=>Rg.ae _ _ Tryz.underlying27 ((Below.cell (p:=⟨L,i*194+66+q,none⟩) hW ox.u).trans CB.u))) (hS _ _ hI)<|j1 13 9 rfl rfl (b6 (.slice none 0 0) _ rfl rfl) (hS _ _ hI) ?_;go_frame;refine Rg.Any.done (by kernel_rfl) ?_ _;clear hS hI;go_upto_region 5 with fail;refine c6<|j8 rfl<|k8 (tq _ _ rfl rfl rfl) ?_;go_frame;go_wp2;go_ret2;exact ⟨_,.slice (some ⟨xb,xo,none⟩) n xc,by rw [HE.u]; rfl,K.u,HT.u,by rw [HE.u]; exact X.u,KB.u⟩
   | some u =>
    have gu:=HR.u.gd i q u Bh aS dJ;obtain ⟨bb,bo,bc,P8,JG⟩:=HT.u.byS aS kq dJ gu aU
    have hHS:Cm.dn n (cw T) (n - (i+1)) (Ma.aq y (Ma.bf u))=A:=by
     rw [<- HS.u]
     have e1:n - i=(n - i - 1)+1:=by omega
     rw [e1,Cm.iG (u:=u) (by rw [show n - (n - i - 1+1)=i by omega,<- hq.u]; exact dJ),show n - i - 1=n - (i+1) by omega]
    obtain ⟨F_,Ga⟩:=Cm.uM HR.u Bh aS GY.u FY.u (by rw [<- hq.u]; exact dJ);have BP:=U JG;have GI:=U (Cm.aX gu);have Od:=U hHS;have Xp:=U F_;have Oe:=U Ga;have CB:=U (show wr.cell? ⟨L,i*194+66+q,none⟩=some (.slice (some ⟨bb,bo,none⟩) n bc) by rw [JF HT.u aS kq (by omega),P8])
    have Gb:=U (show q=i->Ma.aq y (Ma.bf u)=y from fun e=>by
     have h1:=HR.u.self i Bh aS;rw [e,h1] at dJ
     cases dJ
     rw [Cm.inv_one,Cm.mul_one GY.u])
    have ox:=U HT.u.lt;clear P8 JG gu hHS F_ Ga dJ HS
    by_cases uU:q=i
    ·have HY:=U (Gb.u uU)
     have hqe:(q:Int)=(i:Int):=by omega
     clear uU Gb;go_upto_region 4 with fail;have d_:BE wr wr.drew:=(Below.refl _ _).drew;replace KB:=U (Rg.acc KB.u d_);replace CB:=U ((d_.cell (p:=⟨L,i*194+66+q,none⟩) ox.u).trans CB.u);replace ox:=U (Nat.lt_of_lt_of_le ox.u d_.size);clear d_;have aj:BE wr wr.drew:=(Below.refl _ _).drew;replace X:=U (X.u.up aj);replace HT:=U (HT.u.up aj);replace C0:=U (C0.u.up aj);replace C1:=U (C1.u.up aj);replace CX:=U (CX.u.up aj);replace BP:=U (BP.u.up aj);replace K:=U (K.u.up aj);generalize cE F wr wr.drew=F1 at *;clear aj;refine Rg.Any.begin (S:=Rg.aK 13 (fun _=>True) (fun W=>Below wr.drew.heap.size wr.drew W)) mix ?_;generalize wr.drew=w1 at *;have hS:∀ (l:Array Bool) W,BE w1 W->Rg.aK 13 (fun _=>True) (fun W=>BE w1 W) l W:=fun l W h=>⟨.inr trivial,h⟩;have hI:BE w1 w1:=Below.refl _ _;refine d8 0 13 (.pointer (some ⟨tb,0,none⟩)) 19 (hS _ _ hI)<|d7 1 13 (.pointer (some ⟨tb,0,none⟩)) 20 rfl rfl (j3 fun w=>bh _ rfl rfl) (hS _ _ hI)<|d7 2 13 (.pointer (some ⟨tb,1,none⟩)) 21 rfl rfl (j3 fun w=>aw _ rfl rfl (kC _ _)) (hS _ _ hI)<|d7 3 13 (.slice (some ⟨L,0,none⟩) n n) 22 rfl rfl (j2 ⟨tb,1,none⟩ (fun W hW=>Rg.ae _ _ Tryz.underlying135 ((Below.cell (p:=⟨tb,1,none⟩) hW C1.u.lt).trans C1.u.cell))) (hS _ _ hI)<|d8 4 13 (.int .i64 (i:Int)) 23 (hS _ _ hI) ?_;go_frame;refine d8 5 13 (.slice (some ⟨xb,xo,none⟩) n xc) 24 (hS _ _ hI)<|d8 6 13 (.int .i64 (i:Int)) 25 (hS _ _ hI)<|d7 7 13 (.pointer (some ⟨xb,xo+i,none⟩)) 26 rfl rfl (Rg.ai bC _ _ rfl rfl xb (xo) (n) xc (i) rfl rfl bN.u) (hS _ _ hI)<|d7 8 13 (.int .i64 (q:Int)) 27 rfl rfl (j2 ⟨xb,xo+i,none⟩ (fun W hW=>af ((Below.cell (p:=⟨xb,xo+i,none⟩) hW CX.u.lt).trans CX.u.cell))) (hS _ _ hI)<|d7 9 13 (.pointer (some ⟨L,i*194,none⟩)) 28 rfl rfl (j3 fun w=>bn _ _ rfl Tryz.underlying135 iq L (n) (n) (i) rfl rfl bN.u) (hS _ _ hI) ?_;go_frame
     refine d7 10 13 (.pointer (some ⟨L,i*194+66,none⟩)) 29 rfl rfl (j3 fun w=>aw _ rfl rfl (CC _ _ _)) (hS _ _ hI)<|d7 11 13 (.pointer (some ⟨L,i*194+66+q,none⟩)) 30 rfl rfl (j3 fun w=>bB _ _ rfl Tryz.underlying142 uP L (i*194+66) (q) rfl rfl kq) (hS _ _ hI)<|d7 12 13 (.slice (some ⟨bb,bo,none⟩) n bc) 31 rfl rfl (j2 ⟨L,i*194+66+q,none⟩ (fun W hW=>Rg.ae _ _ Tryz.underlying27 ((Below.cell (p:=⟨L,i*194+66+q,none⟩) hW ox.u).trans CB.u))) (hS _ _ hI)<|j1 13 9 rfl rfl (b6 (.slice (some ⟨bb,bo,none⟩) n bc) _ rfl rfl) (hS _ _ hI) ?_;go_frame;refine Rg.Any.done (by kernel_rfl) ?_ _;clear hS hI;go_upto_region 5 with fail;refine c6<|j8 rfl<|k8 (kD _ _ rfl rfl rfl) ?_;go_frame;go_upto_region 7 with fail;refine c6<|j8 rfl<|j7 rfl<|k8 (ag bC _ _ rfl xb (xo) (n) xc (i) rfl rfl bN.u)<|k8 (g7 (.int .i64 (q:Int)) ⟨xb,xo+i,none⟩ (af CX.u.cell)) ?_;go_frame;refine j7 rfl<|k8 (g8 (.bool false) .neq (h:=aE _ f8)) ?_;go_frame;have uT:=C0.u.cell;go_wp2;go_roundw
     case rel=>exact ⟨i+1,y,_,by omega,by omega,by go_num,X,HT,C0,C1,K,KB,GY,U (by have:=Oe.u; rwa [HY.u] at this),U (by have:=Od.u; rwa [HY.u] at this)⟩
     case measure=>simp [intOf]; omega
    ·have hqe:¬ (q:Int)=(i:Int):=by omega
     clear uU Gb;go_upto_region 4 with fail;have d_:BE wr wr.drew:=(Below.refl _ _).drew;replace KB:=U (Rg.acc KB.u d_);replace CB:=U ((d_.cell (p:=⟨L,i*194+66+q,none⟩) ox.u).trans CB.u);replace ox:=U (Nat.lt_of_lt_of_le ox.u d_.size);clear d_;have aj:BE wr wr.drew:=(Below.refl _ _).drew;replace X:=U (X.u.up aj);replace HT:=U (HT.u.up aj);replace C0:=U (C0.u.up aj);replace C1:=U (C1.u.up aj);replace CX:=U (CX.u.up aj);replace BP:=U (BP.u.up aj);replace K:=U (K.u.up aj);generalize cE F wr wr.drew=F1 at *;clear aj;refine Rg.Any.begin (S:=Rg.aK 13 (fun _=>True) (fun W=>Below wr.drew.heap.size wr.drew W)) mix ?_;generalize wr.drew=w1 at *;have hS:∀ (l:Array Bool) W,BE w1 W->Rg.aK 13 (fun _=>True) (fun W=>BE w1 W) l W:=fun l W h=>⟨.inr trivial,h⟩;have hI:BE w1 w1:=Below.refl _ _;refine d8 0 13 (.pointer (some ⟨tb,0,none⟩)) 19 (hS _ _ hI)<|d7 1 13 (.pointer (some ⟨tb,0,none⟩)) 20 rfl rfl (j3 fun w=>bh _ rfl rfl) (hS _ _ hI)<|d7 2 13 (.pointer (some ⟨tb,1,none⟩)) 21 rfl rfl (j3 fun w=>aw _ rfl rfl (kC _ _)) (hS _ _ hI)<|d7 3 13 (.slice (some ⟨L,0,none⟩) n n) 22 rfl rfl (j2 ⟨tb,1,none⟩ (fun W hW=>Rg.ae _ _ Tryz.underlying135 ((Below.cell (p:=⟨tb,1,none⟩) hW C1.u.lt).trans C1.u.cell))) (hS _ _ hI)<|d8 4 13 (.int .i64 (i:Int)) 23 (hS _ _ hI) ?_;go_frame;refine d8 5 13 (.slice (some ⟨xb,xo,none⟩) n xc) 24 (hS _ _ hI)<|d8 6 13 (.int .i64 (i:Int)) 25 (hS _ _ hI)<|d7 7 13 (.pointer (some ⟨xb,xo+i,none⟩)) 26 rfl rfl (Rg.ai bC _ _ rfl rfl xb (xo) (n) xc (i) rfl rfl bN.u) (hS _ _ hI)<|d7 8 13 (.int .i64 (q:Int)) 27 rfl rfl (j2 ⟨xb,xo+i,none⟩ (fun W hW=>af ((Below.cell (p:=⟨xb,xo+i,none⟩) hW CX.u.lt).trans CX.u.cell))) (hS _ _ hI)<|d7 9 13 (.pointer (some ⟨L,i*194,none⟩)) 28 rfl rfl (j3 fun w=>bn _ _ rfl Tryz.underlying135 iq L (n) (n) (i) rfl rfl bN.u) (hS _ _ hI) ?_;go_frame
     refine d7 10 13 (.pointer (some ⟨L,i*194+66,none⟩)) 29 rfl rfl (j3 fun w=>aw _ rfl rfl (CC _ _ _)) (hS _ _ hI)<|d7 11 13 (.pointer (some ⟨L,i*194+66+q,none⟩)) 30 rfl rfl (j3 fun w=>bB _ _ rfl Tryz.underlying142 uP L (i*194+66) (q) rfl rfl kq) (hS _ _ hI)<|d7 12 13 (.slice (some ⟨bb,bo,none⟩) n bc) 31 rfl rfl (j2 ⟨L,i*194+66+q,none⟩ (fun W hW=>Rg.ae _ _ Tryz.underlying27 ((Below.cell (p:=⟨L,i*194+66+q,none⟩) hW ox.u).trans CB.u))) (hS _ _ hI)<|j1 13 9 rfl rfl (b6 (.slice (some ⟨bb,bo,none⟩) n bc) _ rfl rfl) (hS _ _ hI) ?_;go_frame;refine Rg.Any.done (by kernel_rfl) ?_ _;clear hS hI;go_upto_region 5 with fail;refine c6<|j8 rfl<|k8 (kD _ _ rfl rfl rfl) ?_;go_frame;go_upto_region 7 with fail;refine c6<|j8 rfl<|j7 rfl<|k8 (ag bC _ _ rfl xb (xo) (n) xc (i) rfl rfl bN.u)<|k8 (g7 (.int .i64 (q:Int)) ⟨xb,xo+i,none⟩ (af CX.u.cell)) ?_;go_frame;refine j7 rfl<|k8 (g8 (.bool true) .neq (h:=aE _ f7)) ?_;go_frame;clear uT;go_upto_region 8 with fail;refine c6<|j8 rfl<|j8 rfl ?_;go_frame;refine f4 44 (ax 117 _ _ _ rfl rfl rfl (zr _ _)) ?_;refine (uS X.u BP.u GY.u GI.u aU aZ).mono ?_;rintro e1 w2 ⟨mv,rfl,gX,hb⟩;replace KB:=U (Rg.acc KB.u hb);refine ⟨_,rfl,?_⟩;go_frame;replace X:=U (X.u.up hb);replace HT:=U (HT.u.up hb);replace C0:=U (C0.u.up hb);replace C1:=U (C1.u.up hb);replace CX:=U (CX.u.up hb);replace BP:=U (BP.u.up hb);replace K:=U (K.u.up hb);have MV:=U gX;generalize cE F1 w1 w2=F2 at *;clear hb;refine j6 (mv) rfl ?_;go_frame;have uT:=C0.u.cell;go_wp2;go_roundw
     case rel=>exact ⟨i+1,_,_,by omega,by omega,by go_num,MV,HT,C0,C1,K,KB,Xp,Oe,Od⟩
     case measure=>simp [intOf]; omega
  ·obtain rfl:i=n:=by omega
   have HE:=U (show A=(i,y) by rw [<- HS.u,Nat.sub_self]; rfl);clear HS;go_wp2;go_ret2;exact ⟨_,u1,by rw [HE.u]; rfl,K.u,HT.u,by rw [HE.u]; exact X.u,KB.u⟩
end
end Go.Proofs.YtpedbljnhnoohaaGreat
namespace Go.Proofs.Cm
open Go.Proofs
def Full (n:Nat) (T:bx) (j:Nat):Prop:=fY n T j/\Bn T j/\(T j).gens.length<=DT n T j
structure kr (n i:Nat) (T T1:bx):Prop where
 ext:Ext T T1
 low:∀ j,j<i->T1 j=T j
 gens:(T1 i).gens=(T i).gens
 up:∀ j,i<j->j<n->Full n T1 j
 lvl:fY n T1 i
def mW (T:bx) (i k:Nat):Prop:=∀ m (h:m<(T i).orb.length),m<k->(T i).tried (T i).orb[m]=(T i).gens.length
theorem kr.refl {n i:Nat} {T:bx} (h:fY n T i) (hu:∀ j,i<j->j<n->Full n T j):kr n i T T:=⟨Ext.refl T,fun _ _=>rfl,rfl,hu,h⟩
theorem kr.all {i:Nat} {T T1:bx} (h:kr n i T T1):∀ j,i<=j->j<n->fY n T1 j:=fun j h1 h2=>by
 by_cases e:j=i
 ·subst e; exact h.lvl
 ·exact (h.up j (by omega) h2).1
theorem mW.cmp {i:Nat} {T:bx} (h:mW T i (T i).orb.length) (hl:fY n T i):Bn T i:=fun q u hu=>by
 obtain ⟨m,hm,rfl⟩:=List.getElem_of_mem ((hl.orb q).2 ⟨u,hu⟩);exact h m hm hm
theorem Full.ext {n:Nat} {T T':bx} {j:Nat} (h:Full n T j) (hx:Ext T T') (e:T' j=T j) (e2:j+1<n->T' (j+1)=T (j+1)):Full n T' j:=by
 obtain ⟨h1,h2,h3⟩:=h;refine ⟨h1.ext e hx fun h0 s hs=>?_,h2.ext e,by rw [e]; exact Nat.le_trans h3 (NW hx j)⟩;rw [e2 h0] at hs;exact h1.low h0 s hs
theorem kr.found {i k:Nat} {T T1:bx} (h:kr n i T T1) (hd:mW T1 i k) (aS:i<n) {q:Nat} {s uq:List Nat} (hk:(T1 i).tried q<(T1 i).gens.length) (hs:(T1 i).gens[(T1 i).tried q]=s) (lz:(T1 i).rep q=some uq) (hp:(T1 i).rep (ap s q)=none)
  (D1:∃ h:k<(T1 i).orb.length,(T1 i).orb[k]=q) :
  kr n i T (find (tick T1 i q) i (ap s q) (Ma.aq uq s))/\mW (find (tick T1 i q) i (ap s q) (Ma.aq uq s)) i k/\((find (tick T1 i q) i (ap s q) (Ma.aq uq s) i).tried q=(T1 i).tried q+1)/\(find (tick T1 i q) i (ap s q) (Ma.aq uq s) i).gens=(T1 i).gens /\
   ∃ h:k<(find (tick T1 i q) i (ap s q) (Ma.aq uq s) i).orb.length,(find (tick T1 i q) i (ap s q) (Ma.aq uq s) i).orb[k]=q:=by
 have hx:Ext T1 (find (tick T1 i q) i (ap s q) (Ma.aq uq s)):=(kB T1 i q).trans (wN (by rw [ew]; exact hp))
 have ne:∀ j,j≠i->find (tick T1 i q) i (ap s q) (Ma.aq uq s) j=T1 j:=fun j hj=>by rw [qB hj,ja hj]
 have ei:find (tick T1 i q) i (ap s q) (Ma.aq uq s) i={ gens:=(T1 i).gens,orb:=(T1 i).orb++[ap s q],rep:=fun z=>if z=ap s q then some (Ma.aq uq s) else (T1 i).rep z,tried:=fun p=>if p=q then (T1 i).tried p+1 else (T1 i).tried p }:=by rw [oq,ew]
 obtain ⟨JH,D1⟩:=D1;refine ⟨⟨h.ext.trans hx,fun j hj=>by rw [ne j (by omega)]; exact h.low j hj,by rw [ei]; exact h.gens,fun j h1 h2=>(h.up j h1 h2).ext hx (ne j (by omega)) (fun _=>ne _ (by omega)),N3 h.all aS hk hs lz hp⟩,?_,by rw [ei]; simp,by rw [ei],?_⟩
 ·intro m hm h_
  have ou:m<(T1 i).orb.length:=by omega
  have e1:(find (tick T1 i q) i (ap s q) (Ma.aq uq s) i).orb[m]=(T1 i).orb[m]:=by simp only [ei]; rw [List.getElem_append_left ou]
  rw [e1]
  have hne:(T1 i).orb[m]≠q:=by
   rw [<- D1];intro e;have:=(List.getElem_inj h.lvl.nd).1 e;omega
  simp only [ei];rw [if_neg hne];exact hd m ou h_
 ·have dF:k<((T1 i).orb++[ap s q]).length:=by simp; omega
  refine ⟨by rw [ei]; exact dF,?_⟩;simp only [ei];rw [List.getElem_append_left JH]; exact D1
theorem kr.Mw {i k:Nat} {T T1 T4:bx} (h:kr n i T T1) (hd:mW T1 i k) {q:Nat} {s uq v:List Nat} (hk:(T1 i).tried q<(T1 i).gens.length) (hs:(T1 i).gens[(T1 i).tried q]=s) (lz:(T1 i).rep q=some uq) (hv:(T1 i).rep (ap s q)=some v)
  (D1:∃ h:k<(T1 i).orb.length,(T1 i).orb[k]=q) (hx:Ext (tick T1 i q) T4) (he:∀ j,j<i+1->T4 j=tick T1 i q j) (hu:∀ j,i<j->j<n->Full n T4 j)
  (pV:i+1<n->∀ s∈(T4 (i+1)).gens,Gr n (·∈(T1 i).gens) s) (Xn:Sd n (cw T4) (n - (i+1)) (Ma.aq (Ma.aq uq s) (Ma.bf v))) :
  kr n i T T4/\mW T4 i k/\(T4 i).tried q=(T1 i).tried q+1/\(T4 i).gens=(T1 i).gens/\∃ h:k<(T4 i).orb.length,(T4 i).orb[k]=q:=by
 have UQ:=(kB T1 i q).trans hx;have ei:=(he i (by omega)).trans (ew T1 i q);obtain ⟨JH,D1⟩:=D1;refine ⟨⟨h.ext.trans UQ,fun j hj=>by rw [he j (by omega),ja (by omega)]; exact h.low j hj,by rw [ei]; exact h.gens,hu,N2 h.lvl hk hs lz (he i (by omega)) UQ pV hv Xn⟩,?_,by rw [ei]; simp,by rw [ei],?_⟩
 ·intro m hm h_
  have ou:m<(T1 i).orb.length:=by rw [ei] at hm; exact hm
  have hne:(T1 i).orb[m]≠q:=by
   rw [<- D1];intro e;have:=(List.getElem_inj h.lvl.nd).1 e;omega
  simp only [ei];rw [if_neg hne];exact hd m ou h_
 ·refine ⟨by rw [ei]; exact JH,?_⟩
  simp only [ei]; exact D1
theorem P9 {i q:Nat} {T:bx} (h:fY n T i) (aS:i<n) {s uq v:List Nat} (hs:s∈(T i).gens) (lz:(T i).rep q=some uq) (hv:(T i).rep (ap s q)=some v) :
  Gd n (Ma.aq uq s)/\Gd n v/\ap (Ma.aq uq s) i=ap s q/\Gd n (Ma.aq (Ma.aq uq s) (Ma.bf v))/\Fx (i+1) (Ma.aq (Ma.aq uq s) (Ma.bf v))/\Gr n (·∈(T i).gens) (Ma.aq (Ma.aq uq s) (Ma.bf v)):=by
 have gs:=h.Bm s hs;have gu:=h.zi q uq lz;have gv:=h.zi _ v hv;have gy:=bm gu gs
 have ay:ap (Ma.aq uq s) i=ap s q:=by rw [bL gu aS,h.DR q uq lz]
 have fy:Fx i (Ma.aq uq s):=Fx.mul gu (by omega) (h.FG q uq lz) (h.NV s hs);refine ⟨gy,gv,ay,bm gy (aX gv),fun j hj=>?_,.mul _ _ (.mul _ _ (h.FH q uq lz) (.gen _ hs)) (.inv _ (h.FH _ v hv))⟩;rw [bL gy (by omega)]
 by_cases e:j=i
 ·subst e
  rw [ay,<- h.DR _ v hv];exact fh gv aS
 ·rw [fy j (by omega)]
  exact Fx.inv gv (by omega) (h.FG _ v hv) j (by omega)
structure wQ (n i:Nat) (T T':bx) (x:List Nat):Prop where
 ext:Ext T T'
 low:∀ j,j<i->T' j=T j
 full:∀ j,i<=j->j<n->Full n T' j
 sd:Sd n (cw T') (n - i) x
 gens:∀ H:List Nat->Prop,cz n H->(∀ s∈(T i).gens,H s)->H x->∀ s∈(T' i).gens,H s
theorem wQ.same {i:Nat} {T:bx} {x:List Nat} (hf:∀ j,i<=j->j<n->Full n T j) (hi:i<n) (gx:Gd n x) (fx:Fx i x) (h:(dn n (cw T) (n - i) x).1=n):wQ n i T T x:=by
 have hr:Rp n i (cw T):=fY.rp fun j a b=>(hf j a b).1;obtain ⟨_,_,g,f,_⟩:=oh hr (d:=n - i) (x:=x) (by omega) (by omega) gx (by rw [show n - (n - i)=i by omega]; exact fx);rw [h] at f;refine ⟨Ext.refl T,fun _ _=>rfl,hf,?_,fun H _ hs _=>hs⟩;refine rO (tr:=cw T) (by omega) (fun _ _ _ _ e=>e) ?_;rw [h,Nat.sub_self];exact Fx.all g f
structure mX (n i at_ k:Nat) (T T1:bx) (r:List Nat):Prop where
 ext:Ext T T1
 low:∀ j,j<i->T1 j=T j
 put:∀ j,i<=j->j<k->T1 j=il T i at_ r j
 full:∀ j,k<=j->j<n->Full n T1 j
 Wu:k<=at_->(T1 k).gens=(T k).gens++[r]
 tail:k=at_+1->∀ j,at_<j->T1 j=T j
 Wv:r∈(T1 at_).gens
 more:k<=at_->(T at_).orb.length<(T1 at_).orb.length
theorem mX.start {i at_:Nat} {T:bx} {r:List Nat} (hf:∀ j,i<=j->j<n->Full n T j) (hi:i<=at_):mX n i at_ (at_+1) T (il T i at_ r) r :=
 ⟨wM _ _ _ _,fun j hj=>eX (by omega),fun _ _ _=>rfl,fun j h1 h2=>(hf j (by omega) h2).ext (wM T i at_ r) (eX (by omega)) (fun _=>eX (by omega)),fun h=>by omega,fun _ j hj=>eX (by omega),
  by rw [iY ⟨hi,Nat.le_refl _⟩]; exact List.mem_append_right _ (List.mem_singleton.2 rfl),fun h=>by omega⟩
theorem mX.lvl {i at_ k:Nat} {T T1:bx} {r:List Nat} (h:mX n i at_ (k+1) T T1 r) (hf:∀ j,i<=j->j<n->Full n T j) (hi:i<=k) (hk:k<=at_) (ha:at_<n) (gr:Gd n r) (fr:Fx at_ r):fY n T1 k:=by
 have h1:=N1 (hf k hi (by omega)).1 hi gr fr;have e0:=h.put k hi (by omega);refine h1.Ws e0 (fun j p u e=>?_) fun h0 s hs=>?_
 ·have:cw (il T i at_ r) j p=some u:=e
  rw [uN] at this;exact h.ext.rep j p u this
 ·by_cases e:k+1<=at_
  ·rw [h.Wu e] at hs
   have hp:=h1.low h0 s;rw [iY (j:=k+1) ⟨by omega,e⟩] at hp;exact hp hs
  ·have e2:k+1=at_+1:=by omega
   rw [h.tail e2 (k+1) (by omega)] at hs;have hp:=h1.low h0 s;rw [eX (j:=k+1) (by omega)] at hp;exact hp hs
theorem mX.step {i at_ k:Nat} {T T1 T2:bx} {r:List Nat} (h:mX n i at_ (k+1) T T1 r) (hf:∀ j,i<=j->j<n->Full n T j) (hi:i<=k) (hk:k<=at_) (ha:at_<n) (hp:(T at_).rep (ap r at_)=none) (hc:kr n k T1 T2) (Xg:Bn T2 k):mX n i at_ k T T2 r:=by
 have hx:=h.ext.trans hc.ext
 have hg:(T2 k).gens=(T k).gens++[r]:=by rw [hc.gens,h.put k hi (by omega),iY ⟨hi,hk⟩]
 have hm:=hc.ext.gens at_ r h.Wv
 have az:(T at_).orb.length<(T2 at_).orb.length:=by
  by_cases e:k=at_
  ·subst e
   have h0:=(hf k hi ha).1;have hl:=hc.lvl;have P_:=hl.self;obtain ⟨m,yE,ND⟩:=List.getElem_of_mem hm;obtain ⟨v,hv,_⟩:=hl.pr k _ m yE P_ (by rw [Xg k _ P_]; exact yE);rw [ND] at hv;have aS:=(hl.orb (ap r k)).2 ⟨v,hv⟩
   have aaE:ap r k∉(T k).orb:=fun hh=>by
    obtain ⟨u,hu⟩:=(h0.orb _).1 hh;rw [hp] at hu; cases hu
   have hnd:(ap r k :: (T k).orb).Nodup:=List.nodup_cons.2 ⟨aaE,h0.nd⟩
   have:=List.Nodup.length_le_of_subset hnd (l₂:=(T2 k).orb) (fun z hz=>by
    rcases List.mem_cons.1 hz with rfl | hz
    ·exact aS
    ·obtain ⟨u,hu⟩:=(h0.orb z).1 hz
     exact (hl.orb z).2 ⟨u,hx.rep k z u hu⟩)
   simp at this; omega
  ·exact Nat.lt_of_lt_of_le (h.more (by omega)) (hc.ext.orb at_)
 refine ⟨hx,fun j hj=>by rw [hc.low j (by omega)]; exact h.low j hj,fun j h1 h2=>by rw [hc.low j h2]; exact h.put j h1 (by omega),fun j h1 h2=>?_,fun _=>hg,fun e=>by omega,hm,fun _=>az⟩
 by_cases e:j=k
 ·subst e
  refine ⟨hc.lvl,Xg,?_⟩;have:=(hf j hi h2).2.2;have h3:=NZ (n:=n) hx ha hk az;rw [hg,List.length_append,List.length_singleton];omega
 ·exact hc.up j (by omega) h2
theorem mX.up {i at_ k:Nat} {T T1:bx} {r:List Nat} (h:mX n i at_ (k+1) T T1 r):∀ j,k<j->j<n->Full n T1 j:=fun j h1 h2=>h.full j (by omega) h2
theorem mX.added {i:Nat} {T T1:bx} {x:List Nat} (hf:∀ j,i<=j->j<n->Full n T j) (hi:i<n) (gx:Gd n x) (fx:Fx i x) (h:mX n i (dn n (cw T) (n - i) x).1 i T T1 (dn n (cw T) (n - i) x).2) (ha:(dn n (cw T) (n - i) x).1<n):wQ n i T T1 x:=by
 have hr:Rp n i (cw T):=fY.rp fun j a b=>(hf j a b).1;obtain ⟨_,uK,gr,fr,_⟩:=oh hr (d:=n - i) (x:=x) (by omega) (by omega) gx (by rw [show n - (n - i)=i by omega]; exact fx);rw [show n - (n - i)=i by omega] at uK;refine ⟨h.ext,h.low,h.full,?_,fun H hH hs hx s jC=>?_⟩
 ·refine rO (tr:=cw T) (by omega) (fun j p u _ e=>h.ext.rep j p u e) ?_
  exact fY.sd (fun j h1 h2=>⟨(h.full j (by omega) h2).1,(h.full j (by omega) h2).2.1⟩) ha (.gen _ h.Wv)
 ·rw [h.Wu uK] at jC
  rcases List.mem_append.1 jC with jC | jC
  ·exact hs s jC
  ·rw [List.mem_singleton] at jC
   subst jC;refine zh hH (by omega) (fun j p u h1 h2 hu=>?_) hx;have hT:wK n i (fun j s=>s∈(T j).gens) (cw T):=fY.Xm fun j a b=>⟨(hf j a b).1,(hf j a b).2.1⟩;have h3:=hT.mem j p u (by omega) h2 hu;have h4:=hT.sub (i:=i) (Nat.le_refl _) (k:=j - i) (by omega) (x:=u) (by rwa [show i+(j - i)=j by omega]);exact Gr.sub hH hs h4
end Go.Proofs.Cm
