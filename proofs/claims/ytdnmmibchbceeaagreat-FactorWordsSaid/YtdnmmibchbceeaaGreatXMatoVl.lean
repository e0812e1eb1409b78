/- Lemmas and contracts on the way to the statement; no condition of their own beyond those written. -/
import Derived.Lib.Hide
import Derived.Deep.OwnRows
import Derived.WalkKit
import Derived.WalkSpells
import Derived.WalkLawsBesides
import Derived.Maps.AppendAt
import Derived.OwnWalk
import Derived.OrdersHeld
import Derived.Stop.BytesEq
import Derived.MapKept
import Derived.ChangeMaps5
import Derived.StillTailTactics
import Derived.Deep.MidRow
import Derived.Laws.CopyOwn
import Derived.Laws.OwnMore
import Derived.Great.BuildSlice
import Derived.ArgAppend
import Derived.IntWalk
import Derived.Test.YtdnmmibchbceeaaGreatProg
import Derived.Outline
import Derived.Deep.DeepFit
import Derived.BigQuiet
import Derived.Deep.QuietTactic
import Derived.Deep.CutRange
import Derived.Deep.CutBlock
import Derived.WideMake
import Derived.Shelf.Sort.Plain
import Derived.Sort.OwnSortedInts
set_option linter.unusedVariables false
set_option linter.unusedSimpArgs false
set_option maxRecDepth 100000
set_option maxHeartbeats 8000000
variable {w W w' W' w0 X:Go.World} {n B N k mb L m nx j cap D tc base bytes q n₀ gb tk most gc cb:Nat} {v u sv rv ov fv z v1 v2 xv u1 u2 av tv u3 uv:Go.Value} {F M F' F0 M':Nat→Prop} {gs T O A Ks T' Fd:List (List Nat)} {l l1 l2:List Int} {d:Int} {H:List Nat→Prop} {R:List (List (List Nat))} {vs:List Go.Value} {a s:List Nat} {RR:List (List (List Int))} {OO Wd:List (List Int)}
namespace Go.Proofs.Cm
end Go.Proofs.Cm
namespace Go.Proofs.Ob
end Go.Proofs.Ob
namespace Go.Proofs.YtdnmmibchbceeaaGreat
end Go.Proofs.YtdnmmibchbceeaaGreat
namespace Go.Proofs.Ma
def okL (l:List Int):Prop:=(∀ x∈l,0≤x∧x<l.length)∧l.Nodup
instance (l:List Int):Decidable (okL l):=inferInstanceAs (Decidable (_∧_))
def preL (l:List Int) (k:Nat):Prop:=(∀ x∈l.take k,0≤x∧x<l.length)∧(l.take k).Nodup
theorem pre0 (l:List Int):preL l 0:=⟨by simp,by simp⟩
theorem pre_end (h:preL l l.length):okL l:=by
 unfold preL at h; rw [List.take_length] at h; exact h
theorem pre_step (h:preL l k) (hk:k<l.length) (h0:0≤l[k]) (h1:l[k]<l.length) (h2:l[k]∉l.take k):preL l (k+1):=by
 unfold preL;rw [List.take_succ_eq_append_getElem hk];refine ⟨fun x hx=>?_,?_⟩
 ·rcases List.mem_append.1 hx with hx | hx
  ·exact h.1 x hx
  ·obtain rfl:x=l[k]:=by simpa using hx
   exact ⟨h0,h1⟩
 ·rw [List.nodup_append]
  refine ⟨h.2,by simp,fun a ha b hb=>?_⟩
  obtain rfl:b=l[k]:=by simpa using hb
  intro e; exact h2 (e▸ha)
theorem bad_lo (hk:k<l.length) (h0:l[k]<0):¬ okL l:=fun h=>by
 have:=(h.1 _ (List.getElem_mem hk)).1; omega
theorem bad_hi (hk:k<l.length) (h0:(l.length:Int)≤l[k]):¬ okL l:=fun h=>by
 have:=(h.1 _ (List.getElem_mem hk)).2; omega
theorem bad_two (hk:k<l.length) (h0:l[k]∈l.take k):¬ okL l:=fun h=>by
 have hn:=h.2;rw [← List.take_append_drop k l,List.nodup_append] at hn;refine hn.2.2 _ h0 l[k] ?_ rfl;rw [List.drop_eq_getElem_cons hk]; exact List.mem_cons_self
theorem mem_take_succ (hk:k<l.length) (j:Nat):decide ((j:Int)∈l.take (k+1))=if (j:Int)=l[k] then true else decide ((j:Int)∈l.take k):=by
 have h:((j:Int)∈l.take (k+1))↔((j:Int)∈l.take k∨(j:Int)=l[k]):=by
  rw [List.take_succ_eq_append_getElem hk,List.mem_append,List.mem_singleton]
 by_cases e:(j:Int)=l[k]
 ·rw [if_pos e,decide_eq_true_eq,h]; exact .inr e
 ·rw [if_neg e]; exact decide_eq_decide.2 (by rw [h]; exact ⟨fun x=>x.resolve_right e,.inl⟩)
def pchk (l:List Int):Int:=if 1≤l.length∧l.length≤64 then (if okL l then 0 else 3) else 2
theorem pchk_out (h:¬ (1≤l.length∧l.length≤64)):pchk l=2:=by unfold pchk; rw [if_neg h]
theorem pchk_bad (h1:1≤l.length) (h2:l.length≤64) (h:¬ okL l):pchk l=3:=by unfold pchk; rw [if_pos ⟨h1,h2⟩,if_neg h]
theorem pchk_ok (h1:1≤l.length) (h2:l.length≤64) (h:okL l):pchk l=0:=by unfold pchk; rw [if_pos ⟨h1,h2⟩,if_pos h]
theorem pchk_zero (h:pchk l=0):1≤l.length∧l.length≤64∧okL l:=by
 unfold pchk at h
 split at h
 ·rename_i h1
  split at h
  ·rename_i h2; exact ⟨h1.1,h1.2,h2⟩
  ·cases h
 ·cases h
def gck (d:Int):List (List Int)→Int
 | []=>0
 | l :: r=>if pchk l=0 then (if (l.length:Int)=d then gck d r else 10) else pchk l
def gchk (d:Int) (ll:List (List Int)):Int:=if 1≤d∧d≤64 then (if ll.length≤16 then gck d ll else 4) else 2
theorem gck_bad {ll:List (List Int)} (hk:k<ll.length) (h:pchk ll[k]≠0):gck d (ll.drop k)=pchk ll[k]:=by
 rw [List.drop_eq_getElem_cons hk,gck,if_neg h]
theorem gck_len {ll:List (List Int)} (hk:k<ll.length) (h:pchk ll[k]=0) (h2:(ll[k].length:Int)≠d):gck d (ll.drop k)=10:=by
 rw [List.drop_eq_getElem_cons hk,gck,if_pos h,if_neg h2]
theorem gck_next {ll:List (List Int)} (hk:k<ll.length) (h:pchk ll[k]=0) (h2:(ll[k].length:Int)=d):gck d (ll.drop k)=gck d (ll.drop (k+1)):=by
 rw [List.drop_eq_getElem_cons hk,gck,if_pos h,if_pos h2]
theorem gck_end {ll:List (List Int)} (hk:ll.length≤k):gck d (ll.drop k)=0:=by
 rw [List.drop_of_length_le hk]; rfl
theorem gchk_range {ll:List (List Int)} (h:¬ (1≤d∧d≤64)):gchk d ll=2:=by unfold gchk; rw [if_neg h]
theorem gchk_long {ll:List (List Int)} (h1:1≤d) (h2:d≤64) (h:¬ ll.length≤16):gchk d ll=4:=by unfold gchk; rw [if_pos ⟨h1,h2⟩,if_neg h]
theorem gchk_in {ll:List (List Int)} (h1:1≤d) (h2:d≤64) (h:ll.length≤16):gchk d ll=gck d ll:=by unfold gchk; rw [if_pos ⟨h1,h2⟩,if_pos h]
theorem gck_zero {d:Int}:∀ {ll:List (List Int)},gck d ll=0→∀ l∈ll,pchk l=0∧(l.length:Int)=d
 | [],_=>by simp
 | l :: r,h=>by
  rw [gck] at h
  split at h
  ·rename_i h1
   split at h
   ·rename_i h2
    intro x hx
    rcases List.mem_cons.1 hx with rfl | hx
    ·exact ⟨h1,h2⟩
    ·exact gck_zero h x hx
   ·cases h
  ·rename_i h1; exact absurd h h1
def ofN (p:List Nat):List Int:=p.map fun (x:Nat)=>(x:Int)
def okN (p:List Nat):Prop:=(∀ x∈p,x<p.length)∧p.Nodup
instance (p:List Nat):Decidable (okN p):=inferInstanceAs (Decidable (_∧_))
theorem len_ofN (p:List Nat):(ofN p).length=p.length:=by simp [ofN]
theorem get_ofN (p:List Nat) (i:Nat) (h:i<(ofN p).length):(ofN p)[i]=((p[i]'(by rw [← len_ofN]; exact h):Nat):Int):=by simp [ofN]
theorem okL_ofN (h:okL l):∃ p,l=ofN p∧okN p:=by
 refine ⟨l.map Int.toNat,?_,?_,?_⟩
 ·unfold ofN; rw [List.map_map]
  conv=>lhs; rw [← List.map_id l]
  exact List.map_congr_left fun x hx=>by have:=(h.1 x hx).1; simp; omega
 ·intro x hx
  obtain ⟨y,hy,rfl⟩:=List.mem_map.1 hx;have:=h.1 y hy; simp; omega
 ·rw [List.nodup_iff_pairwise_ne,List.pairwise_map]
  refine (List.nodup_iff_pairwise_ne.1 h.2).imp_of_mem fun {a b} ha hb hne e=>hne ?_;have:=(h.1 a ha).1; have:=(h.1 b hb).1; omega
theorem okN_ofN {p:List Nat} (h:okN p):okL (ofN p):=by
 refine ⟨fun x hx=>?_,?_⟩
 ·obtain ⟨y,hy,rfl⟩:=List.mem_map.1 hx
  have:=h.1 y hy; rw [len_ofN]; omega
 ·unfold ofN; rw [List.nodup_iff_pairwise_ne,List.pairwise_map]
  exact (List.nodup_iff_pairwise_ne.1 h.2).imp fun hne e=>hne (by omega)
theorem ofN_inj {p q:List Nat} (h:ofN p=ofN q):p=q:=by
 unfold ofN at h
 exact List.map_inj_right (f:=fun x:Nat=>(x:Int)) (by intro x y e; exact Int.ofNat.inj e) |>.1 h
theorem okN_lt {p:List Nat} (h:okN p) {i:Nat} (hi:i<p.length):p[i]<p.length:=h.1 _ (List.getElem_mem hi)
def oneN (n:Nat):List Nat:=List.range n
def mulN (a b:List Nat):List Nat:=a.map fun x=>b.getD x 0
def invN (a:List Nat):List Nat:=(List.range a.length).map fun j=>a.idxOf j
theorem len_oneN (n:Nat):(oneN n).length=n:=by simp [oneN]
theorem len_mulN (a b:List Nat):(mulN a b).length=a.length:=by simp [mulN]
theorem len_invN (a:List Nat):(invN a).length=a.length:=by simp [invN]
theorem get_oneN (n i:Nat) (h:i<(oneN n).length):(oneN n)[i]=i:=by simp [oneN]
theorem get_mulN (a b:List Nat) (i:Nat) (h:i<(mulN a b).length):(mulN a b)[i]=b.getD (a[i]'(by rw [← len_mulN a b]; exact h)) 0:=by simp [mulN]
theorem get_invN (a:List Nat) (i:Nat) (h:i<(invN a).length):(invN a)[i]=a.idxOf i:=by simp [invN]
theorem okN_oneN (n:Nat):okN (oneN n):=⟨by simp [oneN],List.nodup_range⟩
theorem idx_get (h:okN a) (hk:k<a.length):a.idxOf a[k]=k:=by
 exact h.2.idxOf_getElem k hk
theorem okN_mem (h:okN a) (hj:j<a.length):j∈a:=by
 refine Decidable.byContradiction fun hn=>?_
 have hs:(j :: a) ⊆ List.range a.length:=fun x hx=>by
  rcases List.mem_cons.1 hx with rfl | hx
  ·simpa using hj
  ·simpa using h.1 x hx
 have:=List.Nodup.length_le_of_subset (List.nodup_cons.2 ⟨hn,h.2⟩) hs;simp at this;omega
theorem idx_lt (h:okN a) (hj:j<a.length):a.idxOf j<a.length:=List.idxOf_lt_length_of_mem (okN_mem h hj)
theorem get_idx (h:okN a) (hj:j<a.length):a[a.idxOf j]'(idx_lt h hj)=j:=List.getElem_idxOf (idx_lt h hj)
theorem okN_invN (h:okN a):okN (invN a):=by
 refine ⟨fun x hx=>?_,?_⟩
 ·obtain ⟨j,hj,rfl⟩:=List.mem_map.1 hx
  rw [len_invN]; exact idx_lt h (by simpa using hj)
 ·unfold invN
  rw [List.nodup_iff_pairwise_ne,List.pairwise_map];refine (List.nodup_iff_pairwise_ne.1 List.nodup_range).imp_of_mem fun {x y} hx hy hne e=>hne ?_;have h1:=get_idx h (j:=x) (by simpa using hx);have h2:=get_idx h (j:=y) (by simpa using hy);simp only [e] at h1;exact h1.symm.trans h2
theorem getD_lt {b:List Nat} {x:Nat} (h:x<b.length):b.getD x 0=b[x]:=by
 rw [List.getD_eq_getElem?_getD,List.getElem?_eq_getElem h]; rfl
theorem okN_mulN {b:List Nat} (ha:okN a) (hb:okN b) (hl:a.length=b.length):okN (mulN a b):=by
 refine ⟨fun x hx=>?_,?_⟩
 ·obtain ⟨j,hj,rfl⟩:=List.mem_map.1 hx
  have:=ha.1 j hj;rw [len_mulN,getD_lt (by omega),hl];exact okN_lt hb (by omega)
 ·unfold mulN
  rw [List.nodup_iff_pairwise_ne,List.pairwise_map];refine (List.nodup_iff_pairwise_ne.1 ha.2).imp_of_mem fun {x y} hx hy hne e=>hne ?_;have h1:=ha.1 x hx; have h2:=ha.1 y hy;rw [getD_lt (by omega),getD_lt (by omega)] at e;have i1:=idx_get hb (k:=x) (by omega);have i2:=idx_get hb (k:=y) (by omega);rw [e] at i1;exact i1.symm.trans i2
end Go.Proofs.Ma

namespace Go.Proofs.Rg
open Go Go.RowKit
def ValsB (B:Nat) (w:World) (v:Value) (us:List Value):Prop :=
 ∃ a cap,v=.slice a us.length cap∧us.length≤cap∧cap≤maxLen∧us.length≤B ∧
  (0<us.length→∃ b o,a=some ⟨b,o,none⟩∧b<w.heap.size∧∀ i (h:i<us.length),w.cell? ⟨b,o+i,none⟩=some us[i])
def big:Nat:=1000000000
def Vals (w:World) (v:Value) (us:List Value):Prop:=ValsB big w v us
def IntsB (B:Nat) (w:World) (v:Value) (l:List Int):Prop:=ValsB B w v (l.map (Value.int .i64))
def Ints (w:World) (v:Value) (l:List Int):Prop:=Vals w v (l.map (Value.int .i64))
def RowsB (B:Nat) (w:World) (v:Value) (ll:List (List Int)):Prop :=
 ∃ us,ValsB B w v us∧us.length=ll.length∧∀ i (h:i<us.length) (h2:i<ll.length),IntsB B w us[i] ll[i]
def Rows (w:World) (v:Value) (ll:List (List Int)):Prop:=RowsB big w v ll
theorem ValsB.shape {us:List Value} (h:ValsB B w v us) :
  ∃ a cap,v=.slice a us.length cap∧us.length≤cap∧us.length≤B∧cap≤maxLen ∧
  (0<us.length→∃ b o,a=some ⟨b,o,none⟩∧b<w.heap.size∧∀ i (h:i<us.length),w.cell? ⟨b,o+i,none⟩=some us[i]):=by
 obtain ⟨a,cap,h1,h2,h3,h4,h5⟩:=h;exact ⟨a,cap,h1,h2,h4,h3,h5⟩
theorem Vals.shape {w:World} {v:Value} {us:List Value} (h:Vals w v us) :
  ∃ a cap,v=.slice a us.length cap∧us.length≤cap∧us.length≤1000000000∧cap≤maxLen ∧
  (0<us.length→∃ b o,a=some ⟨b,o,none⟩∧b<w.heap.size∧∀ i (h:i<us.length),w.cell? ⟨b,o+i,none⟩=some us[i]):=ValsB.shape h
theorem IntsB.shape (h:IntsB B w v l) :
  ∃ a cap,v=.slice a l.length cap∧l.length≤cap∧l.length≤B∧cap≤maxLen ∧
  (0<l.length→∃ b o,a=some ⟨b,o,none⟩∧b<w.heap.size∧∀ i (h:i<l.length),w.cell? ⟨b,o+i,none⟩=some (.int .i64 l[i])):=by
 obtain ⟨a,cap,h1,h2,h3,h4,h5⟩:=h;simp only [List.length_map] at h1 h2 h4 h5;refine ⟨a,cap,h1,h2,h4,h3,fun h0=>?_⟩;obtain ⟨b,o,e1,e2,e3⟩:=h5 h0;exact ⟨b,o,e1,e2,fun i hi=>(e3 i hi).trans (by simp)⟩
theorem Ints.shape {w:World} {v:Value} {l:List Int} (h:Ints w v l) :
  ∃ a cap,v=.slice a l.length cap∧l.length≤cap∧l.length≤1000000000∧cap≤maxLen ∧
  (0<l.length→∃ b o,a=some ⟨b,o,none⟩∧b<w.heap.size∧∀ i (h:i<l.length),w.cell? ⟨b,o+i,none⟩=some (.int .i64 l[i])):=IntsB.shape h
theorem RowsB.shape {ll:List (List Int)} (h:RowsB B w v ll) :
  ∃ a cap,v=.slice a ll.length cap∧ll.length≤cap∧ll.length≤B∧cap≤maxLen ∧
  (0<ll.length→∃ b o,a=some ⟨b,o,none⟩∧b<w.heap.size∧∀ i (h:i<ll.length),∃ u,w.cell? ⟨b,o+i,none⟩=some u∧IntsB B w u ll[i]):=by
 obtain ⟨us,⟨a,cap,h1,h2,h3,h4,h5⟩,hl,h6⟩:=h;rw [hl] at h1 h2 h4;refine ⟨a,cap,h1,h2,h4,h3,fun h0=>?_⟩;obtain ⟨b,o,e1,e2,e3⟩:=h5 (by omega);exact ⟨b,o,e1,e2,fun i hi=>⟨us[i],e3 i (by omega),h6 i (by omega) hi⟩⟩
theorem Rows.shape {w:World} {v:Value} {ll:List (List Int)} (h:Rows w v ll) :
  ∃ a cap,v=.slice a ll.length cap∧ll.length≤cap∧ll.length≤1000000000∧cap≤maxLen ∧
  (0<ll.length→∃ b o,a=some ⟨b,o,none⟩∧b<w.heap.size∧∀ i (h:i<ll.length),∃ u,w.cell? ⟨b,o+i,none⟩=some u∧Ints w u ll[i]):=RowsB.shape h
theorem ValsB.below {us:List Value} (h:ValsB B w v us) (hb:Below w.heap.size w w'):ValsB B w' v us:=by
 obtain ⟨a,cap,h1,h2,h3,h4,h5⟩:=h;refine ⟨a,cap,h1,h2,h3,h4,fun h0=>?_⟩;obtain ⟨b,o,e1,e2,e3⟩:=h5 h0;exact ⟨b,o,e1,Nat.lt_of_lt_of_le e2 hb.size,fun i hi=>(hb.cell (p:=⟨b,o+i,none⟩) e2).trans (e3 i hi)⟩
theorem Vals.below {w w':World} {v:Value} {us:List Value} (h:Vals w v us) (hb:Below w.heap.size w w'):Vals w' v us:=ValsB.below h hb
theorem IntsB.below {B:Nat} {w w':World} {v:Value} {l:List Int} (h:IntsB B w v l) (hb:Below w.heap.size w w'):IntsB B w' v l:=ValsB.below h hb
theorem Ints.below {w w':World} {v:Value} {l:List Int} (h:Ints w v l) (hb:Below w.heap.size w w'):Ints w' v l:=ValsB.below h hb
theorem RowsB.below {B:Nat} {w w':World} {v:Value} {ll:List (List Int)} (h:RowsB B w v ll) (hb:Below w.heap.size w w'):RowsB B w' v ll:=by
 obtain ⟨us,h1,h2,h3⟩:=h;exact ⟨us,h1.below hb,h2,fun i a b=>(h3 i a b).below hb⟩
theorem Rows.below {w w':World} {v:Value} {ll:List (List Int)} (h:Rows w v ll) (hb:Below w.heap.size w w'):Rows w' v ll:=RowsB.below h hb
theorem IntsB.small (h:IntsB B w v l) (hl:l.length≤1000000000):Ints w v l:=by
 obtain ⟨a,cap,h1,h2,h3,h4,h5⟩:=h;exact ⟨a,cap,h1,h2,h3,by rw [List.length_map]; exact hl,h5⟩
theorem RowsB.small {B:Nat} {w:World} {v:Value} {ll:List (List Int)} (h:RowsB B w v ll) (hl:ll.length≤1000000000) (hr:∀ l∈ll,l.length≤1000000000):Rows w v ll:=by
 obtain ⟨us,⟨a,cap,h1,h2,h3,h4,h5⟩,hu,h6⟩:=h;exact ⟨us,⟨a,cap,h1,h2,h3,by rw [hu]; exact hl,h5⟩,hu,fun i a b=>(h6 i a b).small (hr _ (List.getElem_mem b))⟩
theorem Vals.mk {b o:Nat} {us:List Value} (hb:b<w.heap.size) (hc:us.length≤cap) (hm:cap≤maxLen) (hl:us.length≤1000000000)
  (h:∀ i (h:i<us.length),w.cell? ⟨b,o+i,none⟩=some us[i]):Vals w (.slice (some ⟨b,o,none⟩) us.length cap) us :=
 ⟨_,cap,rfl,hc,hm,hl,fun _=>⟨b,o,rfl,hb,h⟩⟩
theorem Ints.mk {b o:Nat} (hn:n=l.length) (hb:b<w.heap.size) (hc:l.length≤cap) (hm:cap≤maxLen) (hl:l.length≤1000000000)
  (h:∀ i (h:i<l.length),w.cell? ⟨b,o+i,none⟩=some (.int .i64 l[i])):Ints w (.slice (some ⟨b,o,none⟩) n cap) l:=by
 subst hn;refine ⟨some ⟨b,o,none⟩,cap,by simp,by simpa using hc,hm,by rw [List.length_map]; exact hl,fun _=>⟨b,o,rfl,hb,fun i hi=>?_⟩⟩
 have hi':i<l.length:=by simpa using hi
 rw [h i hi']; simp
theorem Ints.nil (w:World) (a:Option Addr) (cap:Nat) (hc:cap≤maxLen):Ints w (.slice a 0 cap) [] :=
 ⟨a,cap,rfl,by simp,hc,by simp,fun h=>by simp at h⟩
theorem Rows.nil (w:World) (a:Option Addr) (cap:Nat) (hc:cap≤maxLen):Rows w (.slice a 0 cap) [] :=
 ⟨[],⟨a,cap,rfl,by simp,hc,by simp,fun h=>by simp at h⟩,rfl,fun i h=>by simp at h⟩
theorem Vals.nil (w:World) (a:Option Addr) (cap:Nat) (hc:cap≤maxLen):Vals w (.slice a 0 cap) [] :=
 ⟨a,cap,rfl,by simp,hc,by simp,fun h=>by simp at h⟩
theorem Vals.of_row {e:TypeId} {xs:List Value} (h:w.ownsRow base e 1 v n xs) (hl:n≤1000000000):Vals w v xs:=by
 obtain ⟨h1,h2⟩:=h
 rcases h2 with ⟨rfl,rfl⟩ | ⟨g,cap,cur,rfl,hg,hc,h3,h4,h5,h6⟩
 ·obtain rfl:xs=[]:=by cases xs; rfl; simp at h1
  exact Vals.nil w none 0 (by simp)
 ·have hn:xs.length=n:=by omega
  subst hn;refine ⟨_,cap,rfl,h3,h4,hl,fun h0=>⟨g,0,rfl,(Array.getElem?_eq_some_iff.1 hc).1,fun i hi=>?_⟩⟩;unfold World.cell?;simp only [hc]
  have h7:cur.toList[i]?=xs[i]?:=by
   rw [← h6,List.getElem?_take_of_lt (by omega)]
  rw [Nat.zero_add,← Array.getElem?_toList,h7,List.getElem?_eq_getElem hi]; rfl
theorem Ints.of_row {w:World} {base:Nat} {e:TypeId} {v:Value} {n:Nat} {l:List Int} (h:w.ownsRow base e 1 v n (l.map (Value.int .i64))) (hl:n≤1000000000):Ints w v l:=Vals.of_row h hl
theorem Rows.of_row {w:World} {base:Nat} {e:TypeId} {v:Value} {n:Nat} {us:List Value} {ll:List (List Int)} (h:w.ownsRow base e 1 v n us) (hl:n≤1000000000) (hu:us.length=ll.length)
  (hr:∀ i (h:i<us.length) (h2:i<ll.length),Ints w us[i] ll[i]):Rows w v ll:=⟨us,Vals.of_row h hl,hu,hr⟩
theorem Ints.of_rowIs {b:Nat} {t:TypeId} {f:Nat→Value} (h:w.rowIs b t n f) (hn:n=l.length) (hl:n≤1000000000)
  (hf:∀ i (h:i<l.length),f i=.int .i64 l[i]):Ints w (.slice (some ⟨b,0,none⟩) n n) l:=by
 refine Ints.mk hn h.lt (by omega) (by unfold maxLen; omega) (by omega) (fun i hi=>?_);rw [Nat.zero_add,h.cell (by omega),hf i hi]
theorem bcell {w1:World} (hb:Below W.heap.size W w1):(∀ b o,b<W.heap.size→w1.cell? ⟨b,o,none⟩=W.cell? ⟨b,o,none⟩)∧(∀ b o,b<W.heap.size→w1.frozen? ⟨b,o,none⟩=W.frozen? ⟨b,o,none⟩) :=
 ⟨fun b o h=>hb.cell (p:=⟨b,o,none⟩) h,fun b o h=>hb.frozen (p:=⟨b,o,none⟩) h⟩
theorem acc (hb:Below w0.heap.size w0 w) (h:Below w.heap.size w w'):Below w0.heap.size w0 w':=hb.trans (h.mono hb.size)
theorem ret_int {k:IntKind} {a b:Int} (h:a=b):Ending.returned (.int k a)=.returned (.int k b):=by rw [h]
theorem ret_bool {a b:Bool} (h:a=b):Ending.returned (.bool a)=.returned (.bool b):=by rw [h]
theorem IntsB.len (h:IntsB B w v l):∃ n a cap,l.length=n∧v=.slice a n cap∧n≤B:=by
 obtain ⟨a,cap,h1,h2,h3,h4,h5⟩:=IntsB.shape h;exact ⟨_,a,cap,rfl,h1,h3⟩
theorem Ints.len {w:World} {v:Value} {l:List Int} (h:Ints w v l):∃ n a cap,l.length=n∧v=.slice a n cap∧n≤1000000000:=IntsB.len h
def NP (w:World) (v:Value) (a:List Nat):Prop:=Ints w v (Ma.ofN a)
theorem NP.shape {w:World} {v:Value} {l:List Nat} (h:NP w v l) :
  ∃ a cap,v=.slice a l.length cap∧l.length≤cap∧l.length≤1000000000∧cap≤maxLen ∧
  (0<l.length→∃ b o,a=some ⟨b,o,none⟩∧b<w.heap.size∧∀ i (h:i<l.length),w.cell? ⟨b,o+i,none⟩=some (.int .i64 ((l[i]:Nat):Int))):=by
 obtain ⟨a,cap,h1,h2,h3,h4,h5⟩:=Ints.shape h;rw [Ma.len_ofN] at h1 h2 h3;refine ⟨a,cap,h1,h2,h3,h4,fun h0=>?_⟩;obtain ⟨b,o,e1,e2,e3⟩:=h5 (by rw [Ma.len_ofN]; exact h0);exact ⟨b,o,e1,e2,fun i hi=>(e3 i (by rw [Ma.len_ofN]; exact hi)).trans (by rw [Ma.get_ofN])⟩
theorem NP.below {w w':World} {v:Value} {l:List Nat} (h:NP w v l) (hb:Below w.heap.size w w'):NP w' v l:=ValsB.below h hb
theorem NP.of_rowIs {w:World} {b:Nat} {t:TypeId} {n:Nat} {f:Nat→Value} {l:List Nat} (h:w.rowIs b t n f) (hn:n=l.length) (hl:n≤1000000000)
  (hf:∀ i (h:i<l.length),f i=.int .i64 ((l[i]:Nat):Int)):NP w (.slice (some ⟨b,0,none⟩) n n) l :=
 Ints.of_rowIs h (by rw [Ma.len_ofN]; exact hn) hl (fun i hi=>by rw [hf i (by rw [← Ma.len_ofN]; exact hi),Ma.get_ofN])
theorem NP.of_row {w:World} {base:Nat} {e:TypeId} {v:Value} {n:Nat} {l:List Nat} (h:w.ownsRow base e 1 v n (l.map fun (x:Nat)=>Value.int .i64 (x:Int))) (hl:n≤1000000000):NP w v l :=
 Ints.of_row (base:=base) (e:=e) (n:=n) (by unfold Ma.ofN; rw [List.map_map]; exact h) hl
theorem cellNew (w:World) (cs:Array Value) (t:TypeId) (j:Nat):(w.alloc (.cells cs t)).cell? ⟨w.heap.size,j,none⟩=cs[j]?:=by
 unfold World.cell? World.alloc;simp
theorem Rows.one (t:TypeId) (h:Ints w v l):Rows (w.alloc (.cells #[v] t)) (.slice (some ⟨w.heap.size,0,none⟩) 1 1) [l]:=by
 refine ⟨[v],⟨_,1,rfl,by simp,by unfold maxLen; simp,by simp [big],fun _=>⟨w.heap.size,0,rfl,by simp,fun i hi=>?_⟩⟩,rfl,fun i h1 h2=>?_⟩
 ·have hi':i=0:=by simpa using hi
  subst hi';rw [cellNew]; rfl
 ·have hi':i=0:=by simpa using h1
  subst hi';exact Ints.below h ((Below.refl _ _).alloc (Nat.le_refl _) _)
theorem Rows.two {v':Value} {l':List Int} (t:TypeId) (h:Ints w v l) (h':Ints w v' l'):Rows (w.alloc (.cells #[v,v'] t)) (.slice (some ⟨w.heap.size,0,none⟩) 2 2) [l,l']:=by
 refine ⟨[v,v'],⟨_,2,rfl,by simp,by unfold maxLen; simp,by simp [big],fun _=>⟨w.heap.size,0,rfl,by simp,fun i hi=>?_⟩⟩,rfl,fun i h1 h2=>?_⟩
 ·have hi':i=0∨i=1:=by simp at hi; omega
  rcases hi' with rfl | rfl
  all_goals
   rw [cellNew]; rfl
 ·have hi':i=0∨i=1:=by simp at h1; omega
  rcases hi' with rfl | rfl
  ·exact Ints.below h ((Below.refl _ _).alloc (Nat.le_refl _) _)
  ·exact Ints.below h' ((Below.refl _ _).alloc (Nat.le_refl _) _)
def Fresh (B:Nat) (v:Value):Prop:=∀ a n c,v=.slice (some a) n c→B≤a.block
def NPF (w w':World) (v:Value) (a:List Nat):Prop:=NP w' v a∧Fresh w.heap.size v
theorem Fresh.mono {B':Nat} (h:Fresh B v) (hb:B'≤B):Fresh B' v:=fun a n c e=>Nat.le_trans hb (h a n c e)
theorem Fresh.mk (B o n c:Nat):Fresh B (.slice (some ⟨B,o,none⟩) n c):=fun a n c e=>by simp at e; obtain ⟨⟨rfl,_⟩,_⟩:=e; exact Nat.le_refl _
theorem Fresh.of_row {e:TypeId} {size:Nat} {xs:List Value} (h:w.ownsRow base e size v n xs):Fresh base v:=fun a m c ev=>by
 subst ev;exact (h.lt a.block rfl).1
def Off (u:Value) (k:Option Nat):Prop:=∀ a n c,u=.slice (some a) n c→0<n→some a.block≠k
theorem NP.lt {l:List Nat} (h:NP w v l) {a:Addr} {c:Nat} (e:v=.slice (some a) n c) (hn:0<n):a.block<w.heap.size:=by
 obtain ⟨a',cap,h1,_,_,_,h5⟩:=h.shape;rw [e] at h1;simp at h1;obtain ⟨rfl,rfl,rfl⟩:=h1;obtain ⟨b,o,e1,e2,_⟩:=h5 hn;simp at e1; subst e1; exact e2
theorem NP.grown {l:List Nat} {k:Option Nat} (h:NP w v l) (ho:Off v k) (hg:w.grownBy w' k):NP w' v l:=by
 have hh:=h;obtain ⟨a,cap,h1,h2,h3,h4,h5⟩:=h;refine ⟨a,cap,h1,h2,h3,h4,fun h0=>?_⟩;obtain ⟨b,o,e1,e2,e3⟩:=h5 h0;subst e1;have hne:=ho _ _ _ h1 (by simpa using h0);exact ⟨b,o,rfl,Nat.lt_of_lt_of_le e2 hg.size,fun i hi=>hg.cell (e3 i hi) hne⟩
theorem Off.next {l:List Nat} {k k':Option Nat} {g:Nat} (h:Off v k) (hv:NP w v l) (hk:k'=k∨k'=some g) (hg:w.heap.size≤g):Off v k':=fun a n c e hn=>by
 rcases hk with rfl | rfl
 ·exact h a n c e hn
 ·have:=hv.lt e hn
  simp; omega
theorem Off.fresh {k:Option Nat} (h:Fresh B u) (hk:∀ b,k=some b→b<B):Off u k:=fun a n c e _ he=>by
 have h1:=h a n c e;have h2:=hk _ he.symm;omega
theorem Off.old {l:List Nat} {k:Option Nat} (h:NP w v l) (hw:w.heap.size≤B) (hk:∀ b,k=some b→B≤b):Off v k:=fun a n c e hn he=>by
 have h1:=h.lt e hn;have h2:=hk _ he.symm;omega

structure SlT (P:Program) (t e:TypeId) (z:Value) (bytes:Nat):Prop where
 ty:P.underlying t=some (.slice e)
 info:(P.info? e).map (fun i=>(i.zero,i.size,i.bytes))=some (some z,1,bytes)
 zc:z.cells.size=1
 small:bytes≤64
theorem app1 {P:Program} {W0 wr:World} {ops:Array Oper} {rest:List Oper} {o:Oper} {a:Act} {Q:Exit→Act→World→Prop} (hgd:o.guard=none) (s x:Operand) (t:TypeId)
  (ho:o.op=.call { callee:=.builtin .append,args:=#[s,x],argTypes:=#[t,t] })
  {e e':TypeId} (T:SlT P t e z bytes) {xs:List Value} (hown:wr.ownsRow W0.heap.size e 1 v n xs) (hb:Below W0.heap.size W0 wr)
  (u:Value) (hu:u.oneCell'=true) (hs:a.eval s=v) (hx:a.eval x=.slice (some ⟨wr.heap.size,0,none⟩) 1 1) (hn:n<1000000000)
  (h:∀ v' w',w'.ownsRow W0.heap.size e 1 v' (n+1) (xs++[u])→Below W0.heap.size W0 w'→(wr.alloc (.cells #[u] e')).grownBy w' v.ownBlock→(v'.ownBlock=v.ownBlock∨v'.ownBlock=some (wr.heap.size+1))→(∃ ad cap,v'=.slice ad (n+1) cap)→wpList P ops Q rest (a.put o.dst v') w') :
  wpList P ops Q (o :: rest) a (wr.alloc (.cells #[u] e')):=by
 obtain ⟨i0,hi,hz0,hz1,hz2⟩:=info_parts T.info;have hsz:=hb.size;refine wpList_append_own_at (wr.alloc (.cells #[u] e')) hgd s x t ho W0.heap.size e i0 z 1 bytes T.ty hi hz0 hz1 hz2 T.zc (by decide) v n xs hs (hown.alloc _) ⟨wr.heap.size,0,none⟩ 1 1 [u] hx rfl (cell_one_new _ _ _) (by simpa using hu) (by unfold maxLen; omega) ?_ (by simp; omega) ?_
 ·have:(n+1)*bytes≤1000000000*64:=Nat.mul_le_mul (by omega) T.small
  omega
 ·intro v' w' h1 h2 h3 h4
  refine h v' w' h1 ((hb.alloc hsz _).grown h2 (by simp; omega) (fun k hk=>(hown.lt k hk).1)) h2 (by simpa using h4) ?_;obtain ⟨_,hv⟩:=h1
  rcases hv with ⟨hv,hn0⟩ | ⟨g,cap,cur,hv,_⟩
  ·omega
  ·exact ⟨_,_,hv⟩
theorem drewN {B:Nat} {a w:World} (h:Below B a w) (k:Nat):Below B a (w.drewN k):=⟨h.os,h.tape,h.output,h.size,h.block⟩
theorem new2 (w:World) (x y:Value) (t:TypeId):∀ (j:Nat) (u:Value),[x,y][j]?=some u→(w.alloc (.cells #[x,y] t)).cell? ((⟨w.heap.size,0,none⟩:Addr).add j)=some u:=by
 intro j u h
 match j,h with
 | 0,h =>
  simp at h; subst h;rw [show (⟨w.heap.size,0,none⟩:Addr).add 0=⟨w.heap.size,0,none⟩ from rfl,cellNew]; rfl
 | 1,h =>
  simp at h; subst h;rw [show (⟨w.heap.size,0,none⟩:Addr).add 1=⟨w.heap.size,1,none⟩ from rfl,cellNew]; rfl
theorem app2 {P:Program} {W0 wr:World} {ops:Array Oper} {rest:List Oper} {o:Oper} {a:Act} {Q:Exit→Act→World→Prop} (hgd:o.guard=none) (s x:Operand) (t:TypeId)
  (ho:o.op=.call { callee:=.builtin .append,args:=#[s,x],argTypes:=#[t,t] })
  {e e':TypeId} (T:SlT P t e z bytes) {xs:List Value} (hown:wr.ownsRow W0.heap.size e 1 v n xs) (hb:Below W0.heap.size W0 wr)
  (u u2:Value) (hu:u.oneCell'=true) (hu2:u2.oneCell'=true) (hs:a.eval s=v) (hx:a.eval x=.slice (some ⟨wr.heap.size,0,none⟩) 2 2) (hn:n+1<1000000000)
  (h:∀ v' w',w'.ownsRow W0.heap.size e 1 v' (n+2) (xs++[u,u2])→Below W0.heap.size W0 w'→(wr.alloc (.cells #[u,u2] e')).grownBy w' v.ownBlock→(v'.ownBlock=v.ownBlock∨v'.ownBlock=some (wr.heap.size+1))→(∃ ad cap,v'=.slice ad (n+2) cap)→wpList P ops Q rest (a.put o.dst v') w') :
  wpList P ops Q (o :: rest) a (wr.alloc (.cells #[u,u2] e')):=by
 obtain ⟨i0,hi,hz0,hz1,hz2⟩:=info_parts T.info;have hsz:=hb.size;refine wpList_append_own_at (wr.alloc (.cells #[u,u2] e')) hgd s x t ho W0.heap.size e i0 z 1 bytes T.ty hi hz0 hz1 hz2 T.zc (by decide) v n xs hs (hown.alloc _) ⟨wr.heap.size,0,none⟩ 2 2 [u,u2] hx rfl (new2 _ _ _ _) (by simp; exact ⟨hu,hu2⟩) (by unfold maxLen; omega) ?_ (by simp; omega) ?_
 ·have:(n+2)*bytes≤1000000000*64:=Nat.mul_le_mul (by omega) T.small
  omega
 ·intro v' w' h1 h2 h3 h4
  refine h v' w' h1 ((hb.alloc hsz _).grown h2 (by simp; omega) (fun k hk=>(hown.lt k hk).1)) h2 (by simpa using h4) ?_;obtain ⟨_,hv⟩:=h1
  rcases hv with ⟨hv,hn0⟩ | ⟨g,cap,cur,hv,_⟩
  ·omega
  ·exact ⟨_,_,hv⟩
theorem row_below {e:TypeId} {size:Nat} {xs:List Value} (h:w.ownsRow base e size v n xs) (hb:Below w.heap.size w w'):w'.ownsRow base e size v n xs :=
 h.kept (row:=none) ⟨hb.os,hb.tape,hb.output,hb.size,fun i hi _=>hb.block i hi⟩ (by cases v.ownBlock <;> simp)
def Apart (v1 v2:Value):Prop:=∀ b,v1.ownBlock=some b→v2.ownBlock≠some b
theorem Apart.nil (v:Value):Apart (.slice none 0 0) v:=fun b h=>by simp [Value.ownBlock] at h
theorem Apart.symm (h:Apart v1 v2):Apart v2 v1:=fun b h1 h2=>h b h2 h1
theorem Apart.grow {v1':Value} {e:TypeId} {size g:Nat} {xs:List Value} (h:Apart v1 v2) (ho:w.ownsRow base e size v2 n xs) (hv:v1'.ownBlock=v1.ownBlock∨v1'.ownBlock=some g) (hg:w.heap.size≤g):Apart v1' v2:=fun b h1 h2=>by
 rcases hv with hv | hv
 ·exact h b (hv▸h1) h2
 ·have:=(ho.lt b h2).2
  rw [hv] at h1; simp at h1; omega
theorem Apart.keep {e:TypeId} {size:Nat} {xs:List Value} (h:Apart v1 v2) (ho:w.ownsRow base e size v2 n xs) (hg:w.grownBy w' v1.ownBlock):w'.ownsRow base e size v2 n xs:=by
 refine ho.kept hg ?_
 cases hv:v2.ownBlock with
 | none=>exact .inl rfl
 | some b=>exact .inr (fun e=>h b e.symm hv)
def Elts (w:World) (us:List Value) (gs:List (List Nat)):Prop:=us.length=gs.length∧∀ i (h:i<us.length) (h2:i<gs.length),NP w us[i] gs[i]
theorem Elts.nil (w:World):Elts w [] []:=⟨rfl,fun i h=>by simp at h⟩
theorem Elts.below {w w':World} {us:List Value} {gs:List (List Nat)} (h:Elts w us gs) (hb:Below w.heap.size w w'):Elts w' us gs:=⟨h.1,fun i a b=>(h.2 i a b).below hb⟩
theorem Elts.snoc {us:List Value} {g:List Nat} (h:Elts w us gs) (hu:NP w u g):Elts w (us++[u]) (gs++[g]):=by
 refine ⟨by simp [h.1],fun i a b=>?_⟩;have hl:=h.1
 by_cases hi:i<us.length
 ·rw [List.getElem_append_left hi,List.getElem_append_left (by omega)]; exact h.2 i hi (by omega)
 ·have hi2:i=us.length:=by simp at a; omega
  have e1:(us++[u])[i]=u:=by rw [List.getElem_append_right (by omega)]; simp
  have e2:(gs++[g])[i]=g:=by rw [List.getElem_append_right (by omega)]; simp
  rw [e1,e2]; exact hu
theorem Elts.rows {us:List Value} (h:Elts w us gs) (hv:Vals w v us):Rows w v (gs.map Ma.ofN) :=
 ⟨us,hv,by simp [h.1],fun i a b=>by simp only [List.getElem_map]; exact h.2 i a (by simpa using b)⟩
def Offs (us:List Value) (k:Option Nat):Prop:=∀ u∈us,Off u k
theorem Offs.nil (k:Option Nat):Offs [] k:=fun u h=>by simp at h
theorem Offs.snoc {us:List Value} {k:Option Nat} (h:Offs us k) (hu:Off u k):Offs (us++[u]) k:=fun x hx=>by
 rcases List.mem_append.1 hx with hx | hx
 ·exact h x hx
 ·obtain rfl:x=u:=by simpa using hx
  exact hu
theorem Elts.grown {w w':World} {us:List Value} {gs:List (List Nat)} {k:Option Nat} (h:Elts w us gs) (ho:Offs us k) (hg:w.grownBy w' k):Elts w' us gs :=
 ⟨h.1,fun i a b=>(h.2 i a b).grown (ho _ (List.getElem_mem a)) hg⟩
theorem Offs.next {w:World} {us:List Value} {gs:List (List Nat)} {k k':Option Nat} {g:Nat} (h:Offs us k) (he:Elts w us gs) (hk:k'=k∨k'=some g) (hg:w.heap.size≤g):Offs us k':=fun u hu=>by
 obtain ⟨i,hi,rfl⟩:=List.getElem_of_mem hu;exact (h _ hu).next (he.2 i hi (by rw [← he.1]; exact hi)) hk hg
def NRows (w:World) (v:Value) (gs:List (List Nat)):Prop:=Rows w v (gs.map Ma.ofN)
theorem NRows.below {w w':World} {v:Value} {gs:List (List Nat)} (h:NRows w v gs) (hb:Below w.heap.size w w'):NRows w' v gs:=Rows.below h hb
theorem NRows.shape {w:World} {v:Value} {gs:List (List Nat)} (h:NRows w v gs) :
  ∃ a cap,v=.slice a gs.length cap∧gs.length≤cap∧gs.length≤1000000000∧cap≤maxLen ∧
  (0<gs.length→∃ b o,a=some ⟨b,o,none⟩∧b<w.heap.size∧∀ i (h:i<gs.length),∃ u,w.cell? ⟨b,o+i,none⟩=some u∧NP w u gs[i]):=by
 obtain ⟨a,cap,h1,h2,h3,h4,h5⟩:=Rows.shape h;rw [List.length_map] at h1 h2 h3;refine ⟨a,cap,h1,h2,h3,h4,fun h0=>?_⟩;obtain ⟨b,o,e1,e2,e3⟩:=h5 (by simpa using h0);refine ⟨b,o,e1,e2,fun i hi=>?_⟩;obtain ⟨u,q1,q2⟩:=e3 i (by simpa using hi);exact ⟨u,q1,by rw [List.getElem_map] at q2; exact q2⟩
theorem NP.len {w:World} {v:Value} {l:List Nat} (h:NP w v l):∃ n a cap,l.length=n∧v=.slice a n cap∧n≤1000000000:=by
 obtain ⟨n,a,cap,h1,h2,h3⟩:=Ints.len h;exact ⟨n,a,cap,by rw [← h1,Ma.len_ofN],h2,h3⟩
theorem wpOp_value {P:Program} {ops:Array Oper} {Q:Exit→Act→World→Prop} {i:Nat} {o:Oper} {K:Act→World→Prop} {a:Act} (d:Option Tmp) (hi:ops[i]?=some o) (hd:o.dst=d) (hw:Region.wanted o (yielded ops a.tmps)=true)
  (hr:(execOp a.eval o).run P w=.ok (.value v) w') (h:K (a.put d v) w'):wpOp P ops Q i K a w:=by
 subst hd;unfold wpOp;simp only [hi,hw,if_true]
 left
 unfold Oper.wp;rw [hr];exact h
theorem wpOp_skip {P:Program} {ops:Array Oper} {Q:Exit→Act→World→Prop} {i:Nat} {o:Oper} {K:Act→World→Prop} {a:Act} (d:Option Tmp) (hi:ops[i]?=some o) (hd:o.dst=d) (hw:Region.wanted o (yielded ops a.tmps)=true)
  (hr:(execOp a.eval o).run P w=.ok .skip w') (h:K (a.put d undef) w'):wpOp P ops Q i K a w:=by
 subst hd;unfold wpOp;simp only [hi,hw,if_true]
 left
 unfold Oper.wp;rw [hr];exact h
theorem exec_insert {P:Program} {o:Oper} {a:Act} (t:TypeId) (m k x:Operand) (ho:o.op=.insert t m k x) (mv kv xv:Value) (hm:a.eval m=mv) (hk:a.eval k=kv) (hx:a.eval x=xv)
  (hr:(Instr.mapUpdate t mv kv xv).run P w=.ok () w'):(execOp a.eval o).run P w=.ok .skip w':=by
 unfold execOp;simp [ho,hm,hk,hx,hr,Result.andThen]
theorem exec_buildSlice {P:Program} {o:Oper} {a:Act} (t:TypeId) (n:Nat) (x:Operand) (ho:o.op=.buildSlice t n #[(0,x)]) (xv:Value) (hx:a.eval x=xv)
  (hr:(Instr.buildSlice t n #[(0,xv)]).run P w=.ok v w'):(execOp a.eval o).run P w=.ok (.value v) w':=by
 unfold execOp;simp [ho,hx,hr,Result.andThen]
theorem exec_assign {P:Program} {o:Oper} {a:Act} (x:Operand) (ho:o.op=.assign x) (hx:a.eval x=v):(execOp a.eval o).run P w=.ok (.value v) w:=by
 unfold execOp;simp [ho,hx]
theorem exec_move {P:Program} {o:Oper} {a:Act} (x:Operand) (ho:o.op=.move x) (hx:a.eval x=v):(execOp a.eval o).run P w=.ok (.value v) w:=by
 unfold execOp;simp [ho,hx]
theorem exec_box {P:Program} {o:Oper} {a:Act} {cs:Array Value} (t:TypeId) (x:Operand) (ho:o.op=.box t x) (hx:a.eval x=.agg cs) :
  (execOp a.eval o).run P w=.ok (.value (.pointer (some ⟨w.heap.size,0,none⟩))) (w.alloc (.cells cs t)):=by
 unfold execOp;simp [ho,hx,Instr.box,newVar,newRow,Value.cells,Result.andThen]
theorem row_shape {e:TypeId} {size:Nat} {xs:List Value} (h:w.ownsRow base e size v n xs):∃ a cap,v=.slice a n cap:=by
 obtain ⟨_,hv⟩:=h
 rcases hv with ⟨hv,hn0⟩ | ⟨g,cap,cur,hv,_⟩
 ·exact ⟨none,0,by rw [hv,hn0]⟩
 ·exact ⟨_,_,hv⟩
end Go.Proofs.Rg

namespace Go.Proofs.Rg
theorem xm (v : Value) {P : Program} {o : Oper} {a : Act} (x : Operand) (ho : o.op = .move x) (hx : a.eval x = v) : (execOp a.eval o).run P w = .ok (.value v) w := exec_move (v := v) x ho hx
theorem xa (v : Value) {P : Program} {o : Oper} {a : Act} (x : Operand) (ho : o.op = .assign x) (hx : a.eval x = v) : (execOp a.eval o).run P w = .ok (.value v) w := exec_assign (v := v) x ho hx
theorem wl {P : Program} {ops : Array Oper} {Q : Exit → Act → World → Prop} {a : Act} {id : Nat} (h : wpList P ops Q ops.toList a w) : (Code.region id ops false).wp P Q a w := wp_region_list h
end Go.Proofs.Rg
theorem ι {p : Prop} (h : p) : Go.RowKit.Hid p := h

namespace Go.Proofs.Jm
open Go Go.RowKit
open Go.ChangeMaps
structure KT (P:Program) (t k e v:TypeId) (z:Value):Prop where
 ht:P.underlying t=some (.map k v)
 hk:P.underlying k=some (.array 2 e)
 he:P.underlying e=some (.int .i64)
 hs:∀ w,(sizeOf e).run P w=.ok 1 w
 hz:∀ w,(zeroValue v).run P w=.ok z w
def keyV (l:Nat × Nat):Value:=.agg #[.int .i64 ((l.1:Nat):Int),.int .i64 ((l.2:Nat):Int)]
def KMap (w:World) (r:Nat) (m:List ((Nat × Nat) × Value)):Prop :=
 ∃ es clock,w.heap[r]?=some (.map es clock)∧es.toList.map (fun e=>(e.key,e.val))=m.map (fun x=>(keyV x.1,x.2))
theorem KMap.lt {r:Nat} {m:List ((Nat × Nat) × Value)} (h:KMap w r m):r<w.heap.size:=by
 obtain ⟨es,c,h1,_⟩:=h; exact (Array.getElem?_eq_some_iff.1 h1).1
theorem KMap.of_block {r:Nat} {m:List ((Nat × Nat) × Value)} (h:KMap w r m) (e:w'.heap[r]?=w.heap[r]?):KMap w' r m:=by
 obtain ⟨es,c,h1,h2⟩:=h; exact ⟨es,c,e.trans h1,h2⟩
theorem KMap.below {r:Nat} {m:List ((Nat × Nat) × Value)} (h:KMap w r m) (hb:Below w.heap.size w w'):KMap w' r m:=h.of_block (hb.block r h.lt)
theorem KMap.new (w:World):KMap (w.alloc (.map #[] 0)) w.heap.size []:=⟨#[],0,by unfold World.alloc; simp,rfl⟩
def look (m:List ((Nat × Nat) × Value)) (k:Nat × Nat):Option Value:=(m.find? (fun x=>k == x.1)).map (·.2)
section
variable {P:Program} {t k e v:TypeId} {z:Value}
theorem part0 (T:KT P t k e v z) (x y:Value) (w:World):(part e #[x,y] (0*1)).run P w=.ok x w:=by
 simp [part,isAgg,run_underlying T.he]
theorem part1 (T:KT P t k e v z) (x y:Value) (w:World):(part e #[x,y] ((0+1)*1)).run P w=.ok y w:=by
 simp [part,isAgg,run_underlying T.he]
theorem check_items (T:KT P t k e v z) (em:Bool) (xs:Nat × Nat) (w:World):(Instr.checkKey em 10000 k (keyV xs)).run P w=.ok () w:=by
 rw [show (10000:Nat)=9999+1 from rfl,keyV,Instr.checkKey];simp only [Sem.run_bind,run_underlying T.hk,Result.andThen_ok,Std.Legacy.Range.forIn_eq_forIn_range',Std.Legacy.Range.size,List.range',List.forIn_cons,List.forIn_nil]
 have pc:∀ (x:Int) w,(Instr.checkKey em 9999 e (.int .i64 x)).run P w=.ok () w:=fun x w=>by
  rw [show (9999:Nat)=9998+1 from rfl,Instr.checkKey];simp [Sem.run_bind,run_underlying T.he]
 simp only [Sem.run_bind,T.hs,part0 T,part1 T,pc,Result.andThen_ok,Sem.run_pure]
theorem run_eq2 (T:KT P t k e v z) (d:Nat) (a b:Nat × Nat) (W:World):(Op.equalIn (d+1+1) k (keyV a) (keyV b)).run P W=.ok (a == b) W:=by
 have h1:∀ (x y:Int) (w:World),(Op.equalIn (d+1) e (.int .i64 x) (.int .i64 y)).run P w=.ok (x == y) w:=fun x y w=>run_equalIn_int w d e .i64 .i64 x y T.he;rw [keyV,keyV,Op.equalIn,Sem.run_bind,run_underlying T.hk];simp only [Result.andThen_ok];rw [Sem.run_bind,T.hs];simp only [Result.andThen_ok,Std.Legacy.Range.forIn_eq_forIn_range',Std.Legacy.Range.size,List.range',List.forIn_cons,List.forIn_nil];simp only [Sem.run_bind,part0 T,h1,Result.andThen_ok]
 have e0:(a == b)=((((a.1:Nat):Int) == ((b.1:Nat):Int)) && (((a.2:Nat):Int) == ((b.2:Nat):Int))):=by
  rw [Bool.eq_iff_iff];simp only [beq_iff_eq,Bool.and_eq_true]
  constructor
  ·rintro rfl; exact ⟨rfl,rfl⟩
  ·rintro ⟨e1,e2⟩
   exact Prod.ext (by omega) (by omega)
 rw [e0];generalize ((a.1:Nat):Int)=a1;generalize ((a.2:Nat):Int)=a2;generalize ((b.1:Nat):Int)=b1;generalize ((b.2:Nat):Int)=b2
 cases (a1 == b1)
 ·simp [Sem.run_pure,Result.andThen]
 ·by_cases e:a2=b2 <;> simp [Sem.run_bind,Sem.run_pure,Result.andThen,part1 T,h1,e]
theorem ask_items (T:KT P t k e v z) (w:World) (kb:Nat × Nat):∀ (es:List MapEntry) (m:List ((Nat × Nat) × Value)) (i:Nat),
  es.map (fun e=>(e.key,e.val))=m.map (fun x=>(keyV x.1,x.2)) →
  ∃ r,(Instr.findAsking k (keyV kb) es i).run P w=.ok r w∧r.map (·.2)=look m kb
 | [],m,i,h=>by
  obtain rfl:m=[]:=by cases m; rfl; simp at h
  exact ⟨none,by simp [Instr.findAsking],rfl⟩
 | e0 :: es,m,i,h=>by
  cases m with
  | nil=>simp at h
  | cons x m =>
   simp only [List.map_cons,List.cons.injEq,Prod.mk.injEq] at h;obtain ⟨⟨h1,h2⟩,h3⟩:=h
   have pe:(Op.equal k (keyV kb) e0.key).run P w=.ok (kb == x.1) w:=by
    rw [h1,Op.equal,Op.maxDepth];exact run_eq2 T 9998 kb x.1 w
   obtain ⟨r,hr,hr2⟩:=ask_items T w kb es m (i+1) h3;rw [Instr.findAsking];simp only [Sem.run_bind,pe,Result.andThen_ok]
   cases hq:(kb == x.1)
   ·refine ⟨r,by simpa using hr,?_⟩
    rw [hr2]; simp [look,hq]
   ·refine ⟨some (i,e0.val),by simp,?_⟩
    simp [look,hq,h2]
theorem find_items (T:KT P t k e v z) (w:World) (kb:Nat × Nat) (es:List MapEntry) (m:List ((Nat × Nat) × Value))
  (h:es.map (fun e=>(e.key,e.val))=m.map (fun x=>(keyV x.1,x.2))) :
  ∃ r,(Instr.findKey k (keyV kb) es).run P w=.ok r w∧r.map (·.2)=look m kb:=by
 unfold Instr.findKey;simp only [Sem.run_bind,run_underlying T.hk,Result.andThen_ok]
 cases es with
 | nil =>
  obtain rfl:m=[]:=by cases m; rfl; simp at h
  exact ⟨none,by simp [Instr.findNow],rfl⟩
 | cons e0 es =>
  have:Instr.findNow (.array 2 e) (keyV kb) (e0 :: es) 0=none:=by simp [Instr.findNow,Instr.sameNow]
  rw [this];exact ask_items T w kb _ m 0 h
theorem lookup_ok (T:KT P t k e v z) {r:Nat} {m:List ((Nat × Nat) × Value)} (h:KMap w r m) (kb:Nat × Nat) :
  (Instr.lookup t (.map (some r)) (keyV kb) true).run P w=.ok (.tuple #[(look m kb).getD z,.bool (look m kb).isSome]) w:=by
 obtain ⟨es,c,h1,h2⟩:=h;obtain ⟨q,hq,hq2⟩:=find_items T w kb es.toList m h2
 cases q with
 | none =>
  have:look m kb=none:=by rw [← hq2]; rfl
  simp [Instr.lookup,run_underlying T.ht,MapKept.run_getObj_map h1,check_items T _ kb,hq,T.hz,Result.andThen,this]
 | some x =>
  have:look m kb=some x.2:=by rw [← hq2]; rfl
  simp [Instr.lookup,run_underlying T.ht,MapKept.run_getObj_map h1,check_items T _ kb,hq,Result.andThen,this]
theorem lookup_no (T:KT P t k e v z) {r:Nat} {m:List ((Nat × Nat) × Value)} (h:KMap w r m) (kb:Nat × Nat) :
  (Instr.lookup t (.map (some r)) (keyV kb) false).run P w=.ok ((look m kb).getD z) w:=by
 obtain ⟨es,c,h1,h2⟩:=h;obtain ⟨q,hq,hq2⟩:=find_items T w kb es.toList m h2
 cases q with
 | none =>
  have:look m kb=none:=by rw [← hq2]; rfl
  simp [Instr.lookup,run_underlying T.ht,MapKept.run_getObj_map h1,check_items T _ kb,hq,T.hz,Result.andThen,this]
 | some x =>
  have:look m kb=some x.2:=by rw [← hq2]; rfl
  simp [Instr.lookup,run_underlying T.ht,MapKept.run_getObj_map h1,check_items T _ kb,hq,Result.andThen,this]
theorem update_new (T:KT P t k e v z) {r:Nat} {m:List ((Nat × Nat) × Value)} (h:KMap w r m) (kb:Nat × Nat) (hno:look m kb=none) (val:Value) :
  ∃ w',(Instr.mapUpdate t (.map (some r)) (keyV kb) val).run P w=.ok () w'∧KMap w' r (m++[(kb,val)])∧w.grownBy w' (some r):=by
 obtain ⟨es,c,h1,h2⟩:=h;obtain ⟨q,hq,hq2⟩:=find_items T w kb es.toList m h2;rw [hno] at hq2
 have:q=none:=by cases q; rfl; simp at hq2
 subst this;refine ⟨setBlock w r (.map (es.push ⟨keyV kb,val,c⟩) (c+1)),?_,⟨_,_,heap_setBlock_same h1 _,?_⟩,⟨rfl,rfl,rfl,by simp [setBlock],fun i _ hi=>heap_setBlock_other h1 _ (fun e=>hi (by rw [e]))⟩⟩
 ·simp [Instr.mapUpdate,run_underlying T.ht,MapKept.run_getObj_map h1,check_items T _ kb,hq,MapKept.run_setObj_map _ h1,Result.andThen,setBlock]
 ·simp [h2]
end
end Go.Proofs.Jm

namespace Go.Proofs.Rg
open Go Go.RowKit
theorem exec_load {P:Program} {o:Oper} {a:Act} (t:TypeId) (x:Operand) (ho:o.op=.load t x) (ad:Addr) (hx:a.eval x=.pointer (some ad)) (hr:(loadVar t ad).run P w=.ok v w) :
  (execOp a.eval o).run P w=.ok (.value v) w:=by
 unfold execOp;simp only [ho,hx,Instr.loadAt,Instr.sureAddr,Sem.run_bind,Sem.run_pure,Result.andThen_ok,hr]
theorem exec_lookup {P:Program} {o:Oper} {a:Act} (t:TypeId) (m k:Operand) (ok:Bool) (ho:o.op=.lookup t m k ok) (mv kv:Value) (hm:a.eval m=mv) (hk:a.eval k=kv)
  (hr:(Instr.lookup t mv kv ok).run P w=.ok v w):(execOp a.eval o).run P w=.ok (.value v) w:=by
 unfold execOp;simp only [ho,hm,hk,Sem.run_bind,Sem.run_pure,Result.andThen_ok,hr]
theorem list_run {P:Program} {ops:Array Oper} {rest:List Oper} {o:Oper} {a:Act} {Q:Exit→Act→World→Prop} (d:Option Tmp) (hg:o.guard=none) (hd:o.dst=d)
  (hr:(execOp a.eval o).run P w=.ok (.value v) w') (h:wpList P ops Q rest (a.put d v) w'):wpList P ops Q (o :: rest) a w:=by
 subst hd;refine wpList_plain hg fun K hK=>?_;unfold Oper.wp;rw [hr];exact hK _ _ h
theorem list_skip {P:Program} {ops:Array Oper} {rest:List Oper} {o:Oper} {a:Act} {Q:Exit→Act→World→Prop} (d:Option Tmp) (hg:o.guard=none) (hd:o.dst=d)
  (hr:(execOp a.eval o).run P w=.ok .skip w') (h:wpList P ops Q rest (a.put d undef) w'):wpList P ops Q (o :: rest) a w:=by
 subst hd;refine wpList_plain hg fun K hK=>?_;unfold Oper.wp;rw [hr];exact hK _ _ h
theorem exec_mapUpdate {P:Program} {o:Oper} {a:Act} (t:TypeId) (m k x:Operand) (ho:o.op=.mapUpdate t m k x) (mv kv xv:Value) (hm:a.eval m=mv) (hk:a.eval k=kv) (hx:a.eval x=xv)
  (hr:(Instr.mapUpdate t mv kv xv).run P w=.ok () w'):(execOp a.eval o).run P w=.ok .skip w':=by
 unfold execOp;simp [ho,hm,hk,hx,hr,Result.andThen]
end Go.Proofs.Rg

namespace Go.Proofs.Rg
open Go.RowKit
theorem lr {P : Program} {ops : Array Oper} {rest : List Oper} {o : Oper} {a : Act} {Q : Exit → Act → World → Prop} (d : Nat)
    (hr : (execOp a.eval o).run P w = .ok (.value v) w') (h : wpList P ops Q rest (a.put (some d) v) w') (hg : o.guard = none := by exact rfl) (hd : o.dst = some d := by exact rfl) : wpList P ops Q (o :: rest) a w := list_run (some d) hg hd hr h
theorem lm {P : Program} {ops : Array Oper} {rest : List Oper} {o : Oper} {a : Act} {Q : Exit → Act → World → Prop} (d : Nat) (v : Value)
    (h : wpList P ops Q rest (a.put (some d) v) w) {x : Operand} (ho : o.op = .move x := by exact rfl) (hx : a.eval x = v := by exact rfl) (hg : o.guard = none := by exact rfl) (hd : o.dst = some d := by exact rfl) : wpList P ops Q (o :: rest) a w := list_run (some d) hg hd (exec_move (v := v) x ho hx) h
theorem la {P : Program} {ops : Array Oper} {rest : List Oper} {o : Oper} {a : Act} {Q : Exit → Act → World → Prop} (d : Nat) (v : Value)
    (h : wpList P ops Q rest (a.put (some d) v) w) {x : Operand} (ho : o.op = .assign x := by exact rfl) (hx : a.eval x = v := by exact rfl) (hg : o.guard = none := by exact rfl) (hd : o.dst = some d := by exact rfl) : wpList P ops Q (o :: rest) a w := list_run (some d) hg hd (exec_assign (v := v) x ho hx) h
end Go.Proofs.Rg

namespace Go.Proofs.Rg
open Go Go.RowKit
structure Kp (M:Nat→Prop) (w w':World):Prop where
 os:w'.os=w.os
 tape:w'.tape=w.tape
 output:w'.output=w.output
 size:w.heap.size≤w'.heap.size
 block:∀ k,k<w.heap.size→¬ M k→w'.heap[k]?=w.heap[k]?
theorem Kp.refl (M:Nat→Prop) (w:World):Kp M w w:=⟨rfl,rfl,rfl,Nat.le_refl _,fun _ _ _=>rfl⟩
theorem Kp.of_below (h:Below w.heap.size w w'):Kp M w w':=⟨h.os,h.tape,h.output,h.size,fun k hk _=>h.block k hk⟩
theorem Kp.of_grown {row:Option Nat} (h:w.grownBy w' row) (hM:∀ k,row=some k→M k):Kp M w w' :=
 ⟨h.os,h.tape,h.output,h.size,fun k hk hn=>h.block k hk (fun e=>hn (hM k e.symm))⟩
theorem Kp.of_setCell {a:Addr} (hM:M a.block):Kp M w (w.setCell a v) :=
 ⟨rfl,rfl,rfl,by simp [World.setCell],fun k _ hn=>Below.heap_setCell _ _ _ _ (fun e=>hn (e▸hM))⟩
theorem Kp.trans {M M':Nat→Prop} {w w' w'':World} (h:Kp M w w') (h':Kp M' w' w'') (hM:∀ k,k<w.heap.size→M' k→M k):Kp M w w'' :=
 ⟨h'.os.trans h.os,h'.tape.trans h.tape,h'.output.trans h.output,Nat.le_trans h.size h'.size,
  fun k hk hn=>(h'.block k (Nat.lt_of_lt_of_le hk h.size) (fun e=>hn (hM k hk e))).trans (h.block k hk hn)⟩
theorem Kp.weak (h:Kp M w w') (hM:∀ k,M k→M' k):Kp M' w w':=⟨h.os,h.tape,h.output,h.size,fun k hk hn=>h.block k hk (fun e=>hn (hM k e))⟩
theorem Kp.below (hb:Below w0.heap.size w0 w) (h:Kp M w w') (hM:∀ k,M k→w0.heap.size≤k):Below w0.heap.size w0 w' :=
 hb.trans ⟨h.os,h.tape,h.output,h.size,fun k hk=>h.block k (Nat.lt_of_lt_of_le hk hb.size) (fun e=>by have:=hM k e; omega)⟩
def FVals (F:Nat→Prop) (w:World) (v:Value) (us:List Value):Prop :=
 ∃ a cap,v=.slice a us.length cap∧us.length≤cap∧cap≤maxLen∧us.length≤1000000000 ∧
  (0<us.length→∃ b o,a=some ⟨b,o,none⟩∧b<w.heap.size∧F b∧∀ i (h:i<us.length),w.cell? ⟨b,o+i,none⟩=some us[i])
def FI (F:Nat→Prop) (w:World) (v:Value) (l:List Int):Prop:=FVals F w v (l.map (Value.int .i64))
def FElts (F:Nat→Prop) (w:World) (us:List Value) (ll:List (List Int)):Prop:=us.length=ll.length∧∀ i (h:i<us.length) (h2:i<ll.length),FI F w us[i] ll[i]
def FRows (F:Nat→Prop) (w:World) (v:Value) (ll:List (List Int)):Prop:=∃ us,FVals F w v us∧FElts F w us ll
def FElts2 (F:Nat→Prop) (w:World) (us:List Value) (ll:List (List (List Int))):Prop:=us.length=ll.length∧∀ i (h:i<us.length) (h2:i<ll.length),FRows F w us[i] ll[i]
theorem FVals.kp {us:List Value} (h:FVals F w v us) (hk:Kp M w w') (hM:∀ k,F k→¬ M k):FVals F w' v us:=by
 obtain ⟨a,cap,h1,h2,h3,h4,h5⟩:=h;refine ⟨a,cap,h1,h2,h3,h4,fun h0=>?_⟩;obtain ⟨b,o,e1,e2,e3,e4⟩:=h5 h0;exact ⟨b,o,e1,Nat.lt_of_lt_of_le e2 hk.size,e3,fun i hi=>(World.cell?_of_block (w:=w) (a:=⟨b,o+i,none⟩) (hk.block b e2 (hM b e3))).trans (e4 i hi)⟩
theorem FVals.mono {us:List Value} (h:FVals F w v us) (hF:∀ k,F k→F' k):FVals F' w v us:=by
 obtain ⟨a,cap,h1,h2,h3,h4,h5⟩:=h;refine ⟨a,cap,h1,h2,h3,h4,fun h0=>?_⟩;obtain ⟨b,o,e1,e2,e3,e4⟩:=h5 h0;exact ⟨b,o,e1,e2,hF b e3,e4⟩
theorem FVals.vals {us:List Value} (h:FVals F w v us):Vals w v us:=by
 obtain ⟨a,cap,h1,h2,h3,h4,h5⟩:=h;refine ⟨a,cap,h1,h2,h3,h4,fun h0=>?_⟩;obtain ⟨b,o,e1,e2,e3,e4⟩:=h5 h0;exact ⟨b,o,e1,e2,e4⟩
theorem FVals.of {us:List Value} (h:Vals w v us) (hF:∀ b,v.ownBlock=some b→F b):FVals F w v us:=by
 obtain ⟨a,cap,h1,h2,h3,h4,h5⟩:=h;refine ⟨a,cap,h1,h2,h3,h4,fun h0=>?_⟩;obtain ⟨b,o,e1,e2,e4⟩:=h5 h0;exact ⟨b,o,e1,e2,hF b (by rw [h1,e1]; rfl),e4⟩
theorem FVals.shape {us:List Value} (h:FVals F w v us):∃ a cap,v=.slice a us.length cap:=by
 obtain ⟨a,cap,h1,_⟩:=h; exact ⟨a,cap,h1⟩
theorem FI.kp {F M:Nat→Prop} {w w':World} {v:Value} {l:List Int} (h:FI F w v l) (hk:Kp M w w') (hM:∀ k,F k→¬ M k):FI F w' v l:=FVals.kp h hk hM
theorem FI.mono {F F':Nat→Prop} {w:World} {v:Value} {l:List Int} (h:FI F w v l) (hF:∀ k,F k→F' k):FI F' w v l:=FVals.mono h hF
theorem FI.ints (h:FI F w v l):Ints w v l:=FVals.vals h
theorem FI.len {F:Nat→Prop} {w:World} {v:Value} {l:List Int} (h:FI F w v l):∃ n a cap,l.length=n∧v=.slice a n cap∧n≤1000000000:=Ints.len h.ints
theorem FElts.kp {F M:Nat→Prop} {w w':World} {us:List Value} {ll:List (List Int)} (h:FElts F w us ll) (hk:Kp M w w') (hM:∀ k,F k→¬ M k):FElts F w' us ll:=⟨h.1,fun i a b=>(h.2 i a b).kp hk hM⟩
theorem FElts.mono {F F':Nat→Prop} {w:World} {us:List Value} {ll:List (List Int)} (h:FElts F w us ll) (hF:∀ k,F k→F' k):FElts F' w us ll:=⟨h.1,fun i a b=>(h.2 i a b).mono hF⟩
theorem FElts.nil (F:Nat→Prop) (w:World):FElts F w [] []:=⟨rfl,fun i h=>by simp at h⟩
theorem FElts.app {us:List Value} {ll mm:List (List Int)} (h:FElts F w us ll) (h':FElts F w vs mm):FElts F w (us++vs) (ll++mm):=by
 refine ⟨by simp [h.1,h'.1],fun i a b=>?_⟩;have hl:=h.1
 by_cases hi:i<us.length
 ·rw [List.getElem_append_left hi,List.getElem_append_left (by omega)]; exact h.2 i hi (by omega)
 ·have hi1:¬ i<ll.length:=by omega
  rw [List.getElem_append_right (by omega),List.getElem_append_right (by omega)];have:=h'.2 (i - us.length) (by simp at a; omega) (by simp at b; omega);simp only [hl] at this ⊢;exact this
theorem FElts.one (h:FI F w u l):FElts F w [u] [l]:=by
 refine ⟨rfl,fun i a b=>?_⟩
 have:i=0:=by simpa using a
 subst this; exact h
theorem FElts.take {F:Nat→Prop} {w:World} {us:List Value} {ll:List (List Int)} (h:FElts F w us ll) (k:Nat):FElts F w (us.take k) (ll.take k):=by
 refine ⟨by simp [h.1],fun i a b=>?_⟩;rw [List.getElem_take,List.getElem_take];exact h.2 i (by simp at a; omega) (by simp at b; omega)
theorem FElts.drop {F:Nat→Prop} {w:World} {us:List Value} {ll:List (List Int)} (h:FElts F w us ll) (k:Nat):FElts F w (us.drop k) (ll.drop k):=by
 refine ⟨by simp [h.1],fun i a b=>?_⟩;rw [List.getElem_drop,List.getElem_drop];exact h.2 (k+i) (by simp at a; omega) (by simp at b; omega)
theorem FRows.kp {F M:Nat→Prop} {w w':World} {v:Value} {ll:List (List Int)} (h:FRows F w v ll) (hk:Kp M w w') (hM:∀ k,F k→¬ M k):FRows F w' v ll:=by
 obtain ⟨us,h1,h2⟩:=h; exact ⟨us,h1.kp hk hM,h2.kp hk hM⟩
theorem FRows.mono {F F':Nat→Prop} {w:World} {v:Value} {ll:List (List Int)} (h:FRows F w v ll) (hF:∀ k,F k→F' k):FRows F' w v ll:=by
 obtain ⟨us,h1,h2⟩:=h; exact ⟨us,h1.mono hF,h2.mono hF⟩
theorem FRows.rows {ll:List (List Int)} (h:FRows F w v ll):Rows w v ll:=by
 obtain ⟨us,h1,h2⟩:=h; exact ⟨us,h1.vals,h2.1,fun i a b=>(h2.2 i a b).ints⟩
theorem FRows.shape {ll:List (List Int)} (h:FRows F w v ll) :
  ∃ a cap,v=.slice a ll.length cap∧ll.length≤cap∧ll.length≤1000000000 ∧
  (0<ll.length→∃ b o,a=some ⟨b,o,none⟩∧b<w.heap.size∧F b∧∀ i (h:i<ll.length),∃ u,w.cell? ⟨b,o+i,none⟩=some u∧FI F w u ll[i]):=by
 obtain ⟨us,⟨a,cap,h1,h2,h3,h4,h5⟩,hl,h6⟩:=h;rw [hl] at h1 h2 h4;refine ⟨a,cap,h1,h2,h4,fun h0=>?_⟩;obtain ⟨b,o,e1,e2,e3,e4⟩:=h5 (by omega);exact ⟨b,o,e1,e2,e3,fun i hi=>⟨us[i],e4 i (by omega),h6 i (by omega) hi⟩⟩
theorem FElts2.kp {F M:Nat→Prop} {w w':World} {us:List Value} {ll:List (List (List Int))} (h:FElts2 F w us ll) (hk:Kp M w w') (hM:∀ k,F k→¬ M k):FElts2 F w' us ll:=⟨h.1,fun i a b=>(h.2 i a b).kp hk hM⟩
theorem FElts2.mono {F F':Nat→Prop} {w:World} {us:List Value} {ll:List (List (List Int))} (h:FElts2 F w us ll) (hF:∀ k,F k→F' k):FElts2 F' w us ll:=⟨h.1,fun i a b=>(h.2 i a b).mono hF⟩
theorem FElts2.snoc {us:List Value} {ll:List (List (List Int))} {m:List (List Int)} (h:FElts2 F w us ll) (hu:FRows F w u m):FElts2 F w (us++[u]) (ll++[m]):=by
 refine ⟨by simp [h.1],fun i a b=>?_⟩;have hl:=h.1
 by_cases hi:i<us.length
 ·rw [List.getElem_append_left hi,List.getElem_append_left (by omega)]; exact h.2 i hi (by omega)
 ·have hi2:i=us.length:=by simp at a; omega
  subst hi2
  have e1:(us++[u])[us.length]=u:=by rw [List.getElem_append_right (Nat.le_refl _)]; simp
  have e2:(ll++[m])[us.length]'b=m:=by
   have:us.length=ll.length:=hl;rw [List.getElem_append_right (by omega)]; simp
  rw [e1,e2]; exact hu
theorem FI.old (h:Ints w v l):FI (fun k=>k<w.heap.size) w v l:=by
 obtain ⟨a,cap,h1,h2,h3,h4,h5⟩:=h;refine ⟨a,cap,h1,h2,h3,h4,fun h0=>?_⟩;obtain ⟨b,o,e1,e2,e4⟩:=h5 h0;exact ⟨b,o,e1,e2,e2,e4⟩
theorem FRows.old {w:World} {v:Value} {ll:List (List Int)} (h:Rows w v ll):FRows (fun k=>k<w.heap.size) w v ll:=by
 obtain ⟨us,⟨a,cap,h1,h2,h3,h4,h5⟩,h6,h7⟩:=h;refine ⟨us,⟨a,cap,h1,h2,h3,h4,fun h0=>?_⟩,h6,fun i p q=>FI.old (h7 i p q)⟩;obtain ⟨b,o,e1,e2,e4⟩:=h5 h0;exact ⟨b,o,e1,e2,e2,e4⟩
theorem own_elts {e:TypeId} {us:List Value} {L:List (List Int)} (hr:w.ownsRow base e 1 v n us) (he:FElts F w us L) :
  n=L.length∧∃ a cap,v=.slice a L.length cap∧L.length≤cap∧cap≤maxLen∧(0<L.length→∃ g,a=some ⟨g,0,none⟩∧g<w.heap.size∧∀ i (h:i<L.length),∃ u,w.cell? ⟨g,i,none⟩=some u∧FI F w u L[i]):=by
 have hh:=hr;obtain ⟨h1,h2⟩:=hr
 have hn:n=L.length:=by have:=he.1; omega
 refine ⟨hn,?_⟩;subst hn
 rcases h2 with ⟨rfl,h0⟩ | ⟨g,cap,cur,rfl,hg,hc,h3,h4,h5,h6⟩
 ·exact ⟨none,0,by rw [h0],by omega,by omega,fun h=>by omega⟩
 ·refine ⟨_,cap,rfl,h3,h4,fun _=>⟨g,rfl,(Array.getElem?_eq_some_iff.1 hc).1,fun i hi=>?_⟩⟩
  have hi2:i<us.length:=by have:=he.1; omega
  refine ⟨us[i],?_,he.2 i hi2 hi⟩;have:=hh.cells (g:=g) rfl i us[i] (List.getElem?_eq_getElem hi2);unfold Addr.add at this
  split at this
  ·rename_i h0; subst h0; exact this
  ·simpa using this
theorem FElts.oneCell {us:List Value} {ll:List (List Int)} (h:FElts F w us ll):∀ u∈us,u.oneCell'=true:=fun u hu=>by
 obtain ⟨i,hi,rfl⟩:=List.getElem_of_mem hu;obtain ⟨n,a,c,_,e,_⟩:=(h.2 i hi (by rw [← h.1]; exact hi)).len;rw [e]; rfl
theorem splice_set {cur us:List Value} {lo:Nat} {x:Value} (h:cur.take (n+1)=us++[z]) (hu:us.length=n) (hlo:lo≤n) (hc:n+1≤cur.length) :
  ((splice cur (lo+1) (us.drop lo)).set lo x).take (n+1)=us.take lo++(x :: us.drop lo):=by
 have h1:cur.take lo=us.take lo:=by
  have:=congrArg (List.take lo) h;rw [List.take_take,Nat.min_eq_left (by omega),List.take_append_of_le_length (by omega)] at this;exact this
 have h2:cur.take (lo+1)=us.take lo++[cur[lo]'(by omega)]:=by rw [List.take_succ_eq_append_getElem (by omega),h1]
 unfold splice;rw [h2,List.append_assoc,List.set_append_right _ _ (by simp; omega)];rw [show lo - (us.take lo).length=0 from by simp; omega];simp only [List.singleton_append,List.set_cons_zero];rw [List.take_append,List.take_of_length_le (by simp; omega)]
 congr 1
 have e1:n+1 - (us.take lo).length=(n - lo)+1:=by simp; omega
 rw [e1,List.take_succ_cons,List.take_append,List.take_of_length_le (by simp; omega)];rw [show n - lo - (us.drop lo).length=0 from by simp; omega];simp
end Go.Proofs.Rg

namespace Go.Proofs.Rg
open Go Go.RowKit
variable {P:Program} {md:Region.Mode} {ops:Array Oper} {Q:Exit→Act→World→Prop} {S:Array Bool→World→Prop}
def Any (P:Program) (md:Region.Mode) (ops:Array Oper) (Q:Exit→Act→World→Prop) (S:Array Bool→World→Prop):Nat→Array Bool→Act→World→Prop
 | 0,l,a,w=>Region.ready md ops l=[]∧Q .normal a w
 | n+1,l,a,w=>(Region.ready md ops l=[]→Q .normal a w) ∧
   ∀ i,i∈Region.ready md ops l→wpOp P ops Q i (fun a' w'=>S (l.setIfInBounds i true) w'∧Any P md ops Q S n (l.setIfInBounds i true) a' w') a w
theorem Any.plain:∀ (n:Nat) (l:Array Bool) (a:Act) (w:World),Any P md ops Q S n l a w→wpAny P md ops Q n l a w
 | 0,_,_,_,h=>h
 | n+1,_,_,_,h=>⟨h.1,fun i hi=>wpOp_mono (fun a' w' q=>Any.plain n _ a' w' q.2) (h.2 i hi)⟩
theorem Any.begin {id:Nat} {a:Act} (hm:P.follows .mixedOrders=true) (h:Any P .any ops Q S ops.size (Array.replicate ops.size false) a w.drew):(Code.region id ops true).wp P Q a w :=
 wp_region_any hm (Any.plain _ _ _ _ h)
theorem Any.all {rs:List Nat} {l:Array Bool} {a:Act} (hr:Region.ready md ops l=rs) (hne:rs≠[])
  (h:∀ i∈rs,wpOp P ops Q i (fun a' w'=>S (l.setIfInBounds i true) w'∧Any P md ops Q S n (l.setIfInBounds i true) a' w') a w):Any P md ops Q S (n+1) l a w :=
 ⟨fun h0=>absurd (hr▸h0) hne,fun i hi=>h i (hr▸hi)⟩
theorem Any.one {i:Nat} {l:Array Bool} {a:Act} (hr:Region.ready md ops l=[i])
  (h:wpOp P ops Q i (fun a' w'=>S (l.setIfInBounds i true) w'∧Any P md ops Q S n (l.setIfInBounds i true) a' w') a w):Any P md ops Q S (n+1) l a w :=
 Any.all hr (by simp) (fun j hj=>by
  obtain rfl:j=i:=by simpa using hj
  exact h)
theorem Any.two {i:Nat} {l:Array Bool} {a:Act} (hr:Region.ready md ops l=[i,j])
  (h:wpOp P ops Q i (fun a' w'=>S (l.setIfInBounds i true) w'∧Any P md ops Q S n (l.setIfInBounds i true) a' w') a w)
  (h':wpOp P ops Q j (fun a' w'=>S (l.setIfInBounds j true) w'∧Any P md ops Q S n (l.setIfInBounds j true) a' w') a w):Any P md ops Q S (n+1) l a w :=
 Any.all hr (by simp) (fun k hk=>by
  rw [List.mem_cons,List.mem_singleton] at hk
  rcases hk with rfl | rfl
  ·exact h
  ·exact h')
theorem Any.done {l:Array Bool} {a:Act} (hr:Region.ready md ops l=[]) (h:Q .normal a w):∀ n,Any P md ops Q S n l a w
 | 0=>⟨hr,h⟩
 | n+1=>⟨fun _=>h,by rw [hr]; exact fun i hi=>by simp at hi⟩
def Till (t:Nat) (T:World→Prop) (l:Array Bool) (w:World):Prop:=l.getD t false=true∨T w
theorem Any.first {i t:Nat} {oi ot:Oper} {T:World→Prop} (hi:ops[i]?=some oi) (hsel:∀ (j:Nat) (o:Oper) cs b,ops[j]?=some o→o.op≠.select cs b)
  (hQ:∀ c a w,Q (.panic c) (a.put oi.dst v) w→Q (.panic c) a w) (hti:t≠i) (ht:ops[t]?=some ot) (hw:∃ e∈ot.after,Region.binds md e=true∧e.on=i) :
  ∀ (n:Nat) (l:Array Bool) (a:Act) (w:World),l.getD t false=false →
   (∀ j oj,ops[j]?=some oj→j≠i→l.getD j true=false→(∀ e∈oj.after,Region.binds md e=true→e.on≠i)→oi.apart ops oj=true) →
   i∈Region.ready md ops l→YieldsIf P ops T oi v a→T w →
   Any P md ops Q (Till t T) n (l.setIfInBounds i true) (a.put oi.dst v) w→Any P md ops Q (Till t T) (n+1) l a w:=by
 intro n
 induction n with
 | zero =>
  intro l a w _ _ hr hy hT H;refine ⟨fun h0=>absurd (h0▸hr) (by simp),fun j hj=>?_⟩
  by_cases hji:j=i
  ·subst hji; exact hy.wpOp hi hT ⟨.inr hT,H⟩
  ·have hmem:=ready_mono hj hji
   rw [H.1] at hmem;simp at hmem
 | succ n ih =>
  intro l a w hl hfree hr hy hT H;refine ⟨fun h0=>absurd (h0▸hr) (by simp),fun j hj=>?_⟩
  by_cases hji:j=i
  ·subst hji; exact hy.wpOp hi hT ⟨.inr hT,H⟩
  obtain ⟨hun,oj,hoj,hafter⟩:=mem_ready.1 hj;have hi0:=(mem_ready.1 hr).1
  have hno:∀ e∈oj.after,Region.binds md e=true→e.on≠i:=by
   intro e he hb heq;have h1:=hafter e he hb;rw [heq] at h1
   by_cases hlt:i<l.size
   ·simp [hlt] at h1 hi0; rw [hi0] at h1; cases h1
   ·simp [Array.getElem?_eq_none (Nat.le_of_not_lt hlt)] at h1
  have hjt:j≠t:=by
   rintro rfl;obtain ⟨e,he,hb,heq⟩:=hw;rw [ht] at hoj; cases hoj;exact hno e he hb heq
  have hstep:=wpOp_putIf hoj (hfree j oj hoj hji hun hno) (fun cs b=>hsel i oi cs b hi) (fun cs b=>hsel j oj cs b hoj) hQ hy (H.2 j (ready_mono hj hji));refine wpOp_mono (fun a' w' q=>?_) hstep;obtain ⟨hy',hS',hA'⟩:=q;rw [Array.setIfInBounds_comm _ _ (Ne.symm hji)] at hS' hA'
  have hi1:(l.setIfInBounds j true).getD i true=false:=by rw [getD_set_ne true hji]; exact hi0
  have hl1:(l.setIfInBounds j true).getD t false=false:=by rw [getD_set_ne false hjt]; exact hl
  have hT':T w':=by
   rcases hS' with h | h
   ·rw [getD_set_ne false (Ne.symm hti),hl1] at h; cases h
   ·exact h
  refine ⟨.inr hT',ih _ _ _ hl1 ?_ (ready_mono hr (Ne.symm hji)) hy' hT' hA'⟩;intro k ok hk hki hun' hno';refine hfree k ok hk hki ?_ hno'
  by_cases hjk:j=k
  ·rw [← hjk]; exact hun
  ·rwa [getD_set_ne true hjk] at hun'
theorem Any.take {i t:Nat} {oi:Oper} {T:World→Prop} {l:Array Bool} {a:Act} (d:Option Tmp) (hi:ops[i]?=some oi) (hd:oi.dst=d)
  (hs:Region.noSelect ops=true) (hf:Region.free md ops l i=true) (hr:(Region.ready md ops l).contains i=true)
  (hQ:∀ c a w,Q (.panic c) (a.put d v) w→Q (.panic c) a w) (hti:(t == i)=false) (hw:Region.waitsFor md ops t i=true) (hl:l.getD t false=false)
  (hy:YieldsIf P ops T oi v a) (hT:T w)
  (h:Any P md ops Q (Till t T) n (l.setIfInBounds i true) (a.put d v) w):Any P md ops Q (Till t T) (n+1) l a w:=by
 subst hd;obtain ⟨ot,ht,hw⟩:=Region.waitsFor_spec hw;exact Any.first hi (Region.noSelect_spec hs) hQ (by simpa using hti) ht hw n l a w hl (Region.free_spec hi hf) (by simpa using hr) hy hT h
end Go.Proofs.Rg

namespace Go.Proofs.Rg
open Go Go.RowKit
variable {P:Program} {md:Region.Mode} {ops:Array Oper} {Q:Exit→Act→World→Prop}
theorem Till.set {t i:Nat} {T:World→Prop} {l:Array Bool} (hti:t≠i):Till t T (l.setIfInBounds i true) w↔Till t T l w:=by
 unfold Till;rw [getD_set_ne false (Ne.symm hti)]
theorem Any.step {i t:Nat} {oi:Oper} {T:World→Prop} {l:Array Bool} {a:Act} (d:Option Tmp) (hi:ops[i]?=some oi) (hd:oi.dst=d) (hw:Region.wanted oi (yielded ops a.tmps)=true)
  (hr:(execOp a.eval oi).run P w=.ok (.value v) w') (hT:Till t T (l.setIfInBounds i true) w') (h:Any P md ops Q (Till t T) n (l.setIfInBounds i true) (a.put d v) w') :
  wpOp P ops Q i (fun a' w'=>Till t T (l.setIfInBounds i true) w'∧Any P md ops Q (Till t T) n (l.setIfInBounds i true) a' w') a w:=wpOp_value d hi hd hw hr ⟨hT,h⟩
theorem Any.skip {i t:Nat} {oi:Oper} {T:World→Prop} {l:Array Bool} {a:Act} (d:Option Tmp) (hi:ops[i]?=some oi) (hd:oi.dst=d) (hw:Region.wanted oi (yielded ops a.tmps)=true)
  (hr:(execOp a.eval oi).run P w=.ok .skip w') (hT:Till t T (l.setIfInBounds i true) w') (h:Any P md ops Q (Till t T) n (l.setIfInBounds i true) (a.put d undef) w') :
  wpOp P ops Q i (fun a' w'=>Till t T (l.setIfInBounds i true) w'∧Any P md ops Q (Till t T) n (l.setIfInBounds i true) a' w') a w:=wpOp_skip d hi hd hw hr ⟨hT,h⟩
theorem yields_cell {o:Oper} {a:Act} {T:World→Prop} (t:TypeId) (x:Operand) (hg:Region.wanted o (yielded ops a.tmps)=true) (ho:o.op=.load t x) (ad:Addr) (hx:a.eval x=.pointer (some ad)) (hr:∀ w,T w→(loadVar t ad).run P w=.ok v w):YieldsIf P ops T o v a :=
 .inl ⟨hg,fun w hw=>exec_load t x ho ad hx (hr w hw)⟩
theorem exec_append {o:Oper} {a:Act} (s x:Operand) (t:TypeId) (ho:o.op=.call { callee:=.builtin .append,args:=#[s,x],argTypes:=#[t,t] }) {vs vx:Value} (hs:a.eval s=vs) (hx:a.eval x=vx)
  (hr:(Builtin.append_ #[t,t] o.type #[vs,vx]).run P w=.ok v w'):(execOp a.eval o).run P w=.ok (.value v) w':=by
 unfold execOp;simp only [ho,resolve,invoke,builtin,Sem.run_bind,Sem.run_pure,Result.andThen_ok,List.map_toArray,List.map_cons,List.map_nil,hs,hx,hr]
theorem exec_store {o:Oper} {a:Act} (t:TypeId) (x y:Operand) (ho:o.op=.store t x y) (ad:Addr) (hx:a.eval x=.pointer (some ad)) (v:Value) (hv:a.eval y=v) (hr:(storeVar t ad v).run P w=.ok () w') :
  (execOp a.eval o).run P w=.ok .skip w':=by
 unfold execOp;simp only [ho,hx,hv,Instr.storeAt,Instr.sureAddr,Sem.run_bind,Sem.run_pure,Result.andThen_ok,hr]
end Go.Proofs.Rg

namespace Go.Proofs.Rg
open Go Go.RowKit
theorem append_none {P:Program} (base:Nat) (t ty e:TypeId) (i:TypeInfo) (size c:Nat) (ht:P.underlying t=some (.slice e)) (hi:P.info? e=some i)
  (v:Value) (n:Nat) (xs:List Value) (hown:w.ownsRow base e size v n xs):(Builtin.append_ #[t,t] ty #[v,.slice none 0 c]).run P w=.ok v w:=by
 rcases hown.2 with ⟨rfl,rfl⟩ | ⟨g,cap,cur,rfl,_,_,hnc,_⟩
 ·simp [Builtin.append_,run_underlying ht,sizeOf,typeInfo,hi,Builtin.lenOf,Builtin.firstCells]
 ·simp [Builtin.append_,run_underlying ht,sizeOf,typeInfo,hi,Builtin.lenOf,Builtin.firstCells,hnc,storeCells]

theorem run_loadSl {P:Program} (t e:TypeId) (ht:P.underlying t=some (.slice e)) {ad:Addr} (h:w.cell? ad=some v):(loadVar t ad).run P w=.ok v w:=by
 simp [loadVar,isAgg,run_underlying ht,load];simp [Sem.run,h]
theorem run_storeSl {P:Program} (t:TypeId) {y:Nat} (hs:(P.info? t).map (fun i=>(i.zero,i.size,i.bytes))=some (some z,1,y)) {b o c:Nat} {a:Option Addr} (h:w.cell? ⟨b,o,none⟩=some u) (hf:w.frozen? ⟨b,o,none⟩=false) :
  (storeVar t ⟨b,o,none⟩ (.slice a n c)).run P w=.ok () (w.setCell ⟨b,o,none⟩ (.slice a n c)):=by
 obtain ⟨i0,hi,hz0,hz1,hz2⟩:=info_parts hs
 have h0:(⟨b,o,none⟩:Addr).add 0=⟨b,o,none⟩:=by simp [Addr.add]
 simp [storeVar,sizeOf,typeInfo,hi,hz1,Value.cells,storeCells,store,h0];simp [Sem.run,h,hf]
theorem run_indexSl {P:Program} {t e:TypeId} (T:SlT P t e z bytes) (w:World) (b o len cap i:Nat) (hi:i<len):(Instr.indexAt t (.slice (some ⟨b,o,none⟩) len cap) (.int .i64 (i:Int))).run P w=.ok (.pointer (some ⟨b,o+i,none⟩)) w:=by
 obtain ⟨i0,hi0,hz0,hz1,hz2⟩:=info_parts T.info;have h1:(0:Int)≤(i:Int)∧(i:Int)<(len:Int):=⟨by omega,by omega⟩;simp [Instr.indexAt,asIntOf,run_underlying T.ty,sizeOf,typeInfo,hi0,hz1,h1,Addr.add];rw [if_pos hi]
 by_cases h0:i=0
 ·subst h0; simp
 ·rw [if_neg h0]
theorem yields_index {P:Program} {ops:Array Oper} {S:World→Prop} {o:Oper} {a:Act} {t e:TypeId} (T:SlT P t e z bytes) (x y:Operand) (hg:Region.wanted o (yielded ops a.tmps)=true) (ho:o.op=.indexAddr t x y) (b of len cap i:Nat) (hx:a.eval x=.slice (some ⟨b,of,none⟩) len cap) (hy:a.eval y=.int .i64 (i:Int)) (hi:i<len) :
  YieldsIf P ops S o (.pointer (some ⟨b,of+i,none⟩)) a:=by
 refine .inl ⟨hg,fun w _=>?_⟩;have:=run_indexSl T w b of len cap i hi;unfold execOp;simp only [ho,hx,hy,Sem.run_bind,Sem.run_pure,Result.andThen_ok,this]
theorem exec_build0 {P:Program} {o:Oper} {a:Act} {t e:TypeId} (T:SlT P t e z bytes) (ho:o.op=.buildSlice t 0 #[]) (X:World):(execOp a.eval o).run P X=.ok (.value (.slice (some ⟨X.heap.size,0,none⟩) 0 0)) (X.alloc (.cells #[] e)):=by
 obtain ⟨i0,hi,hz0,hz1,hz2⟩:=info_parts T.info;have h0:Array.range (0*1)=#[]:=rfl;unfold execOp;simp [ho,Instr.buildSlice,run_underlying T.ty,sizeOf,typeInfo,hi,newRow,h0,Instr.fill,Result.andThen]
theorem appL_run {P:Program} {t e:TypeId} (T:SlT P t e z bytes) (ty:TypeId) {xs us:List Value} (hown:X.ownsRow B e 1 v n xs) (hX:B≤X.heap.size)
  (hus:Vals X xv us) (h1:∀ u∈us,u.oneCell'=true) (hn:n+us.length<1000000000) :
  ∃ v' X',(Builtin.append_ #[t,t] ty #[v,xv]).run P X=.ok v' X'∧X'.ownsRow B e 1 v' (n+us.length) (xs++us)∧X.grownBy X' v.ownBlock:=by
 obtain ⟨i0,hi,hz0,hz1,hz2⟩:=info_parts T.info;obtain ⟨ad,cap,rfl,q2,q3,q4,q5⟩:=hus
 cases ad with
 | none =>
  have h0:us=[]:=by
   cases us with
   | nil=>rfl
   | cons u r=>obtain ⟨b,o,e1,_⟩:=q5 (by simp); cases e1
  subst h0;exact ⟨v,X,append_none (P:=P) (w:=X) B t ty e i0 1 cap T.ty hi v n xs hown,by simpa using hown,⟨rfl,rfl,rfl,Nat.le_refl _,fun _ _ _=>rfl⟩⟩
 | some ad =>
  obtain ⟨v',w',hr,h2,h3,h4,h5⟩:=run_append_own_at (P:=P) X B t ty e i0 z 1 bytes T.ty hi hz0 hz1 hz2 T.zc (by decide) v n xs hown ad us.length cap us (by omega) (fun j u hu=>by
   have hj:=(List.getElem?_eq_some_iff.1 hu).1;obtain ⟨b,o,e1,e2,e3⟩:=q5 (by omega);simp at e1; subst e1
   rw [Addr.add_mid,e3 j hj,← hu,List.getElem?_eq_getElem hj]) h1 (by unfold maxLen; omega) (by have:(n+us.length)*bytes≤1000000000*64:=Nat.mul_le_mul (by omega) T.small; omega) hX
  exact ⟨v',w',hr,h2,h3⟩
theorem Any.call {P:Program} {md:Region.Mode} {ops:Array Oper} {Q:Exit→Act→World→Prop} {i t:Nat} {oi:Oper} {T:World→Prop} {l:Array Bool} {a:Act} (d:Option Tmp) (hi:ops[i]?=some oi) (hd:oi.dst=d) (hw:Region.wanted oi (yielded ops a.tmps)=true) (f:FuncId) (args:Array Value)
  (hr:(execOp a.eval oi).run P w=.ok (.enter f args) w)
  (hc:Calls P f args w fun e w'=>∃ v,e=.returned v∧Till t T (l.setIfInBounds i true) w'∧Any P md ops Q (Till t T) n (l.setIfInBounds i true) (a.put d v) w') :
  wpOp P ops Q i (fun a' w'=>Till t T (l.setIfInBounds i true) w'∧Any P md ops Q (Till t T) n (l.setIfInBounds i true) a' w') a w:=by
 subst hd;unfold wpOp;simp only [hi,hw,if_true]
 left
 unfold Oper.wp;rw [hr,Oper.upon_enter];refine hc.mono fun e w' ⟨v,h1,h2,h3⟩=>?_;subst h1;exact ⟨h2,h3⟩
end Go.Proofs.Rg

namespace Go.Proofs.Rg
open Go Go.RowKit
variable {P:Program} {md:Region.Mode} {ops:Array Oper} {Q:Exit→Act→World→Prop} {S:Array Bool→World→Prop}
theorem Any.firstG {i t:Nat} {oi ot:Oper} {T:World→Prop} (hi:ops[i]?=some oi) (hsel:∀ (j:Nat) (o:Oper) cs b,ops[j]?=some o→o.op≠.select cs b)
  (hQ:∀ c a w,Q (.panic c) (a.put oi.dst v) w→Q (.panic c) a w) (hti:t≠i) (ht:ops[t]?=some ot) (hw:∃ e∈ot.after,Region.binds md e=true∧e.on=i)
  (hS:∀ l w,S (l.setIfInBounds i true) w↔S l w) (hST:∀ l w,l.getD t false=false→S l w→T w) :
  ∀ (n:Nat) (l:Array Bool) (a:Act) (w:World),l.getD t false=false →
   (∀ j oj,ops[j]?=some oj→j≠i→l.getD j true=false→(∀ e∈oj.after,Region.binds md e=true→e.on≠i)→oi.apart ops oj=true) →
   i∈Region.ready md ops l→YieldsIf P ops T oi v a→S l w →
   Any P md ops Q S n (l.setIfInBounds i true) (a.put oi.dst v) w→Any P md ops Q S (n+1) l a w:=by
 intro n
 induction n with
 | zero =>
  intro l a w hl _ hr hy hT H;refine ⟨fun h0=>absurd (h0▸hr) (by simp),fun j hj=>?_⟩
  by_cases hji:j=i
  ·subst hji; exact hy.wpOp hi (hST _ _ hl hT) ⟨(hS _ _).2 hT,H⟩
  ·have hmem:=ready_mono hj hji
   rw [H.1] at hmem;simp at hmem
 | succ n ih =>
  intro l a w hl hfree hr hy hT H;refine ⟨fun h0=>absurd (h0▸hr) (by simp),fun j hj=>?_⟩
  by_cases hji:j=i
  ·subst hji; exact hy.wpOp hi (hST _ _ hl hT) ⟨(hS _ _).2 hT,H⟩
  obtain ⟨hun,oj,hoj,hafter⟩:=mem_ready.1 hj;have hi0:=(mem_ready.1 hr).1
  have hno:∀ e∈oj.after,Region.binds md e=true→e.on≠i:=by
   intro e he hb heq;have h1:=hafter e he hb;rw [heq] at h1
   by_cases hlt:i<l.size
   ·simp [hlt] at h1 hi0; rw [hi0] at h1; cases h1
   ·simp [Array.getElem?_eq_none (Nat.le_of_not_lt hlt)] at h1
  have hjt:j≠t:=by
   rintro rfl;obtain ⟨e,he,hb,heq⟩:=hw;rw [ht] at hoj; cases hoj;exact hno e he hb heq
  have hstep:=wpOp_putIf hoj (hfree j oj hoj hji hun hno) (fun cs b=>hsel i oi cs b hi) (fun cs b=>hsel j oj cs b hoj) hQ hy (H.2 j (ready_mono hj hji));refine wpOp_mono (fun a' w' q=>?_) hstep;obtain ⟨hy',hS',hA'⟩:=q;rw [Array.setIfInBounds_comm _ _ (Ne.symm hji)] at hS' hA'
  have hl1:(l.setIfInBounds j true).getD t false=false:=by rw [getD_set_ne false hjt]; exact hl
  have hS2:=(hS _ _).1 hS';refine ⟨hS2,ih _ _ _ hl1 ?_ (ready_mono hr (Ne.symm hji)) hy' hS2 hA'⟩;intro k ok hk hki hun' hno';refine hfree k ok hk hki ?_ hno'
  by_cases hjk:j=k
  ·rw [← hjk]; exact hun
  ·rwa [getD_set_ne true hjk] at hun'
theorem Any.firstH {i:Nat} {oi:Oper} {T:World→Prop} (hi:ops[i]?=some oi) (hsel:∀ (j:Nat) (o:Oper) cs b,ops[j]?=some o→o.op≠.select cs b)
  (hQ:∀ c a w,Q (.panic c) (a.put oi.dst v) w→Q (.panic c) a w)
  (hS:∀ l w,S (l.setIfInBounds i true) w↔S l w) (hST:∀ l w,S l w→T w) :
  ∀ (n:Nat) (l:Array Bool) (a:Act) (w:World),
   (∀ j oj,ops[j]?=some oj→j≠i→l.getD j true=false→(∀ e∈oj.after,Region.binds md e=true→e.on≠i)→oi.apart ops oj=true) →
   i∈Region.ready md ops l→YieldsIf P ops T oi v a→S l w →
   Any P md ops Q S n (l.setIfInBounds i true) (a.put oi.dst v) w→Any P md ops Q S (n+1) l a w:=by
 intro n
 induction n with
 | zero =>
  intro l a w _ hr hy hT H;refine ⟨fun h0=>absurd (h0▸hr) (by simp),fun j hj=>?_⟩
  by_cases hji:j=i
  ·subst hji; exact hy.wpOp hi (hST _ _ hT) ⟨(hS _ _).2 hT,H⟩
  ·have hmem:=ready_mono hj hji
   rw [H.1] at hmem;simp at hmem
 | succ n ih =>
  intro l a w hfree hr hy hT H;refine ⟨fun h0=>absurd (h0▸hr) (by simp),fun j hj=>?_⟩
  by_cases hji:j=i
  ·subst hji; exact hy.wpOp hi (hST _ _ hT) ⟨(hS _ _).2 hT,H⟩
  obtain ⟨hun,oj,hoj,hafter⟩:=mem_ready.1 hj;have hi0:=(mem_ready.1 hr).1
  have hno:∀ e∈oj.after,Region.binds md e=true→e.on≠i:=by
   intro e he hb heq;have h1:=hafter e he hb;rw [heq] at h1
   by_cases hlt:i<l.size
   ·simp [hlt] at h1 hi0; rw [hi0] at h1; cases h1
   ·simp [Array.getElem?_eq_none (Nat.le_of_not_lt hlt)] at h1
  have hstep:=wpOp_putIf hoj (hfree j oj hoj hji hun hno) (fun cs b=>hsel i oi cs b hi) (fun cs b=>hsel j oj cs b hoj) hQ hy (H.2 j (ready_mono hj hji));refine wpOp_mono (fun a' w' q=>?_) hstep;obtain ⟨hy',hS',hA'⟩:=q;rw [Array.setIfInBounds_comm _ _ (Ne.symm hji)] at hS' hA';have hS2:=(hS _ _).1 hS';refine ⟨hS2,ih _ _ _ ?_ (ready_mono hr (Ne.symm hji)) hy' hS2 hA'⟩;intro k ok hk hki hun' hno';refine hfree k ok hk hki ?_ hno'
  by_cases hjk:j=k
  ·rw [← hjk]; exact hun
  ·rwa [getD_set_ne true hjk] at hun'
def Both (t:Nat) (T T2:World→Prop) (l:Array Bool) (w:World):Prop:=Till t T l w∧T2 w
theorem Both.set {t i:Nat} {T T2:World→Prop} (hti:t≠i) (l:Array Bool) (w:World):Both t T T2 (l.setIfInBounds i true) w↔Both t T T2 l w:=by
 unfold Both; rw [Till.set hti]
theorem Any.takeT {i t:Nat} {oi:Oper} {T T2:World→Prop} {l:Array Bool} {a:Act} (d:Option Tmp) (hi:ops[i]?=some oi) (hd:oi.dst=d)
  (hs:Region.noSelect ops=true) (hf:Region.free md ops l i=true) (hr:(Region.ready md ops l).contains i=true)
  (hQ:∀ c a w,Q (.panic c) (a.put d v) w→Q (.panic c) a w) (hti:(t == i)=false) (hw:Region.waitsFor md ops t i=true) (hl:l.getD t false=false)
  (hy:YieldsIf P ops T oi v a) (hS:Both t T T2 l w)
  (h:Any P md ops Q (Both t T T2) n (l.setIfInBounds i true) (a.put d v) w):Any P md ops Q (Both t T T2) (n+1) l a w:=by
 subst hd;obtain ⟨ot,ht,hw⟩:=Region.waitsFor_spec hw
 have hti':t≠i:=by simpa using hti
 refine Any.firstG hi (Region.noSelect_spec hs) hQ hti' ht hw (Both.set hti') (fun l w hl hh=>?_) n l a w hl (Region.free_spec hi hf) (by simpa using hr) hy hS h
 rcases hh.1 with h1 | h1
 ·rw [hl] at h1; cases h1
 ·exact h1
theorem Any.takeG {i t:Nat} {oi:Oper} {T T2:World→Prop} {l:Array Bool} {a:Act} (d:Option Tmp) (hi:ops[i]?=some oi) (hd:oi.dst=d)
  (hs:Region.noSelect ops=true) (hf:Region.free md ops l i=true) (hr:(Region.ready md ops l).contains i=true)
  (hQ:∀ c a w,Q (.panic c) (a.put d v) w→Q (.panic c) a w) (hti:(t == i)=false)
  (hy:YieldsIf P ops T2 oi v a) (hS:Both t T T2 l w)
  (h:Any P md ops Q (Both t T T2) n (l.setIfInBounds i true) (a.put d v) w):Any P md ops Q (Both t T T2) (n+1) l a w:=by
 subst hd;exact Any.firstH hi (Region.noSelect_spec hs) hQ (Both.set (by simpa using hti)) (fun l w hh=>hh.2) n l a w (Region.free_spec hi hf) (by simpa using hr) hy hS h
theorem Any.run {i:Nat} {oi:Oper} {l:Array Bool} {a:Act} (d:Option Tmp) (hi:ops[i]?=some oi) (hd:oi.dst=d) (hw:Region.wanted oi (yielded ops a.tmps)=true)
  (hr:(execOp a.eval oi).run P w=.ok (.value v) w') (hS:S (l.setIfInBounds i true) w') (h:Any P md ops Q S n (l.setIfInBounds i true) (a.put d v) w') :
  wpOp P ops Q i (fun a' w'=>S (l.setIfInBounds i true) w'∧Any P md ops Q S n (l.setIfInBounds i true) a' w') a w:=wpOp_value d hi hd hw hr ⟨hS,h⟩
theorem Any.runSkip {i:Nat} {oi:Oper} {l:Array Bool} {a:Act} (d:Option Tmp) (hi:ops[i]?=some oi) (hd:oi.dst=d) (hw:Region.wanted oi (yielded ops a.tmps)=true)
  (hr:(execOp a.eval oi).run P w=.ok .skip w') (hS:S (l.setIfInBounds i true) w') (h:Any P md ops Q S n (l.setIfInBounds i true) (a.put d undef) w') :
  wpOp P ops Q i (fun a' w'=>S (l.setIfInBounds i true) w'∧Any P md ops Q S n (l.setIfInBounds i true) a' w') a w:=wpOp_skip d hi hd hw hr ⟨hS,h⟩
theorem Any.ask {i:Nat} {oi:Oper} {l:Array Bool} {a:Act} (d:Option Tmp) (hi:ops[i]?=some oi) (hd:oi.dst=d) (hw:Region.wanted oi (yielded ops a.tmps)=true) (f:FuncId) (args:Array Value)
  (hr:(execOp a.eval oi).run P w=.ok (.enter f args) w)
  (hc:Calls P f args w fun e w'=>∃ v,e=.returned v∧S (l.setIfInBounds i true) w'∧Any P md ops Q S n (l.setIfInBounds i true) (a.put d v) w') :
  wpOp P ops Q i (fun a' w'=>S (l.setIfInBounds i true) w'∧Any P md ops Q S n (l.setIfInBounds i true) a' w') a w:=by
 subst hd;unfold wpOp;simp only [hi,hw,if_true]
 left
 unfold Oper.wp;rw [hr,Oper.upon_enter];refine hc.mono fun e w' ⟨v,h1,h2,h3⟩=>?_;subst h1;exact ⟨h2,h3⟩
theorem full_run {P:Program} {t e:TypeId} (T:SlT P t e z bytes) (ty:TypeId) (b o n:Nat) (us:List Value) (hl:us.length=n) (hc:∀ i (h:i<us.length),X.cell? ⟨b,o+i,none⟩=some us[i]) (p c:Nat)
  (hu:X.cell? ⟨p,0,none⟩=some u) (hn:n<1000000) :
  ∃ v' X',(Builtin.append_ #[t,t] ty #[.slice (some ⟨b,o,none⟩) n n,.slice (some ⟨p,0,none⟩) 1 c]).run P X=.ok v' X'∧X'.ownsRow X.heap.size e 1 v' (n+1) (us++[u])∧Below X.heap.size X X'∧∃ a c,v'=.slice a (n+1) c:=by
 obtain ⟨i0,hi,hz0,hz1,hz2⟩:=info_parts T.info
 obtain ⟨v',w',hr,h2,h3⟩:=run_append_arg_grows (P:=P) X t ty e i0 z 1 bytes T.ty hi hz0 hz1 hz2 T.zc (by decide) ⟨b,o,none⟩ n n us (by omega) (fun j x hj=>by
  have hj2:=(List.getElem?_eq_some_iff.1 hj).1
  rw [Addr.add_mid,hc j hj2,← hj,List.getElem?_eq_getElem hj2]) ⟨p,0,none⟩ 1 c [u] rfl (fun j x hj=>by
  obtain rfl:j=0:=by have:=(List.getElem?_eq_some_iff.1 hj).1; simpa using this
  simp at hj; subst hj
  rw [show (⟨p,0,none⟩:Addr).add 0=⟨p,0,none⟩ from rfl]; exact hu) (by omega) (by unfold maxLen; omega) (by have:(n+1)*bytes≤1000000*64:=Nat.mul_le_mul (by omega) T.small; omega)
 exact ⟨v',w',hr,h2,(Below.refl _ _).grown h3 (Nat.le_refl _) (fun k hk=>by cases hk),row_shape h2⟩
end Go.Proofs.Rg

namespace Go.Proofs.Rg
open Go.RowKit
theorem tg {P : Program} {md : Region.Mode} {ops : Array Oper} {Q : Exit → Act → World → Prop} {T T2 : World → Prop} {oi : Oper} {l : Array Bool} {a : Act} (i t : Nat) (v : Value) (d : Nat) (hi : ops[i]? = some oi) (hd : oi.dst = some d)
    (hy : YieldsIf P ops T2 oi v a) (hS : Both t T T2 l w) (h : Any P md ops Q (Both t T T2) n (l.setIfInBounds i true) (a.put (some d) v) w)
    (hs : Region.noSelect ops = true := by kernel_rfl) (hf : Region.free md ops l i = true := by kernel_rfl) (hr : (Region.ready md ops l).contains i = true := by kernel_rfl)
    (hQ : ∀ c a w, Q (.panic c) (a.put (some d) v) w → Q (.panic c) a w := by exact fun _ _ _ h => h) (hti : (t == i) = false := by exact rfl) : Any P md ops Q (Both t T T2) (n + 1) l a w :=
  Any.takeG (some d) hi hd hs hf hr hQ hti hy hS h
theorem tm {P : Program} {md : Region.Mode} {ops : Array Oper} {Q : Exit → Act → World → Prop} {T T2 : World → Prop} {oi : Oper} {l : Array Bool} {a : Act} (i t : Nat) (v : Value) (d : Nat) (hS : Both t T T2 l w) (h : Any P md ops Q (Both t T T2) n (l.setIfInBounds i true) (a.put (some d) v) w)
    (hi : ops[i]? = some oi := by exact rfl) (hd : oi.dst = some d := by exact rfl) (hy : YieldsIf P ops T2 oi v a := by exact .inl ⟨rfl, fun w _ => Go.Proofs.Rg.exec_move (v := _) _ rfl rfl⟩)
    (hs : Region.noSelect ops = true := by kernel_rfl) (hf : Region.free md ops l i = true := by kernel_rfl) (hr : (Region.ready md ops l).contains i = true := by kernel_rfl)
    (hQ : ∀ c a w, Q (.panic c) (a.put (some d) v) w → Q (.panic c) a w := by exact fun _ _ _ h => h) (hti : (t == i) = false := by exact rfl) : Any P md ops Q (Both t T T2) (n + 1) l a w :=
  Any.takeG (some d) hi hd hs hf hr hQ hti hy hS h
end Go.Proofs.Rg

namespace Go.Proofs.Rg
open Go Go.RowKit
variable {P:Program} {md:Region.Mode} {ops:Array Oper} {Q:Exit→Act→World→Prop} {S:Array Bool→World→Prop}
theorem put_comm (a:Act) {d d':Tmp} (u v:Value) (h:d≠d'):(a.put (some d) u).put (some d') v=(a.put (some d') v).put (some d) u:=by
 unfold Act.put;simp only [Array.setIfInBounds_comm u v h]
def Does (P:Program) (ops:Array Oper) (Q:Exit→Act→World→Prop) (i d:Nat) (I:World→Prop) (R:Value→World→Prop) (K:World→World→Prop) (b:Act) (W:World):Prop :=
 wpOp P ops Q i (fun c W'=>∃ v,c=b.put (some d) v∧I W'∧R v W'∧K W W') b W

theorem Any.inv {J:Nat→Array Bool→Act→World→Prop} {k:Nat} (h0:∀ l a w,J 0 l a w→Any P md ops Q S k l a w)
  (hs:∀ m l a w,J (m+1) l a w→Region.ready md ops l≠[]∧∀ i∈Region.ready md ops l,wpOp P ops Q i (fun a' w'=>S (l.setIfInBounds i true) w'∧J m (l.setIfInBounds i true) a' w') a w) :
  ∀ m l a w,J m l a w→Any P md ops Q S (k+m) l a w
 | 0,l,a,w,h=>h0 l a w h
 | m+1,l,a,w,h=>by
  obtain ⟨h1,h2⟩:=hs m l a w h;exact Any.all rfl h1 fun i hi=>wpOp_mono (fun a' w' q=>⟨q.1,Any.inv h0 hs m _ a' w' q.2⟩) (h2 i hi)
end Go.Proofs.Rg

namespace Go.Proofs.YtdnmmibchbceeaaGreat
open Go.RowKit
open Go.Proofs
attribute [local irreducible] Go.Calls
theorem permCheck_in (v:Value) (l:List Int) (w:World) (h:Rg.Ints w v l) (h1:1≤l.length) (h2:l.length≤64) :
  Calls Tryz.prog 75 #[v] w fun e w'=>e=.returned (.int .i64 (Ma.pchk l))∧Below w.heap.size w w':=by
 obtain ⟨a,cap,rfl,hc,hm,_,hcell⟩:=h.shape;obtain ⟨b,o,rfl,hb,hr⟩:=hcell (by omega);have Hr:=ι hr;clear hr hcell h
 have hz:∀ (cs:Array Value),cs=Array.replicate 64 (.bool false)→(w.alloc (.cells cs 144)).rowIs w.heap.size 144 64 (fun j=>.bool (decide ((j:Int)∈l.take 0))):=by
  rintro cs rfl;have:=World.rowIs_alloc w (Array.replicate 64 (.bool false)) 144 (fun j=>.bool (decide ((j:Int)∈l.take 0))) (fun i hi=>by simp at hi; simp [hi])
  simpa using this
 have HZ:=ι hz;clear hz
 go_enter Tryz.func75,Tryz.ntmps75
 go_wp2
 go_loopw [16] (fun i wr=>∃ k:Nat,k≤l.length∧i=.int .i64 k∧Hid (Ma.preL l k)∧Hid (wr.rowIs w.heap.size 144 64 (fun j=>.bool (decide ((j:Int)∈l.take k))))∧Below w.heap.size w wr) (fun i _=>l.length - (intOf i).toNat)
 case atStart=>exact ⟨0,by omega,rfl,Ma.pre0 l,HZ.out _ rfl,(Below.refl _ _).alloc (Nat.le_refl _) _⟩
 case round =>
  obtain ⟨k,hk,rfl,hp,hs,hbel⟩:=hrel;obtain ⟨hc,hf⟩:=Rg.bcell hbel
  by_cases hlt:k<l.length
  ·have e0:wr.cell? ⟨b,o+k,none⟩=some (.int .i64 l[k]):=(hc b (o+k) hb).trans (Hr.out k hlt)
   have hB:b<wr.heap.size:=Nat.lt_of_lt_of_le hb hbel.size;generalize hx:l[k]=x at e0;have Hx:=ι hx;clear hx hc hf
   by_cases h0:x<0
   ·go_wp2
    go_ret;exact ⟨Rg.ret_int (Ma.pchk_bad h1 h2 (Ma.bad_lo hlt (by rw [Hx.out]; exact h0))).symm,by assumption⟩
   by_cases h3:x<l.length
   ·obtain ⟨n,rfl⟩:=Int.eq_ofNat_of_zero_le (by omega:0≤x)
    have hn:n<64:=by omega
    have c1:=hs.out.cell hn;have f1:=hs.out.frozen n
    cases hd:decide ((n:Int)∈l.take k)
    ·rw [hd] at c1
     go_wp2
     go_roundw
     case rel =>
      refine ⟨k+1,by omega,by go_num,Ma.pre_step hp.out hlt (by rw [Hx.out]; omega) (by rw [Hx.out]; omega) (by rw [Hx.out]; exact of_decide_eq_false hd),?_,hbel.setCell (Nat.le_refl _) _⟩;refine (hs.out.set n _).congr fun i hi=>?_;rw [Ma.mem_take_succ hlt,Hx.out]
      by_cases e:i=n
      ·simp [e]
      ·rw [if_neg e,if_neg (by omega)]
     case measure=>simp [intOf]; omega
    ·rw [hd] at c1
     go_wp2;go_ret;exact ⟨Rg.ret_int (Ma.pchk_bad h1 h2 (Ma.bad_two hlt (by rw [Hx.out]; exact of_decide_eq_true hd))).symm,by assumption⟩
   ·go_wp2
    go_ret;exact ⟨Rg.ret_int (Ma.pchk_bad h1 h2 (Ma.bad_hi hlt (by rw [Hx.out]; omega))).symm,by assumption⟩
  ·obtain rfl:k=l.length:=by omega
   go_wp2;go_ret;exact ⟨Rg.ret_int (Ma.pchk_ok h1 h2 (Ma.pre_end hp.out)).symm,by assumption⟩
theorem permCheck_any (v:Value) (l:List Int) (w:World) (h:Rg.Ints w v l) :
  Calls Tryz.prog 75 #[v] w fun e w'=>e=.returned (.int .i64 (Ma.pchk l))∧Below w.heap.size w w':=by
 by_cases h1:1≤l.length
 ·by_cases h2:l.length≤64
  ·exact permCheck_in v l w h h1 h2
  ·have hp:=ι (Ma.pchk_out (l:=l) (by omega))
   obtain ⟨a,cap,rfl,hc,hm,_,hcell⟩:=h.shape;clear hcell h
   have h64:64<l.length:=by omega
   go_enter Tryz.func75,Tryz.ntmps75
   go_wp2;go_ret;exact ⟨Rg.ret_int hp.out.symm,Below.refl _ _⟩
 ·have hp:=ι (Ma.pchk_out (l:=l) (by omega))
  obtain ⟨a,cap,rfl,hc,hm,_,hcell⟩:=h.shape;clear hcell h
  have h64:l.length<1:=by omega
  go_enter Tryz.func75,Tryz.ntmps75
  go_wp2;go_ret;exact ⟨Rg.ret_int hp.out.symm,Below.refl _ _⟩

theorem infoInt:(Tryz.prog.info? 3).map (fun i=>(i.zero,i.size,i.bytes))=some (some (.int .i64 0),1,8):=by kernel_rfl
theorem mkPerm (n:Nat) (hn:n≤1000000) (w:World):(Instr.makeSlice 30 (.int .i64 (n:Int)) (.int .i64 (n:Int))).run Tryz.prog w=.ok (.slice (some ⟨w.heap.size,0,none⟩) n n) (w.alloc (.cells (madeCells #[.int .i64 0] n) 3)) :=
 run_make_row' 30 3 (.int .i64 0) 8 Tryz.underlying30 infoInt rfl .i64 .i64 n (by omega) (by omega) w

theorem ret_i {k:IntKind} {a b:Int} (h:b=a):Ending.returned (.int k a)=.returned (.int k b):=by rw [h]
theorem pk_check (h:Rg.Ints w v l) (hb:Below w0.heap.size w0 w) :
  Calls Tryz.prog 75 #[v] w fun e w'=>e=.returned (.int .i64 (Ma.pchk l))∧Below w0.heap.size w0 w' :=
 (permCheck_any v l w h).mono fun _ _ ⟨a,b⟩=>⟨a,Rg.acc hb b⟩

theorem orbitCheck_in (gv:Value) (d:Int) (ll:List (List Int)) (w:World) (h:Rg.Rows w gv ll) (h1:1≤d) (h2:d≤64) (h3:ll.length≤16) :
  Calls Tryz.prog 40 #[.agg #[.int .i64 d,gv]] w fun e w'=>e=.returned (.int .i64 (Ma.gck d ll))∧Below w.heap.size w w':=by
 obtain ⟨ad,cap,rfl,hc,hm,_,hcell⟩:=h.shape;have Hr:=ι hcell;clear hcell h
 go_enter Tryz.func40,Tryz.ntmps40
 go_wp2
 go_loopw [21] (fun i wr=>∃ k:Nat,k≤ll.length∧i=.int .i64 k∧Hid (Ma.gck d (ll.drop k)=Ma.gck d ll)∧Hid (Below (w.heap.size+1) (w.alloc (.cells #[.int .i64 d,.slice ad ll.length cap] 24)) wr)) (fun i _=>ll.length - (intOf i).toNat)
 case atStart=>exact ⟨0,by omega,rfl,rfl,Below.refl _ _⟩
 case round =>
  obtain ⟨k,hk,rfl,hp,hbel⟩:=hrel;have hb0:Below w.heap.size w wr:=((Below.refl _ w).alloc (Nat.le_refl _) _).trans (hbel.out.mono (by omega))
  have cd:wr.cell? ⟨w.heap.size,0,none⟩=some (.int .i64 d):=by
   rw [hbel.out.cell (by show w.heap.size<_; omega)]; rw [Rg.cellNew]; rfl
  have hsz:w.heap.size<wr.heap.size:=by have:=hbel.out.size; simp at this; omega
  by_cases hlt:k<ll.length
  ·obtain ⟨b,o,rfl,hb,hr⟩:=Hr.out (by omega)
   obtain ⟨u,eu,hu⟩:=hr k hlt;have e0:wr.cell? ⟨b,o+k,none⟩=some u:=(hb0.cell (p:=⟨b,o+k,none⟩) hb).trans eu;have hu':=hu.below hb0;obtain ⟨n,a1,c1,hn,rfl,hl⟩:=hu.len;have Hn:=ι hn;clear hr eu hu hn
   by_cases hz:Ma.pchk ll[k]=0
   ·have Hz:=ι hz
    have hbb:((Ma.pchk ll[k]) != 0)=false:=by rw [hz]; rfl
    clear hz;have hac:∀ {e:Ending} {w':World},Below wr.heap.size wr w'→w'.cell? ⟨w.heap.size,0,none⟩=some (.int .i64 d):=fun hw=>(hw.cell (p:=⟨w.heap.size,0,none⟩) hsz).trans cd
    by_cases hd:(n:Int)=d
    ·have hdd:((n:Int) != d)=false:=by rw [hd]; simp
     have Hd:=ι hd;clear hd
     go_wp2_with (go_at_call 75; refine (permCheck_any _ _ _ hu').mono ?_; rintro e w1 ⟨rfl,hbel1⟩; have cd1:=(hbel1.cell (p:=⟨w.heap.size,0,none⟩) hsz).trans cd)
     go_roundw
     case rel=>exact ⟨k+1,by omega,by go_num,(Ma.gck_next hlt Hz.out (by rw [Hn.out]; exact Hd.out)).symm.trans hp.out,hbel.out.trans (hbel1.mono hsz)⟩
     case measure=>simp [intOf]; omega
    ·have hdd:((n:Int) != d)=true:=by rw [bne_iff_ne]; exact hd
     have Hd:=ι hd;clear hd
     go_wp2_with (go_at_call 75; refine (permCheck_any _ _ _ hu').mono ?_; rintro e w1 ⟨rfl,hbel1⟩; have cd1:=(hbel1.cell (p:=⟨w.heap.size,0,none⟩) hsz).trans cd)
     go_ret;exact ⟨ret_i (by rw [← hp.out]; exact Ma.gck_len hlt Hz.out (by rw [Hn.out]; exact Hd.out)),Rg.acc hb0 hbel1⟩
   ·have Hz:=ι hz
    have hbb:((Ma.pchk ll[k]) != 0)=true:=by rw [bne_iff_ne]; exact hz
    clear hz
    go_wp2_with (go_at_call 75; refine (pk_check hu' hb0).mono ?_; rintro e w1 ⟨rfl,hbel1⟩)
    go_ret;exact ⟨ret_i (by rw [← hp.out]; exact Ma.gck_bad hlt Hz.out),hbel1⟩
  ·go_wp2
   go_ret;exact ⟨ret_i (by rw [← hp.out]; exact Ma.gck_end (by omega)),hb0⟩
theorem orbitCheck_any (gv:Value) (d:Int) (ll:List (List Int)) (w:World) (h:Rg.Rows w gv ll) :
  Calls Tryz.prog 40 #[.agg #[.int .i64 d,gv]] w fun e w'=>e=.returned (.int .i64 (Ma.gchk d ll))∧Below w.heap.size w w':=by
 by_cases h1:1≤d
 ·by_cases h2:d≤64
  ·by_cases h3:ll.length≤16
   ·rw [Ma.gchk_in h1 h2 h3]; exact orbitCheck_in gv d ll w h h1 h2 h3
   ·have hg:=ι (Ma.gchk_long h1 h2 h3)
    obtain ⟨ad,cap,rfl,hc,hm,_,hcell⟩:=h.shape;clear hcell h
    have h3':16<ll.length:=by omega
    clear h3
    go_enter Tryz.func40,Tryz.ntmps40
    go_wp2;go_ret;exact ⟨ret_i hg.out,(Below.refl _ _).alloc (Nat.le_refl _) _⟩
  ·have hg:=ι (Ma.gchk_range (d:=d) (ll:=ll) (by omega))
   have h2':64<d:=by omega
   clear h2 h
   go_enter Tryz.func40,Tryz.ntmps40
   go_wp2;go_ret;exact ⟨ret_i hg.out,(Below.refl _ _).alloc (Nat.le_refl _) _⟩
 ·have hg:=ι (Ma.gchk_range (d:=d) (ll:=ll) (by omega))
  have h1':d<1:=by omega
  clear h1 h
  go_enter Tryz.func40,Tryz.ntmps40
  go_wp2;go_ret;exact ⟨ret_i hg.out,(Below.refl _ _).alloc (Nat.le_refl _) _⟩

theorem slPerm:Rg.SlT Tryz.prog 30 3 (.int .i64 0) 8:=⟨Tryz.underlying30,infoInt,rfl,by decide⟩
def ivs (l:List Nat):List Value:=l.map fun (x:Nat)=>Value.int .i64 (x:Int)
theorem ivs_snoc (l:List Nat) (x:Nat):ivs (l++[x])=ivs l++[.int .i64 (x:Int)]:=by simp [ivs]
theorem kitOne_any (n:Nat) (w:World) (hn:n≤1000) :
  Calls Tryz.prog 37 #[.int .i64 n] w fun e w'=>∃ v,e=.returned v∧Rg.NPF w w' v (Ma.oneN n)∧Below w.heap.size w w':=by
 go_enter Tryz.func37,Tryz.ntmps37
 go_wp2
 go_loopw [3,4] (fun v i wr=>∃ k:Nat,k≤n∧i=.int .i64 k∧Hid (wr.ownsRow w.heap.size 3 1 v k (ivs (Ma.oneN k)))∧Hid (Below w.heap.size w wr)) (fun _ i _=>n - (intOf i).toNat)
 case atStart=>exact ⟨0,by omega,rfl,World.ownsRow_nil _ _ _ _,Below.refl _ _⟩
 case round =>
  obtain ⟨k,hk,rfl,hs,hbel⟩:=hrel
  by_cases hlt:k<n
  ·go_wp2_with (at_builtin; refine Rg.app1 rfl _ _ 30 rfl slPerm hs.out hbel.out _ (by simp [Value.oneCell']) rfl rfl (by omega) ?_; intro v' w1 hs1 hb1 _ _ _)
   go_roundw
   case rel=>exact ⟨k+1,by omega,by go_num,by rw [show Ma.oneN (k+1)=Ma.oneN k++[k] from List.range_succ,ivs_snoc]; exact hs1,hb1⟩
   case measure=>simp [intOf]; omega
  ·obtain rfl:k=n:=by omega
   go_wp2;go_ret;exact ⟨_,rfl,⟨Rg.NP.of_row hs.out (by omega),Rg.Fresh.of_row hs.out⟩,hbel.out⟩
theorem mulN_take_succ {b:List Nat} (hk:k<a.length):Ma.mulN (a.take (k+1)) b=Ma.mulN (a.take k) b++[b.getD a[k] 0]:=by
 rw [List.take_succ_eq_append_getElem hk]; unfold Ma.mulN; rw [List.map_append]; rfl
theorem kitMul_any (va vb:Value) (a b:List Nat) (w:World) (h:Rg.NP w va a) (h':Rg.NP w vb b) (hab:∀ x∈a,x<b.length) (hn:a.length≤1000) :
  Calls Tryz.prog 34 #[va,vb] w fun e w'=>∃ v,e=.returned v∧Rg.NPF w w' v (Ma.mulN a b)∧Below w.heap.size w w':=by
 obtain ⟨ad,cap,rfl,hc,_,_,hcell⟩:=h.shape;obtain ⟨ad2,cap2,rfl,hc2,hm2,_,hcell2⟩:=h'.shape;have H1:=ι hcell;have H2:=ι hcell2;clear hcell hcell2 h h'
 go_enter Tryz.func34,Tryz.ntmps34
 go_wp2
 go_loopw [5,6] (fun v i wr=>∃ k:Nat,k≤a.length∧i=.int .i64 k∧Hid (wr.ownsRow w.heap.size 3 1 v k (ivs (Ma.mulN (a.take k) b)))∧Hid (Below w.heap.size w wr)) (fun _ i _=>a.length - (intOf i).toNat)
 case atStart=>exact ⟨0,by omega,rfl,World.ownsRow_nil _ _ _ _,Below.refl _ _⟩
 case round =>
  obtain ⟨k,hk,rfl,hs,hbel⟩:=hrel
  by_cases hlt:k<a.length
  ·obtain ⟨b1,o1,rfl,hb1,hr1⟩:=H1.out (by omega)
   have e1:=(hbel.out.cell (p:=⟨b1,o1+k,none⟩) hb1).trans (hr1 k hlt);have hx:=hab _ (List.getElem_mem hlt);have hstep:=mulN_take_succ (b:=b) hlt;have hg:=Ma.getD_lt hx;generalize a[k]=x at e1 hx hstep hg;have Hstep:=ι hstep;obtain ⟨b2,o2,rfl,hb2,hr2⟩:=H2.out (by omega);have e2:=(hbel.out.cell (p:=⟨b2,o2+x,none⟩) hb2).trans (hr2 x hx);generalize b[x]=y at e2 hg;have Hg:=ι hg;clear hg hstep hr1 hr2
   go_wp2_with (at_builtin; refine Rg.app1 rfl _ _ 30 rfl slPerm hs.out hbel.out _ (by simp [Value.oneCell']) rfl rfl (by omega) ?_; intro v' w1 hs1 hb1 _ _ _)
   go_roundw
   case rel=>exact ⟨k+1,by omega,by go_num,by rw [Hstep.out,Hg.out,ivs_snoc]; exact hs1,hb1⟩
   case measure=>simp [intOf]; omega
  ·obtain rfl:k=a.length:=by omega
   go_wp2;go_ret;exact ⟨_,rfl,⟨Rg.NP.of_row (n:=a.length) (by have:=hs.out; rwa [List.take_length] at this) (by omega),Rg.Fresh.of_row hs.out⟩,hbel.out⟩
theorem kitInv_any (v:Value) (a:List Nat) (w:World) (h:Rg.NP w v a) (ha:Ma.okN a) (hn:a.length≤1000) :
  Calls Tryz.prog 50 #[v] w fun e w'=>∃ v,e=.returned v∧Rg.NPF w w' v (Ma.invN a)∧Below w.heap.size w w':=by
 obtain ⟨ad,cap,rfl,hc,_,_,hcell⟩:=h.shape;have Hr:=ι hcell;clear hcell h;have hmk:=mkPerm a.length (by omega) w;have hrow:=ι (World.rowIs_made w (.int .i64 0) a.length 3)
 go_enter Tryz.func50,Tryz.ntmps50
 go_wp2;clear hmk
 go_loopw [4] (fun i wr=>∃ k:Nat,k≤a.length∧i=.int .i64 k∧Hid (wr.rowIs w.heap.size 3 a.length (fun j=>.int .i64 (if j∈a.take k then ((a.idxOf j:Nat):Int) else 0)))∧Below w.heap.size w wr) (fun i _=>a.length - (intOf i).toNat)
 case atStart=>exact ⟨0,by omega,rfl,hrow.out.congr (fun i hi=>by simp),(Below.refl _ _).alloc (Nat.le_refl _) _⟩
 case round =>
  obtain ⟨k,hk,rfl,hs,hbel⟩:=hrel;obtain ⟨hc,hf⟩:=Rg.bcell hbel
  by_cases hlt:k<a.length
  ·obtain ⟨b,o,rfl,hb,hr⟩:=Hr.out (by omega)
   have e0:wr.cell? ⟨b,o+k,none⟩=some (.int .i64 ((a[k]:Nat):Int)):=(hc b (o+k) hb).trans (hr k hlt);have hak:a[k]<a.length:=Ma.okN_lt ha hlt;have hix:=Ma.idx_get ha hlt
   have hmem:∀ i,i∈a.take (k+1)↔(i∈a.take k∨i=a[k]):=fun i=>by rw [List.take_succ_eq_append_getElem hlt,List.mem_append,List.mem_singleton]
   generalize hx:a[k]=x at *;have Hix:=ι hix;have Hmem:=ι hmem;clear hx hc hf hix hmem hr;have c1:=hs.out.cell hak;have f1:=hs.out.frozen x;generalize (Value.int .i64 (if x∈a.take k then ((a.idxOf x:Nat):Int) else 0))=u0 at c1;go_wp2
   go_roundw
   case rel =>
    refine ⟨k+1,by omega,by go_num,?_,hbel.setCell (Nat.le_refl _) _⟩;refine (hs.out.set x _).congr fun i hi=>?_
    by_cases e:i=x
    ·subst e; rw [if_pos rfl,if_pos ((Hmem.out i).2 (.inr rfl)),Hix.out]
    ·rw [if_neg e]
     by_cases e2:i∈a.take k
     ·rw [if_pos e2,if_pos ((Hmem.out i).2 (.inl e2))]
     ·rw [if_neg e2,if_neg (fun e3=>((Hmem.out i).1 e3).elim e2 e)]
   case measure=>simp [intOf]; omega
  ·obtain rfl:k=a.length:=by omega
   go_wp2;go_ret;refine ⟨_,rfl,⟨Rg.NP.of_rowIs hs.out (by rw [Ma.len_invN]) (by omega) (fun i hi=>?_),Rg.Fresh.mk _ _ _ _⟩,by assumption⟩;rw [Ma.get_invN];rw [Ma.len_invN] at hi;rw [List.take_of_length_le (Nat.le_refl _),if_pos (Ma.okN_mem ha hi)]

theorem Same_q (v1 v2:Value) (l1 l2:List Int) (w:World) (h1:Rg.Ints w v1 l1) (h2:Rg.Ints w v2 l2) :
  Calls Tryz.prog 15 #[v1,v2] w fun e w'=>e=.returned (.bool (decide (l1=l2)))∧∃ k,w'=w.drewN k:=by
 obtain ⟨a1,c1,rfl,n1,m1,_,k1⟩:=h1.shape;obtain ⟨a2,c2,rfl,n2,m2,_,k2⟩:=h2.shape;clear h1 h2;have K1:=ι k1;have K2:=ι k2;clear k1 k2;generalize hD:decide (l1=l2)=D;have HD:=ι hD;clear hD
 by_cases hl:l1.length=l2.length
 ·have hb:((l1.length:Int) != (l2.length:Int))=false:=by rw [hl]; simp
  have Hl:=ι hl;clear hl
  go_enter Tryz.func15,Tryz.ntmps15
  go_wp2;clear hb
  go_loopw [5] (fun v wr=>∃ i:Nat,v=.int .i64 i∧i≤l1.length∧(∃ k,wr=w.drewN k)∧Hid (l1.take i=l2.take i)) (fun v _=>l1.length - (intOf v).toNat)
  case atStart=>exact ⟨0,rfl,by omega,⟨0,rfl⟩,by show _=_; simp⟩
  case round =>
   obtain ⟨i,rfl,hi,⟨k,rfl⟩,hs⟩:=hrel
   by_cases hlt:i<l1.length
   ·have hi2:i<l2.length:=by have:=Hl.out; omega
    obtain ⟨b1,o1,rfl,hb1,d1⟩:=K1.out (by omega);obtain ⟨b2,o2,rfl,hb2,d2⟩:=K2.out (by omega);have x1:w.cell? ⟨b1,o1+i,none⟩=_:=d1 i hlt;have x2:w.cell? ⟨b2,o2+i,none⟩=_:=d2 i hi2
    have hlt2:(i:Int)<(l2.length:Int):=by omega
    generalize hx:l1[i]=x at x1;generalize hy:l2[i]=y at x2;have Hx:=ι hx;have Hy:=ι hy;clear d1 d2 hx hy
    by_cases he:x=y
    ·have hb:(x != y)=false:=by rw [he]; simp
     have He:=ι he;clear he;go_wp2
     go_quiet (fail)
     go_wp2
     go_roundw
     case rel=>exact ⟨i+1,by go_num,by omega,⟨_,rfl⟩,by show _=_; rw [List.take_succ_eq_append_getElem hlt,List.take_succ_eq_append_getElem hi2,hs.out,Hx.out,Hy.out,He.out]⟩
     case measure=>simp [intOf]; omega
    ·have hb:(x != y)=true:=by rw [bne_iff_ne]; exact he
     have He:=ι he;clear he;go_wp2
     go_quiet (fail)
     go_wp2;go_ret;exact ⟨Rg.ret_bool (by rw [← HD.out]; symm; rw [decide_eq_false_iff_not]; intro hc; subst hc; exact He.out (Hx.out.symm.trans Hy.out)),_,World.drewN_drewN _ _ _⟩
   ·go_wp2
    go_ret;refine ⟨Rg.ret_bool ?_,_,rfl⟩;rw [← HD.out]; symm;rw [decide_eq_true_eq];have h1:=hs.out
    rwa [List.take_of_length_le (by omega),List.take_of_length_le (by have:=Hl.out; omega)] at h1
 ·have hb:((l1.length:Int) != (l2.length:Int))=true:=by rw [bne_iff_ne]; omega
  have Hl:=ι hl;clear hl
  go_enter Tryz.func15,Tryz.ntmps15
  go_wp2;go_ret;exact ⟨Rg.ret_bool (by rw [← HD.out]; symm; rw [decide_eq_false_iff_not]; intro hc; subst hc; exact Hl.out rfl),0,rfl⟩

theorem NP.ints {l:List Nat} (h:Rg.NP w v l):Rg.Ints w v (Ma.ofN l):=h
theorem Same_any {b:Bool} (h1:Rg.Ints w v1 l1) (h2:Rg.Ints w v2 l2) (hd:Hid (decide (l1=l2)=b)) (hb:Below w0.heap.size w0 w) :
  Calls Tryz.prog 15 #[v1,v2] w fun e w'=>e=.returned (.bool b)∧Below w0.heap.size w0 w' :=
 (Same_q v1 v2 l1 l2 w h1 h2).mono fun _ _ ⟨a,_,c⟩=>⟨by rw [a,hd.out],by rw [c]; exact Rg.drewN hb _⟩

theorem slInts:Rg.SlT Tryz.prog 25 3 (.int .i64 0) 8:=⟨Tryz.underlying25,infoInt,rfl,by decide⟩
theorem infoPerm:(Tryz.prog.info? 30).map (fun i=>(i.zero,i.size,i.bytes))=some (some (.slice none 0 0),1,24):=by kernel_rfl
theorem slPerms:Rg.SlT Tryz.prog 22 30 (.slice none 0 0) 24:=⟨Tryz.underlying22,infoPerm,rfl,by decide⟩
theorem run_loadInt {ad:Addr} (h:w.cell? ad=some v):(loadVar 3 ad).run Tryz.prog w=.ok v w:=by
 simp [loadVar,isAgg,run_underlying Tryz.underlying3,load];simp [Sem.run,h]
theorem run_buildP2 (X:World) (u v:Value) (hu:∃ a n c,u=.slice a n c) (hv:∃ a n c,v=.slice a n c):(Instr.buildSlice 22 2 #[(0,u),(1,v)]).run Tryz.prog X=.ok (.slice (some ⟨X.heap.size,0,none⟩) 2 2) (X.alloc (.cells #[u,v] 30)):=by
 obtain ⟨i0,hi,hz0,hz1,hz2⟩:=info_parts infoPerm;obtain ⟨a,n,c,rfl⟩:=hu;obtain ⟨a',n',c',rfl⟩:=hv;refine run_buildSlice X 22 30 2 _ _ i0 _ Tryz.underlying22 hi hz0 (by rw [hz1]; decide) (by rw [hz1]; decide) ?_;generalize (fun x=>((Value.slice none 0 0).cells)[x % (Value.slice none 0 0).cells.size]!)=f;rw [hz1];have h1:Array.range (2*1)=#[0,1]:=rfl;simp [Instr.fill,Value.cells,h1]
def RowsF (B:Nat) (w:World) (v:Value) (ll:List (List Int)):Prop :=
 ∃ us,Rg.Vals w v us∧Rg.Fresh B v∧us.length=ll.length∧∀ i (h:i<us.length) (h2:i<ll.length),Rg.Ints w us[i] ll[i]∧Rg.Fresh B us[i]
theorem RowsF.rows {ll:List (List Int)} (h:RowsF B w v ll):Rg.Rows w v ll:=by
 obtain ⟨us,h1,_,h3,h4⟩:=h;exact ⟨us,h1,h3,fun i a b=>(h4 i a b).1⟩
theorem RowsF.mono {B B':Nat} {w:World} {v:Value} {ll:List (List Int)} (h:RowsF B w v ll) (hb:B'≤B):RowsF B' w v ll:=by
 obtain ⟨us,h1,h2,h3,h4⟩:=h;exact ⟨us,h1,h2.mono hb,h3,fun i a b=>⟨(h4 i a b).1,(h4 i a b).2.mono hb⟩⟩
theorem vals_keep {us:List Value} (h:Rg.Vals w v us) (hf:Rg.Fresh B v) (hs:w.heap.size≤w'.heap.size) (hk:∀ b o,B≤b→b<w.heap.size→w'.cell? ⟨b,o,none⟩=w.cell? ⟨b,o,none⟩):Rg.Vals w' v us:=by
 obtain ⟨a,cap,h1,h2,h3,h4,h5⟩:=h;refine ⟨a,cap,h1,h2,h3,h4,fun h0=>?_⟩;obtain ⟨b,o,e1,e2,e3⟩:=h5 h0
 have hB:B≤b:=by
  subst e1;exact hf _ _ _ h1
 exact ⟨b,o,e1,Nat.lt_of_lt_of_le e2 hs,fun i hi=>(hk b _ hB e2).trans (e3 i hi)⟩
theorem RowsF.keep {ll:List (List Int)} (h:RowsF B w v ll) (hs:w.heap.size≤w'.heap.size) (hk:∀ b o,B≤b→b<w.heap.size→w'.cell? ⟨b,o,none⟩=w.cell? ⟨b,o,none⟩):RowsF B w' v ll:=by
 obtain ⟨us,h1,h2,h3,h4⟩:=h;exact ⟨us,vals_keep h1 h2 hs hk,h2,h3,fun i a b=>⟨vals_keep (h4 i a b).1 (h4 i a b).2 hs hk,(h4 i a b).2⟩⟩
theorem RowsF.below {ll:List (List Int)} (h:RowsF B w v ll) (hb:Below w.heap.size w w'):RowsF B w' v ll :=
 h.keep hb.size fun b o _ h2=>hb.cell (p:=⟨b,o,none⟩) h2
theorem RowsF.set {ll:List (List Int)} (h:RowsF B w v ll) (b o:Nat) (u:Value) (hb:b<B):RowsF B (w.setCell ⟨b,o,none⟩ u) v ll:=by
 refine h.keep (by simp) fun b2 o2 h1 h2=>?_
 exact World.cell?_setCell_other (h:=by intro e; injection e with e1; omega) ..
theorem RowsF.two {B:Nat} {w:World} {v v':Value} {l l':List Int} (t:TypeId) (h:Rg.Ints w v l) (h':Rg.Ints w v' l') (f:Rg.Fresh B v) (f':Rg.Fresh B v') (hB:B≤w.heap.size):RowsF B (w.alloc (.cells #[v,v'] t)) (.slice (some ⟨w.heap.size,0,none⟩) 2 2) [l,l']:=by
 obtain ⟨us,h1,h2,h3⟩:=Rg.Rows.two t h h';refine ⟨[v,v'],⟨_,2,rfl,by simp,by unfold maxLen; simp,by simp [Rg.big],fun _=>⟨w.heap.size,0,rfl,by simp,fun i hi=>?_⟩⟩,(Rg.Fresh.mk _ _ _ _).mono hB,rfl,fun i h1 h2=>?_⟩
 ·have hi':i=0∨i=1:=by simp at hi; omega
  rcases hi' with rfl | rfl
  all_goals
   rw [Rg.cellNew]; rfl
 ·have hi':i=0∨i=1:=by simp at h1; omega
  rcases hi' with rfl | rfl
  ·exact ⟨Rg.Ints.below h ((Below.refl _ _).alloc (Nat.le_refl _) _),f⟩
  ·exact ⟨Rg.Ints.below h' ((Below.refl _ _).alloc (Nat.le_refl _) _),f'⟩
theorem infoGroup:(Tryz.prog.info? 24).map (fun i=>(i.zero,i.size,i.bytes))=some (some (.agg #[.int .i64 0,.slice none 0 0]),2,32):=by kernel_rfl
theorem run_storeG {b:Nat} (d:Int) (a:Option Addr) (n c:Nat) (h1:w.cell? ⟨b,0,none⟩=some u1) (h2:w.cell? ⟨b,1,none⟩=some u2) (f1:w.frozen? ⟨b,0,none⟩=false) (f2:w.frozen? ⟨b,1,none⟩=false) :
  (storeVar 24 ⟨b,0,none⟩ (.agg #[.int .i64 d,.slice a n c])).run Tryz.prog w=.ok () ((w.setCell ⟨b,0,none⟩ (.int .i64 d)).setCell ⟨b,1,none⟩ (.slice a n c)):=by
 obtain ⟨i0,hi,hz0,hz1,hz2⟩:=info_parts infoGroup
 have g2:(w.setCell ⟨b,0,none⟩ (.int .i64 d)).cell? ⟨b,1,none⟩=some u2:=by
  rw [World.cell?_setCell_other (h:=by intro e; injection e with e1 e2; omega) ..]
  exact h2
 have gf:(w.setCell ⟨b,0,none⟩ (.int .i64 d)).frozen? ⟨b,1,none⟩=false:=by rw [World.frozen?_setCell]; exact f2
 have ha0:(⟨b,0,none⟩:Addr).add 0=⟨b,0,none⟩:=by simp [Addr.add]
 have ha1:(⟨b,0,none⟩:Addr).add 1=⟨b,1,none⟩:=by simp [Addr.add]
 simp [storeVar,sizeOf,typeInfo,hi,hz1,Value.cells,storeCells,store,ha0,ha1];simp [Sem.run,h1,f1,g2,gf]
theorem run_loadG {b:Nat} {x y:Value} (h1:w.cell? ⟨b,0,none⟩=some x) (h2:w.cell? ⟨b,1,none⟩=some y):(loadVar 24 ⟨b,0,none⟩).run Tryz.prog w=.ok (.agg #[x,y]) w:=by
 obtain ⟨i0,hi,hz0,hz1,hz2⟩:=info_parts infoGroup
 have ha0:(⟨b,0,none⟩:Addr).add 0=⟨b,0,none⟩:=by simp [Addr.add]
 have ha1:(⟨b,0,none⟩:Addr).add 1=⟨b,1,none⟩:=by simp [Addr.add]
 have hg:(isAgg 24).run Tryz.prog w=.ok true w:=by kernel_rfl
 simp [loadVar,hg,sizeOf,typeInfo,hi,hz1,loadCells,loadCellsFrom,load,ha0,ha1];simp [Sem.run,h1,h2]
theorem results_cellG {fn:Func} {p:Tmp} (h:fn.results=#[.cell p 24]) (tmps:Array Value) {b:Nat} {x y:Value} (hp:tmps.getD p undef=.pointer (some ⟨b,0,none⟩)) (h1:w.cell? ⟨b,0,none⟩=some x) (h2:w.cell? ⟨b,1,none⟩=some y) :
  (results fn tmps).run Tryz.prog w=.ok (.agg #[x,y]) w:=by
 have hp':tmps[p]?.getD undef=.pointer (some ⟨b,0,none⟩):=by simpa using hp
 simp [results,h,hp',asAddr,run_loadG h1 h2]
theorem exec_buildP {o:Oper} {a:Act} (x y:Operand) (ho:o.op=.buildSlice 22 2 #[(0,x),(1,y)]) (hx:a.eval x=u1) (hy:a.eval y=u2)
  (hr:(Instr.buildSlice 22 2 #[(0,u1),(1,u2)]).run Tryz.prog w=.ok v w'):(execOp a.eval o).run Tryz.prog w=.ok (.value v) w':=by
 subst hx hy;unfold execOp;simp only [ho,Sem.run_bind,Sem.run_pure];simp only [List.map_toArray,List.map_cons,List.map_nil];rw [hr];rfl
theorem exec_buildG {o:Oper} {a:Act} {ad:Option Addr} {c:Nat} (x y:Operand) (ho:o.op=.build 24 #[(0,x),(1,y)]) (hx:a.eval x=.int .i64 d) (hy:a.eval y=.slice ad n c) :
  (execOp a.eval o).run Tryz.prog w=.ok (.value (.agg #[.int .i64 d,.slice ad n c])) w:=by
 unfold execOp;simp only [ho,Sem.run_bind,Sem.run_pure];simp only [List.map_toArray,List.map_cons,List.map_nil,hx,hy]
 have h:(Instr.build 24 #[(0,.int .i64 d),(1,.slice ad n c)]).run Tryz.prog w=.ok (.agg #[.int .i64 d,.slice ad n c]) w:=by kernel_rfl
 rw [h];rfl
theorem group_set {b:Nat} (x y:Value) (h1:W.cell? ⟨b,0,none⟩=some u1) (h2:W.cell? ⟨b,1,none⟩=some u2) (hb:Below B w W) (hB:B≤b:=by omega) :
  ((W.setCell ⟨b,0,none⟩ x).setCell ⟨b,1,none⟩ y).cell? ⟨b,0,none⟩=some x∧((W.setCell ⟨b,0,none⟩ x).setCell ⟨b,1,none⟩ y).cell? ⟨b,1,none⟩=some y∧Below B w ((W.setCell ⟨b,0,none⟩ x).setCell ⟨b,1,none⟩ y):=by
 have g2:(W.setCell ⟨b,0,none⟩ x).cell? ⟨b,1,none⟩=some u2:=by
  rw [World.cell?_setCell_other (h:=by intro e; injection e with e1 e2; omega) ..]
  exact h2
 refine ⟨?_,World.cell?_setCell_same (h:=g2) ..,(hb.setCell hB _).setCell hB _⟩
 rw [World.cell?_setCell_other (h:=by intro e; injection e with e1 e2; omega) ..]
 exact World.cell?_setCell_same (h:=h1) ..
theorem frozenNewN (w:World) (cs:Array Value) (t:TypeId) (n j:Nat):((w.alloc (.cells cs t)).drewN n).frozen? ⟨w.heap.size,j,none⟩=false:=by
 have h:(w.alloc (.cells cs t)).frozen? ⟨w.heap.size,j,none⟩=false:=by simp
 exact h
theorem list_ask {P:Program} {ops:Array Oper} {rest:List Oper} {o:Oper} {a:Act} {Q:Exit→Act→World→Prop} (d:Option Tmp) (hg:o.guard=none) (hd:o.dst=d) (f:FuncId) (args:Array Value)
  (hr:(execOp a.eval o).run P w=.ok (.enter f args) w) (hc:Calls P f args w fun e w'=>∃ v,e=.returned v∧wpList P ops Q rest (a.put d v) w'):wpList P ops Q (o :: rest) a w:=by
 subst hd;refine wpList_plain hg fun K hK=>?_;unfold Oper.wp;rw [hr,Oper.upon_enter];refine hc.mono fun e w' ⟨v,h1,h2⟩=>?_;subst h1;exact hK _ _ h2
theorem exec_allocG {o:Oper} {a:Act} (ho:o.op=.alloc 24):(execOp a.eval o).run Tryz.prog w=.ok (.value (.pointer (some ⟨w.heap.size,0,none⟩))) (w.alloc (.cells #[.int .i64 0,.slice none 0 0] 24)):=by
 obtain ⟨i0,hi,hz0,hz1,hz2⟩:=info_parts infoGroup;unfold execOp;simp [ho,Instr.alloc,typeInfo,zeroValue,hi,hz0,newVar,Value.cells,Result.andThen];rfl
theorem intsInfo:(Tryz.prog.info? 3).map (fun i=>(i.zero,i.size,i.bytes))=some (some (.int .i64 0),1,8):=by kernel_rfl
theorem exec_fn {o:Oper} {a:Act} (F:FuncId) (x y:Operand) (tys:Array TypeId) (ho:o.op=.call { callee:=.value (.func F),args:=#[x,y],argTypes:=tys }) (hx:a.eval x=u1) (hy:a.eval y=u2)
  (hF:(callFunc F #[u1,u2]).run Tryz.prog w=.ok (.enter F #[u1,u2]) w):(execOp a.eval o).run Tryz.prog w=.ok (.enter F #[u1,u2]) w:=by
 unfold execOp;have hf:a.eval (.func F)=.func (.func F) #[] #[]:=rfl;simp [ho,hx,hy,hf,resolve,invoke,Deferred.ofValue,hF]
theorem exec_extract {o:Oper} {a:Act} (x:Operand) (i:Nat) (ho:o.op=.extract x i) {vs:Array Value} (hx:a.eval x=.tuple vs) (hv:vs[i]?=some v):(execOp a.eval o).run Tryz.prog w=.ok (.value v) w:=by
 unfold execOp;simp [ho,hx,hv,Instr.extract]
theorem exec_flat {o:Oper} {a:Act} (t e:TypeId) (len:Nat) (parts:Array (Nat × Operand)) (ho:o.op=.buildSlice t len parts) (zs:List Int)
  (hu:Tryz.prog.underlying t=some (.slice e)) (hsz:(Tryz.prog.info? e).map (·.size)=some 1) (hz:((Tryz.prog.info? e).bind (·.zero)).isSome=true)
  (hlen:len=zs.length) (hpos:0<len) (hsmall:len≤2 ^ 24)
  (hparts:parts.toList=(zs.zipIdx 0).map fun x=>(x.2,Operand.const (Value.int .i64 x.1))) :
  (execOp a.eval o).run Tryz.prog w=.ok (.value (.slice (some ⟨w.heap.size,0,none⟩) len len)) (w.alloc (.cells (zs.map (Value.int .i64)).toArray e)):=by
 cases hie:Tryz.prog.info? e with
 | none=>simp [hie] at hsz
 | some ie =>
  simp only [hie,Option.map_some,Option.some.injEq,Option.bind_some] at hsz hz;obtain ⟨z,hzz⟩:=Option.isSome_iff_exists.1 hz
  have h1:=run_buildSlice w t e len (parts.map fun (i,x)=>(i,a.eval x)) ((zs.map (Value.int .i64)).toArray) ie z hu hie hzz (by rw [hsz]; omega) (by rw [hsz]; omega) (by
   rw [parts_eval a parts .i64 zs hparts,hsz]
   exact Great.fill_flat _ _ (fun v hv=>by obtain ⟨n,_,rfl⟩:=List.mem_map.1 hv; rfl) (by simp [hlen]))
  unfold execOp;simp only [ho,Sem.run_bind,h1,Result.andThen_ok,Sem.run_pure]
theorem ints_new (w:World) (t:TypeId) (zs:List Int) (hl:zs.length≤1000):Rg.Ints (w.alloc (.cells (zs.map (Value.int .i64)).toArray t)) (.slice (some ⟨w.heap.size,0,none⟩) zs.length zs.length) zs:=by
 refine ⟨_,zs.length,by simp,by simp,by unfold maxLen; omega,by simp [Rg.big]; omega,fun _=>⟨w.heap.size,0,rfl,by simp,fun i hi=>?_⟩⟩;rw [Nat.zero_add,Rg.cellNew];simp only [List.getElem?_toArray];exact List.getElem?_eq_getElem hi
theorem rowsF_new (t:TypeId) (us:List Value) (ll:List (List Int)) (hl:us.length=ll.length) (h1:us.length≤1000) (h:∀ i (h:i<us.length) (h2:i<ll.length),Rg.Ints w us[i] ll[i]∧Rg.Fresh B us[i]) (hB:B≤w.heap.size) :
  RowsF B (w.alloc (.cells us.toArray t)) (.slice (some ⟨w.heap.size,0,none⟩) us.length us.length) ll:=by
 refine ⟨us,⟨_,us.length,rfl,Nat.le_refl _,by unfold maxLen; omega,by simp [Rg.big]; omega,fun _=>⟨w.heap.size,0,rfl,by simp,fun i hi=>?_⟩⟩,(Rg.Fresh.mk _ _ _ _).mono hB,hl,fun i a b=>⟨(h i a b).1.below ((Below.refl _ _).alloc (Nat.le_refl _) _),(h i a b).2⟩⟩;rw [Nat.zero_add,Rg.cellNew];simp only [List.getElem?_toArray];exact List.getElem?_eq_getElem hi
theorem szInt:(Tryz.prog.info? 3).map (·.size)=some 1:=by kernel_rfl
theorem zInt:((Tryz.prog.info? 3).bind (·.zero)).isSome=true:=by kernel_rfl
theorem exec_fn0 {o:Oper} {a:Act} (F:FuncId) (tys:Array TypeId) (ho:o.op=.call { callee:=.value (.func F),args:=#[],argTypes:=tys })
  (hF:(callFunc F #[]).run Tryz.prog w=.ok (.enter F #[]) w):(execOp a.eval o).run Tryz.prog w=.ok (.enter F #[]) w:=by
 unfold execOp;have hf:a.eval (.func F)=.func (.func F) #[] #[]:=rfl;simp [ho,hf,resolve,invoke,Deferred.ofValue,hF]
theorem exec_fn3 {o:Oper} {a:Act} (F:FuncId) (x y z:Operand) (tys:Array TypeId) (ho:o.op=.call { callee:=.value (.func F),args:=#[x,y,z],argTypes:=tys }) (hx:a.eval x=u1) (hy:a.eval y=u2) (hz:a.eval z=u3)
  (hF:(callFunc F #[u1,u2,u3]).run Tryz.prog w=.ok (.enter F #[u1,u2,u3]) w):(execOp a.eval o).run Tryz.prog w=.ok (.enter F #[u1,u2,u3]) w:=by
 unfold execOp;have hf:a.eval (.func F)=.func (.func F) #[] #[]:=rfl;simp [ho,hx,hy,hz,hf,resolve,invoke,Deferred.ofValue,hF]
theorem exec_pickT {o:Oper} {a:Act} (x y z:Operand) (ho:o.op=.pick x y z) (hx:a.eval x=.bool true) (hy:a.eval y=v):(execOp a.eval o).run Tryz.prog w=.ok (.value v) w:=by
 unfold execOp;simp [ho,hx,hy,asBool]
theorem exec_fn1 {o:Oper} {a:Act} (F:FuncId) (x:Operand) (tys:Array TypeId) (ho:o.op=.call { callee:=.value (.func F),args:=#[x],argTypes:=tys }) (hx:a.eval x=u1)
  (hF:(callFunc F #[u1]).run Tryz.prog w=.ok (.enter F #[u1]) w):(execOp a.eval o).run Tryz.prog w=.ok (.enter F #[u1]) w:=by
 unfold execOp;have hf:a.eval (.func F)=.func (.func F) #[] #[]:=rfl;simp [ho,hx,hf,resolve,invoke,Deferred.ofValue,hF]
theorem exec_buildG1 {o:Oper} {a:Act} (x:Operand) (ho:o.op=.build 24 #[(0,x)]) (hx:a.eval x=.int .i64 d) :
  (execOp a.eval o).run Tryz.prog w=.ok (.value (.agg #[.int .i64 d,.slice none 0 0])) w:=by
 unfold execOp;simp only [ho,Sem.run_bind,Sem.run_pure];simp only [List.map_toArray,List.map_cons,List.map_nil,hx]
 have h:(Instr.build 24 #[(0,.int .i64 d)]).run Tryz.prog w=.ok (.agg #[.int .i64 d,.slice none 0 0]) w:=by kernel_rfl
 first | (rw [h]; rfl) | (erw [h]; rfl)
theorem exec_fieldG {o:Oper} {a:Act} {b:Nat} (x:Operand) (ho:o.op=.fieldAddr 24 x 1) (hx:a.eval x=.pointer (some ⟨b,0,none⟩)) :
  (execOp a.eval o).run Tryz.prog w=.ok (.value (.pointer (some ⟨b,1,none⟩))) w:=by
 have h:(Instr.fieldAt 24 (.pointer (some ⟨b,0,none⟩)) 1).run Tryz.prog w=.ok (.pointer (some ⟨b,1,none⟩)) w:=by kernel_rfl
 unfold execOp;simp only [ho,hx,Sem.run_bind,Sem.run_pure,h,Result.andThen_ok]
theorem listW_run {P:Program} {ops:Array Oper} {rest:List Oper} {o:Oper} {a:Act} {Q:Exit→Act→World→Prop} (d:Option Tmp) (hw:Region.wanted o (yielded ops a.tmps)=true) (hd:o.dst=d)
  (hr:(execOp a.eval o).run P w=.ok (.value v) w') (h:wpList P ops Q rest (a.put d v) w'):wpList P ops Q (o :: rest) a w:=by
 subst hd;unfold wpList;rw [if_pos hw]
 left
 unfold Oper.wp;rw [hr];exact h
theorem listW_ask {P:Program} {ops:Array Oper} {rest:List Oper} {o:Oper} {a:Act} {Q:Exit→Act→World→Prop} (d:Option Tmp) (hw:Region.wanted o (yielded ops a.tmps)=true) (hd:o.dst=d) (f:FuncId) (args:Array Value)
  (hr:(execOp a.eval o).run P w=.ok (.enter f args) w) (hc:Calls P f args w fun e w'=>∃ v,e=.returned v∧wpList P ops Q rest (a.put d v) w'):wpList P ops Q (o :: rest) a w:=by
 subst hd;unfold wpList;rw [if_pos hw]
 left
 unfold Oper.wp;rw [hr,Oper.upon_enter];refine hc.mono fun e w' ⟨v,h1,h2⟩=>?_;subst h1;exact h2
theorem exec_eqI {o:Oper} {a:Act} {u v:Int} (x y:Operand) (ho:o.op=.binOp .eql 31 x y 31) (hx:a.eval x=.int .i64 u) (hy:a.eval y=.int .i64 v) (h:u=v):(execOp a.eval o).run Tryz.prog w=.ok (.value (.bool true)) w:=by
 subst h
 have h:(binOp .eql 31 (.int .i64 u) (.int .i64 u)).run Tryz.prog w=.ok (.bool true) w:=by
  simp [binOp,Op.intCmp]
 have hg:(eqGuard .eql 31 x y (.int .i64 u) (.int .i64 u)).run Tryz.prog w=.ok () w:=by
  simp [eqGuard]
 unfold execOp;simp only [ho,hx,hy,Sem.run_bind,Sem.run_pure,hg,h,Result.andThen_ok]
theorem exec_neg {o:Oper} {a:Act} {u r:Int} (x:Operand) (ho:o.op=.unOp .neg 3 x) (hx:a.eval x=.int .i64 u) (h:-u=r) (hb:-9223372036854775808≤r∧r≤9223372036854775807):(execOp a.eval o).run Tryz.prog w=.ok (.value (.int .i64 r)) w:=by
 have h1:(Op.unary .neg (.int .i64 u)).run Tryz.prog w=.ok (.int .i64 r) w:=by
  simp [Op.unary,Op.intArith,h,IntWalk.i64_in r hb]
 unfold execOp;simp only [ho,hx,Sem.run_bind,Sem.run_pure,h1,Result.andThen_ok]
theorem exec_bin {o:Oper} {a:Act} {u v:Int} {R:Value} (op:BinOp) (t:TypeId) (x y:Operand) (ho:o.op=.binOp op t x y t) (hx:a.eval x=.int .i64 u) (hy:a.eval y=.int .i64 v) (h1:(binOp op t (.int .i64 u) (.int .i64 v)).run Tryz.prog w=.ok R w):(execOp a.eval o).run Tryz.prog w=.ok (.value R) w:=by
 have hg:(eqGuard op t x y (.int .i64 u) (.int .i64 v)).run Tryz.prog w=.ok () w:=by
  simp [eqGuard]
 unfold execOp;simp only [ho,hx,hy,Sem.run_bind,Sem.run_pure,hg,h1,Result.andThen_ok]
theorem b_mul {u v r:Int} (t:TypeId) (h:u*v=r) (hb:-9223372036854775808≤r∧r≤9223372036854775807):(binOp .mul t (.int .i64 u) (.int .i64 v)).run Tryz.prog w=.ok (.int .i64 r) w:=by
 simp [binOp,Op.intArith,h,IntWalk.i64_in r hb]
theorem b_add {u v r:Int} (t:TypeId) (h:u+v=r) (hb:-9223372036854775808≤r∧r≤9223372036854775807):(binOp .add t (.int .i64 u) (.int .i64 v)).run Tryz.prog w=.ok (.int .i64 r) w:=by
 simp [binOp,Op.intArith,h,IntWalk.i64_in r hb]
theorem b_sub {u v r:Int} (t:TypeId) (h:u - v=r) (hb:-9223372036854775808≤r∧r≤9223372036854775807):(binOp .sub t (.int .i64 u) (.int .i64 v)).run Tryz.prog w=.ok (.int .i64 r) w:=by
 simp [binOp,Op.intArith,h,IntWalk.i64_in r hb]
theorem b_quo {u v r:Int} (t:TypeId) (hv:v≠0) (h:u.tdiv v=r) (hb:-9223372036854775808≤r∧r≤9223372036854775807):(binOp .quo t (.int .i64 u) (.int .i64 v)).run Tryz.prog w=.ok (.int .i64 r) w:=by
 simp [binOp,Op.intDiv,hv,h,IntWalk.i64_in r hb]
theorem b_eql {u v:Int} {b:Bool} (t:TypeId) (h:decide (u=v)=b):(binOp .eql t (.int .i64 u) (.int .i64 v)).run Tryz.prog w=.ok (.bool b) w:=by
 subst h;simp [binOp,Op.intCmp];rfl
theorem b_gtr {u v:Int} {b:Bool} (t:TypeId) (h:decide (v<u)=b):(binOp .gtr t (.int .i64 u) (.int .i64 v)).run Tryz.prog w=.ok (.bool b) w:=by
 subst h;simp [binOp,Op.intCmp]
theorem exec_not {o:Oper} {a:Act} (x:Operand) (t:TypeId) (b:Bool) (ho:o.op=.unOp .not t x) (hx:a.eval x=.bool b):(execOp a.eval o).run Tryz.prog w=.ok (.value (.bool !b)) w:=by
 have h1:(Op.unary .not (.bool b)).run Tryz.prog w=.ok (.bool !b) w:=by
  simp [Op.unary]
 unfold execOp;simp only [ho,hx,Sem.run_bind,Sem.run_pure,h1,Result.andThen_ok]
theorem exec_pickF {o:Oper} {a:Act} (x y z:Operand) (ho:o.op=.pick x y z) (hx:a.eval x=.bool false) (hz:a.eval z=v):(execOp a.eval o).run Tryz.prog w=.ok (.value v) w:=by
 unfold execOp;simp [ho,hx,hz,asBool]
theorem exec_len {o:Oper} {a:Act} (e:TypeId) (x:Operand) (t:TypeId) (ho:o.op=.call { callee:=.builtin .len,args:=#[x],argTypes:=#[t] }) (ht:Tryz.prog.underlying t=some (.slice e)) (ad:Option Addr) (n c:Nat) (hx:a.eval x=.slice ad n c):(execOp a.eval o).run Tryz.prog w=.ok (.value (.int .i64 (n:Int))) w:=by
 have hw:goInt (n:Int)=.int .i64 (n:Int):=rfl;unfold execOp;simp [ho,hx,resolve,invoke,builtin,Builtin.len_,run_underlying ht,Result.andThen,hw]
theorem listW_pass {P:Program} {ops:Array Oper} {rest:List Oper} {o:Oper} {a:Act} {Q:Exit→Act→World→Prop} (d:Option Tmp) (hw:Region.wanted o (yielded ops a.tmps)=false) (hd:o.dst=d)
  (h:wpList P ops Q rest (a.put d undef) w):wpList P ops Q (o :: rest) a w:=by
 subst hd;unfold wpList;rw [if_neg (by rw [hw]; decide)];exact h
theorem spot_none {a:Addr} (h:w.cell? a=some v):a.spot=none:=by
 unfold World.cell? at h
 split at h
 ·split at h
  ·cases h
  ·rename_i hs; simpa using hs
 ·cases h
theorem add_none {a:Addr} {b o:Nat} (h:a=⟨b,o,none⟩) (i:Nat):a.add i=⟨b,o+i,none⟩:=by
 subst h;unfold Addr.add
 split
 ·rename_i h0; subst h0; rfl
 ·rfl
theorem cells3:Tryz.prog.cellsOf 3=1:=by kernel_rfl
theorem lt_of_cell {a:Addr} (h:w.cell? a=some v):a.block<w.heap.size:=by
 unfold World.cell? at h
 split at h
 ·rename_i hh; exact (Array.getElem?_eq_some_iff.1 hh).1
 ·cases h
end Go.Proofs.YtdnmmibchbceeaaGreat

namespace Go.Proofs.Rg
open Go.RowKit
theorem lW {P : Program} {ops : Array Oper} {rest : List Oper} {o : Oper} {a : Act} {Q : Exit → Act → World → Prop} (d : Nat) (hr : (execOp a.eval o).run P w = .ok (.value v) w') (h : wpList P ops Q rest (a.put (some d) v) w') (hw : Region.wanted o (yielded ops a.tmps) = true := by exact rfl) (hd : o.dst = some d := by exact rfl) : wpList P ops Q (o :: rest) a w := Go.Proofs.YtdnmmibchbceeaaGreat.listW_run (some d) hw hd hr h
theorem lk {P : Program} {ops : Array Oper} {rest : List Oper} {o : Oper} {a : Act} {Q : Exit → Act → World → Prop} (d : Nat) {f : FuncId} {args : Array Value} (hr : (execOp a.eval o).run P w = .ok (.enter f args) w) (hc : Calls P f args w fun e w' => ∃ v, e = .returned v ∧ wpList P ops Q rest (a.put (some d) v) w') (hg : o.guard = none := by exact rfl) (hd : o.dst = some d := by exact rfl) : wpList P ops Q (o :: rest) a w := Go.Proofs.YtdnmmibchbceeaaGreat.list_ask (some d) hg hd f args hr hc
theorem dT {p : Prop} [Decidable p] (h : p := by omega) : decide p = true := decide_eq_true h
theorem dF {p : Prop} [Decidable p] (h : ¬ p := by omega) : decide p = false := decide_eq_false h
end Go.Proofs.Rg

namespace Go.Proofs.Rg
open Go.RowKit Go.Proofs.YtdnmmibchbceeaaGreat
theorem lp {P : Program} {ops : Array Oper} {rest : List Oper} {o : Oper} {a : Act} {Q : Exit → Act → World → Prop} (d : Nat) (h : wpList P ops Q rest (a.put (some d) undef) w) (hw : Region.wanted o (yielded ops a.tmps) = false := by kernel_rfl) (hd : o.dst = some d := by exact rfl) : wpList P ops Q (o :: rest) a w := listW_pass (some d) hw hd h
theorem lo (v : Value) (p : Addr) {P : Program} {o : Oper} {a : Act} {t : TypeId} {x : Operand} (hr : (loadVar t p).run P w = .ok v w) (ho : o.op = .load t x := by exact rfl) (hx : a.eval x = .pointer (some p) := by exact rfl) : (execOp a.eval o).run P w = .ok (.value v) w := exec_load (v := v) t x ho p hx hr
theorem bn (R : Value) (op : BinOp) {o : Oper} {a : Act} {u v : Int} {t : TypeId} {x y : Operand} (ho : o.op = .binOp op t x y t := by exact rfl) (hx : a.eval x = .int .i64 u := by exact rfl) (hy : a.eval y = .int .i64 v := by exact rfl) (h : (binOp op t (.int .i64 u) (.int .i64 v)).run Tryz.prog w = .ok R w) : (execOp a.eval o).run Tryz.prog w = .ok (.value R) w := exec_bin op t x y ho hx hy h
theorem ln {o : Oper} {a : Act} {e : TypeId} {x : Operand} {t : TypeId} (ht : Tryz.prog.underlying t = some (.slice e)) {ad : Option Addr} {c:Nat} (ho : o.op = .call { callee := .builtin .len, args := #[x], argTypes := #[t] } := by exact rfl) (hx : a.eval x = .slice ad n c := by exact rfl) : (execOp a.eval o).run Tryz.prog w = .ok (.value (.int .i64 (n : Int))) w := exec_len e x t ho ht ad n c hx
theorem pF (v : Value) {o : Oper} {a : Act} {x y z : Operand} (ho : o.op = .pick x y z := by exact rfl) (hx : a.eval x = .bool false := by exact rfl) (hz : a.eval z = v := by exact rfl) : (execOp a.eval o).run Tryz.prog w = .ok (.value v) w := exec_pickF x y z ho hx hz
theorem pT (v : Value) {o : Oper} {a : Act} {x y z : Operand} (ho : o.op = .pick x y z := by exact rfl) (hx : a.eval x = .bool true := by exact rfl) (hy : a.eval y = v := by exact rfl) : (execOp a.eval o).run Tryz.prog w = .ok (.value v) w := exec_pickT x y z ho hx hy
theorem ex (v : Value) {o : Oper} {a : Act} {x : Operand} {i : Nat} {vs : Array Value} (ho : o.op = .extract x i := by exact rfl) (hx : a.eval x = .tuple vs := by exact rfl) (hv : vs[i]? = some v := by exact rfl) : (execOp a.eval o).run Tryz.prog w = .ok (.value v) w := exec_extract x i ho hx hv
theorem tT {P : Program} {md : Region.Mode} {ops : Array Oper} {Q : Exit → Act → World → Prop} {T T2 : World → Prop} {oi : Oper} {l : Array Bool} {a : Act} (i t : Nat) (v : Value) (d : Nat) (hi : ops[i]? = some oi) (hd : oi.dst = some d) (hy : YieldsIf P ops T oi v a) (hS : Both t T T2 l w) (h : Any P md ops Q (Both t T T2) n (l.setIfInBounds i true) (a.put (some d) v) w)
    (hs : Region.noSelect ops = true := by kernel_rfl) (hf : Region.free md ops l i = true := by kernel_rfl) (hr : (Region.ready md ops l).contains i = true := by kernel_rfl) (hQ : ∀ c a w, Q (.panic c) (a.put (some d) v) w → Q (.panic c) a w := by exact fun _ _ _ h => h) (hti : (t == i) = false := by exact rfl) (hw : Region.waitsFor md ops t i = true := by kernel_rfl) (hl : l.getD t false = false := by exact rfl) : Any P md ops Q (Both t T T2) (n + 1) l a w := Any.takeT (some d) hi hd hs hf hr hQ hti hw hl hy hS h
theorem aR {P : Program} {md : Region.Mode} {ops : Array Oper} {Q : Exit → Act → World → Prop} {S : Array Bool → World → Prop} {oi : Oper} {l : Array Bool} {a : Act} (i d : Nat) (hi : ops[i]? = some oi) (hd : oi.dst = some d) (hr : (execOp a.eval oi).run P w = .ok (.value v) w') (hS : S (l.setIfInBounds i true) w') (h : Any P md ops Q S n (l.setIfInBounds i true) (a.put (some d) v) w') (hw : Region.wanted oi (yielded ops a.tmps) = true := by exact rfl) (hre : Region.ready md ops l = [i] := by kernel_rfl) : Any P md ops Q S (n + 1) l a w := Any.one hre (Any.run (some d) hi hd hw hr hS h)
theorem yc (ad : Addr) {P : Program} {ops : Array Oper} {o : Oper} {a : Act} {T : World → Prop} {t : TypeId} {x : Operand} (hr : ∀ w, T w → (loadVar t ad).run P w = .ok v w) (hg : Region.wanted o (yielded ops a.tmps) = true := by exact rfl) (ho : o.op = .load t x := by exact rfl) (hx : a.eval x = .pointer (some ad) := by exact rfl) : YieldsIf P ops T o v a := yields_cell t x hg ho ad hx hr
end Go.Proofs.Rg

namespace Go.Proofs.Ob
abbrev En:=Nat × Int × Nat × List Nat
def pts (T:List En):List Nat:=T.map (·.1)
def img (gs:List (List Nat)) (s x:Nat):Nat:=(gs.getD s []).getD x 0
def putG (gs:List (List Nat)) (e:En) (T:List En) (s:Nat):List En :=
 if img gs s e.1∈pts T then T else T++[(img gs s e.1,(e.1:Int),s+1,e.2.2.2++[s+1])]
def innG (gs:List (List Nat)) (e:En) (T:List En) (n:Nat):List En:=(List.range n).foldl (putG gs e) T
def trI (gs:List (List Nat)) (p:Nat):Nat→List En
 | 0=>[(p,-1,0,[])]
 | k+1=>match (trI gs p k)[k]? with
  | some e=>innG gs e (trI gs p k) gs.length
  | none=>trI gs p k
def tree (gs:List (List Nat)) (D p:Nat):List En:=trI gs p D
theorem len_pts (T:List En):(pts T).length=T.length:=by simp [pts]
theorem get_pts (T:List En) (i:Nat) (h:i<(pts T).length):(pts T)[i]=(T[i]'(by rw [← len_pts]; exact h)).1:=by simp [pts]
theorem putG_in {e:En} {T:List En} {s:Nat} (h:img gs s e.1∈pts T):putG gs e T s=T:=by unfold putG; rw [if_pos h]
theorem putG_out {e:En} {T:List En} {s:Nat} (h:img gs s e.1∉pts T):putG gs e T s=T++[(img gs s e.1,(e.1:Int),s+1,e.2.2.2++[s+1])]:=by unfold putG; rw [if_neg h]
def Cl (D:Nat) (gs:List (List Nat)):Prop:=∀ s,s<gs.length→∀ x,x<D→img gs s x<D
def wd (T:List En) (q:Nat):List Nat:=((T.find? fun e=>e.1 == q).map (·.2.2.2)).getD []
theorem find_at {T:List En} (h:(pts T).Nodup) {i:Nat} (hi:i<T.length):T.find? (fun e=>e.1 == T[i].1)=some T[i]:=by
 rw [List.find?_eq_some_iff_getElem];refine ⟨by simp,i,hi,rfl,fun j hj=>?_⟩;simp only [Bool.not_eq_true',beq_eq_false_iff_ne];intro e;have h1:=get_pts T i (by rw [len_pts]; exact hi);have h2:=get_pts T j (by rw [len_pts]; omega);have:=(List.getElem_inj h).1 (h2.trans (e.trans h1.symm));omega
theorem wd_at {T:List En} (h:(pts T).Nodup) {i:Nat} (hi:i<T.length):wd T T[i].1=T[i].2.2.2:=by
 unfold wd; rw [find_at h hi]; rfl

def insA:List Int→Int→List Int
 | [],x=>[x]
 | a :: r,x=>if a<x then a :: insA r x else x :: a :: r
def asc (l:List Int):List Int:=l.foldl insA []
def leI (x y:Int):Bool:=decide (x≤y)
theorem insA_perm:∀ (out:List Int) (x:Int),(insA out x).Perm (x :: out)
 | [],x=>List.Perm.refl _
 | a :: r,x=>by
  show (if a<x then a :: insA r x else x :: a :: r).Perm _
  split
  ·exact ((insA_perm r x).cons a).trans (List.Perm.swap x a r)
  ·exact List.Perm.refl _
theorem insA_sorted:∀ (out:List Int) (x:Int),out.Pairwise (·≤·)→(insA out x).Pairwise (·≤·)
 | [],x,_=>by simp [insA]
 | a :: r,x,h=>by
  rw [List.pairwise_cons] at h;show (if a<x then a :: insA r x else x :: a :: r).Pairwise _
  split
  ·rename_i hax
   rw [List.pairwise_cons];refine ⟨fun y hy=>?_,insA_sorted r x h.2⟩
   rcases List.mem_cons.1 ((insA_perm r x).mem_iff.1 hy) with rfl | hy
   ·omega
   ·exact h.1 y hy
  ·rename_i hax
   rw [List.pairwise_cons,List.pairwise_cons];refine ⟨fun y hy=>?_,h.1,h.2⟩
   rcases List.mem_cons.1 hy with rfl | hy
   ·omega
   ·have:=h.1 y hy; omega
theorem asc_fold:∀ (l out:List Int),out.Pairwise (·≤·)→(l.foldl insA out).Perm (l++out)∧(l.foldl insA out).Pairwise (·≤·)
 | [],out,h=>⟨List.Perm.refl _,h⟩
 | x :: l,out,h=>by
  obtain ⟨h1,h2⟩:=asc_fold l (insA out x) (insA_sorted out x h);refine ⟨h1.trans ?_,h2⟩;exact ((insA_perm out x).append_left l).trans (List.perm_middle)
theorem sorted_uniq:∀ {l l':List Int},l.Perm l'→l.Pairwise (·≤·)→l'.Pairwise (·≤·)→l=l'
 | [],l',h,_,_=>(List.nil_perm.1 h).symm▸rfl
 | a :: r,[],h,_,_=>by simp at h
 | a :: r,b :: r',h,h1,h2=>by
  rw [List.pairwise_cons] at h1 h2
  have e1:a≤b:=by
   rcases List.mem_cons.1 (h.mem_iff.2 (List.mem_cons_self ..):b∈a :: r) with e | hb
   ·omega
   ·exact h1.1 b hb
  have e2:b≤a:=by
   rcases List.mem_cons.1 (h.mem_iff.1 (List.mem_cons_self ..):a∈b :: r') with e | hb
   ·omega
   ·exact h2.1 a hb
  obtain rfl:a=b:=by omega
  rw [sorted_uniq ((List.perm_cons a).1 h) h1.2 h2.2]
theorem asc_sort (l:List Int):asc l=l.mergeSort leI:=by
 obtain ⟨h1,h2⟩:=asc_fold l [] List.Pairwise.nil;rw [List.append_nil] at h1;refine sorted_uniq (h1.trans (List.mergeSort_perm l leI).symm) h2 ?_;have:=List.pairwise_mergeSort (le:=leI) (fun a b c h h'=>by unfold leI at *; rw [decide_eq_true_iff] at *; omega) (fun a b=>by unfold leI; simp; omega) l;exact this.imp (fun h=>of_decide_eq_true h)
end Go.Proofs.Ob

namespace Go.Proofs.YtdnmmibchbceeaaGreat
open Go.RowKit
open Go.Proofs
attribute [local irreducible] Go.Calls
def GPost (d:Int) (ll:List (List Int)) (w:World) (e:Ending) (w':World):Prop :=
 ∃ a n c,e=.returned (.agg #[.int .i64 d,.slice a n c])∧RowsF w.heap.size w' (.slice a n c) ll∧Below w.heap.size w w'
end Go.Proofs.YtdnmmibchbceeaaGreat

namespace Go.Proofs.YtdnmmibchbceeaaGreat
open Go.RowKit
open Go.Proofs
open Go.Proofs.Ob
attribute [local irreducible] Go.Calls
theorem exec_nil {o:Oper} {a:Act} {ad:Addr} (x:Operand) (ho:o.op=.nilCheck x) (hx:a.eval x=.pointer (some ad)):(execOp a.eval o).run Tryz.prog w=.ok (.value (.pointer (some ad))) w:=by
 unfold execOp;simp only [ho,hx,Sem.run_pure]
theorem exec_field {o:Oper} {a:Act} {t:TypeId} {i:Nat} {r:Value} (x:Operand) (ho:o.op=.fieldAddr t x i) (hx:a.eval x=v) (h:(Instr.fieldAt t v i).run Tryz.prog w=.ok r w):(execOp a.eval o).run Tryz.prog w=.ok (.value r) w:=by
 unfold execOp;simp only [ho,hx,Sem.run_bind,Sem.run_pure,h,Result.andThen_ok]
theorem exec_indexArr {o:Oper} {a:Act} {t e:TypeId} (x y:Operand) (ho:o.op=.indexAddr t x y) (hu:Tryz.prog.underlying t=some (.array n e)) (hsz:(Tryz.prog.info? e).map (·.size)=some 1) (b of i:Nat) (hx:a.eval x=.pointer (some ⟨b,of,none⟩)) (hy:a.eval y=.int .i64 (i:Int)) (hi:i<n) :
  (execOp a.eval o).run Tryz.prog w=.ok (.value (.pointer (some ⟨b,of+i,none⟩))) w:=by
 obtain ⟨ie,hie,hs⟩:=Option.map_eq_some_iff.1 hsz;have h1:(0:Int)≤(i:Int)∧(i:Int)<(n:Int):=⟨by omega,by omega⟩
 have hr:(Instr.indexAt t (.pointer (some ⟨b,of,none⟩)) (.int .i64 (i:Int))).run Tryz.prog w=.ok (.pointer (some ⟨b,of+i,none⟩)) w:=by
  simp [Instr.indexAt,asIntOf,run_underlying hu,sizeOf,typeInfo,hie,hs,h1,Addr.add,Instr.sureAddr]
  first | done | rfl | (rw [if_pos hi]; split <;> simp_all)
 unfold execOp;simp only [ho,hx,hy,Sem.run_bind,Sem.run_pure,hr,Result.andThen_ok]

theorem run_build1i (X:World) (x:Int):(Instr.buildSlice 25 1 #[(0,.int .i64 x)]).run Tryz.prog X=.ok (.slice (some ⟨X.heap.size,0,none⟩) 1 1) (X.alloc (.cells #[.int .i64 x] 3)):=by
 obtain ⟨i0,hi,hz0,hz1,hz2⟩:=info_parts intsInfo;refine run_buildSlice X 25 3 1 _ _ i0 _ Tryz.underlying25 hi hz0 (by rw [hz1]; decide) (by rw [hz1]; decide) ?_;generalize (fun x=>((Value.int IntKind.i64 0).cells)[x % (Value.int IntKind.i64 0).cells.size]!)=f;rw [hz1];have h1:Array.range (1*1)=#[0]:=rfl;simp [Instr.fill,Value.cells,h1]
theorem run_storeInt {b o:Nat} (v:Int) (h:w.cell? ⟨b,o,none⟩=some u) (hf:w.frozen? ⟨b,o,none⟩=false) :
  (storeVar 3 ⟨b,o,none⟩ (.int .i64 v)).run Tryz.prog w=.ok () (w.setCell ⟨b,o,none⟩ (.int .i64 v)):=by
 obtain ⟨i0,hi,hz0,hz1,hz2⟩:=info_parts intsInfo
 have h0:(⟨b,o,none⟩:Addr).add 0=⟨b,o,none⟩:=by simp [Addr.add]
 simp [storeVar,sizeOf,typeInfo,hi,hz1,Value.cells,storeCells,store,h0];simp [Sem.run,h,hf]

theorem app_run {P:Program} {t e:TypeId} (T:Rg.SlT P t e z bytes) (ty:TypeId) {xs:List Value} (hown:X.ownsRow B e 1 v n xs) (hX:B≤X.heap.size) (p c:Nat)
  (hu:X.cell? ⟨p,0,none⟩=some u) (h1:u.oneCell'=true) (hn:n<1000000) :
  ∃ v' X',(Builtin.append_ #[t,t] ty #[v,.slice (some ⟨p,0,none⟩) 1 c]).run P X=.ok v' X'∧X'.ownsRow B e 1 v' (n+1) (xs++[u])∧X.grownBy X' v.ownBlock∧(v'.ownBlock=v.ownBlock∨v'.ownBlock=some X.heap.size)∧∃ a c,v'=.slice a (n+1) c:=by
 obtain ⟨i0,hi,hz0,hz1,hz2⟩:=info_parts T.info
 obtain ⟨v',w',hr,h2,h3,h4,h5⟩:=run_append_own_at (P:=P) X B t ty e i0 z 1 bytes T.ty hi hz0 hz1 hz2 T.zc (by decide) v n xs hown ⟨p,0,none⟩ 1 c [u] rfl (fun j x hj=>by
  obtain rfl:j=0:=by have:=(List.getElem?_eq_some_iff.1 hj).1; simpa using this
  simp at hj; subst hj
  rw [show (⟨p,0,none⟩:Addr).add 0=⟨p,0,none⟩ from rfl]; exact hu) (by simpa using h1) (by unfold maxLen; omega) (by have:(n+1)*bytes≤1000000*64:=Nat.mul_le_mul (by omega) T.small; omega) hX
 exact ⟨v',w',hr,h2,h3,h5,Rg.row_shape h2⟩
theorem exec_indexS {o:Oper} {a:Act} {t e:TypeId} (T:Rg.SlT Tryz.prog t e z bytes) (x y:Operand) (ho:o.op=.indexAddr t x y) (b of len cap i:Nat) (hx:a.eval x=.slice (some ⟨b,of,none⟩) len cap) (hy:a.eval y=.int .i64 (i:Int)) (hi:i<len) :
  (execOp a.eval o).run Tryz.prog w=.ok (.value (.pointer (some ⟨b,of+i,none⟩))) w:=by
 have:=Rg.run_indexSl T w b of len cap i hi;unfold execOp;simp only [ho,hx,hy,Sem.run_bind,Sem.run_pure,Result.andThen_ok,this]
theorem szI:(Tryz.prog.info? 3).map (·.size)=some 1:=by kernel_rfl

def GG (d:Nat) (gs:List (List Nat)):Prop:=∀ s∈gs,Ma.okN s∧s.length=d
theorem getD_at {s:Nat} (hs:s<gs.length):gs.getD s []=gs[s]:=by
 rw [List.getD_eq_getElem?_getD,List.getElem?_eq_getElem hs,Option.getD_some]
theorem img_get {s x:Nat} (hs:s<gs.length) (hx:x<gs[s].length):img gs s x=gs[s][x]:=by
 unfold img;rw [getD_at hs,Ma.getD_lt hx]
theorem GG.cl (h:GG D gs):Cl D gs:=fun s hs x hx=>by
 obtain ⟨h1,h2⟩:=h _ (List.getElem_mem hs);rw [img_get hs (by omega)];have:=h1.1 _ (List.getElem_mem (show x<gs[s].length by omega));omega
theorem mix:Tryz.prog.follows .mixedOrders=true:=by kernel_rfl

theorem slWord:Rg.SlT Tryz.prog 26 3 (.int .i64 0) 8:=⟨Tryz.underlying26,infoInt,rfl,by decide⟩

theorem gchk_ok {ll:List (List Int)} (h:Ma.gchk d ll=0):∃ (D:Nat) (gs:List (List Nat)),d=D∧ll=gs.map Ma.ofN∧GG D gs∧1≤D∧D≤64∧gs.length≤16:=by
 unfold Ma.gchk at h
 split at h
 ·rename_i h1
  split at h
  ·rename_i h2
   have hz:=Ma.gck_zero h;obtain ⟨D,rfl⟩:∃ D:Nat,d=D:=⟨d.toNat,by omega⟩
   have hex:∀ l∈ll,∃ p,l=Ma.ofN p∧Ma.okN p∧p.length=D:=fun l hl=>by
    obtain ⟨a,b⟩:=hz l hl;obtain ⟨_,_,c⟩:=Ma.pchk_zero a;obtain ⟨p,rfl,hp⟩:=Ma.okL_ofN c;rw [Ma.len_ofN] at b;exact ⟨p,rfl,hp,by omega⟩
   clear h hz
   have:∃ gs:List (List Nat),ll=gs.map Ma.ofN∧GG D gs:=by
    clear h2
    induction ll with
    | nil=>exact ⟨[],rfl,fun s hs=>by simp at hs⟩
    | cons l r ih =>
     obtain ⟨gs,rfl,hg⟩:=ih (fun x hx=>hex x (List.mem_cons_of_mem _ hx));obtain ⟨p,rfl,h3,h4⟩:=hex l (List.mem_cons_self ..)
     exact ⟨p :: gs,rfl,fun s hs=>by
      rcases List.mem_cons.1 hs with rfl | hs
      ·exact ⟨h3,h4⟩
      ·exact hg s hs⟩
   obtain ⟨gs,rfl,hg⟩:=this;exact ⟨D,gs,rfl,rfl,hg,by omega,by omega,by simpa using h2⟩
  ·simp at h
 ·simp at h

theorem app_run2 {P:Program} {t e:TypeId} (T:Rg.SlT P t e z bytes) (ty:TypeId) {xs:List Value} (hown:X.ownsRow B e 1 v n xs) (hX:B≤X.heap.size) (p c:Nat)
  (hu:X.cell? ⟨p,0,none⟩=some u) (h1:u.oneCell'=true) (hn:n<1000000) :
  ∃ v' X',(Builtin.append_ #[t,t] ty #[v,.slice (some ⟨p,0,none⟩) 1 c]).run P X=.ok v' X'∧X'.ownsRow B e 1 v' (n+1) (xs++[u])∧X.grownBy X' v.ownBlock∧(v'.ownBlock=v.ownBlock∨v'.ownBlock=some X.heap.size)∧(∃ a c,v'=.slice a (n+1) c) ∧
   (∀ g,v.ownBlock=some g→∀ i,i<n→X'.cell? ⟨g,i,none⟩=X.cell? ⟨g,i,none⟩):=by
 obtain ⟨v',X',r1,r2,r3,r4,r5⟩:=app_run T ty hown hX p c hu h1 hn;refine ⟨v',X',r1,r2,r3,r4,r5,fun g hg i hi=>?_⟩;obtain ⟨i0,hi0,hz0,hz1,hz2⟩:=info_parts T.info;have ho:=hown
 obtain ⟨hl,⟨rfl,_⟩ | ⟨g',cap,cur,rfl,hB,hh,hnc,hcm,hcs,ht⟩⟩:=hown
 ·simp [Value.ownBlock] at hg
 ·have hgg:g'=g:=by simpa [Value.ownBlock] using hg
  subst hgg
  by_cases hroom:n+1≤cap
  ·have hR:=run_append_room (P:=P) X t ty e i0 T.ty hi0 g' n cap cur hh ⟨p,0,none⟩ 1 c [u] (by rw [hz1]; rfl) (fun j x hj=>by
    obtain rfl:j=0:=by have:=(List.getElem?_eq_some_iff.1 hj).1; simpa using this
    simp at hj; subst hj
    rw [show (⟨p,0,none⟩:Addr).add 0=⟨p,0,none⟩ from rfl]; exact hu) (by simpa using h1) hroom (by rw [hz1,hcs]; simp; omega)
   rw [r1] at hR
   injection hR with e1 e2
   subst e1;have c1:=r2.cellAt (j:=i) (by omega);have c2:=ho.cellAt (j:=i) (by omega);rw [c1,c2,List.getElem?_append_left (by omega)]
  ·obtain rfl:n=cap:=by omega
   have hR:=Rg.full_run (P:=P) T ty g' 0 n xs (by omega) (fun j hj=>by
    have c2:=ho.cellAt (j:=j) (by omega)
    rw [Nat.zero_add,c2,List.getElem?_eq_getElem hj]) p c hu hn
   obtain ⟨v2,X2,q1,_,q3,_⟩:=hR;rw [r1] at q1
   injection q1 with e1 e2
   subst e2;exact q3.cell (p:=⟨g',i,none⟩) (Array.getElem?_eq_some_iff.1 hh).1
def ivz (l:List Int):List Value:=l.map (Value.int .i64)
theorem ivz_snoc (l:List Int) (x:Int):ivz (l++[x])=ivz l++[.int .i64 x]:=by simp [ivz]
structure T3 (B:Nat) (w:World) (v1 v2 v3:Value) (l1 l2 l3:List Int):Prop where
 o1:w.ownsRow B 3 1 v1 l1.length (ivz l1)
 o2:w.ownsRow B 3 1 v2 l2.length (ivz l2)
 o3:w.ownsRow B 3 1 v3 l3.length (ivz l3)
 a12:Rg.Apart v1 v2
 a13:Rg.Apart v1 v3
 a23:Rg.Apart v2 v3
def Tmp (w:World) (p:Nat) (x:Int) (v1 v2 v3:Value):Prop:=p<w.heap.size∧w.cell? ⟨p,0,none⟩=some (.int .i64 x)∧v1.ownBlock≠some p∧v2.ownBlock≠some p∧v3.ownBlock≠some p
theorem T3.below {v3:Value} {l3:List Int} (h:T3 B w v1 v2 v3 l1 l2 l3) (hb:Below w.heap.size w w'):T3 B w' v1 v2 v3 l1 l2 l3 :=
 ⟨Rg.row_below h.o1 hb,Rg.row_below h.o2 hb,Rg.row_below h.o3 hb,h.a12,h.a13,h.a23⟩
theorem Tmp.below {p:Nat} {x:Int} {v3:Value} (h:Tmp w p x v1 v2 v3) (hb:Below w.heap.size w w'):Tmp w' p x v1 v2 v3 :=
 ⟨Nat.lt_of_lt_of_le h.1 hb.size,(hb.cell (p:=⟨p,0,none⟩) h.1).trans h.2.1,h.2.2⟩
theorem T3.tmp {v3:Value} {l3:List Int} (h:T3 B w v1 v2 v3 l1 l2 l3) (x:Int):Tmp (w.alloc (.cells #[.int .i64 x] 3)) w.heap.size x v1 v2 v3 :=
 ⟨by simp,by rw [Rg.cellNew]; rfl,fun e=>by have:=(h.o1.lt _ e).2; omega,fun e=>by have:=(h.o2.lt _ e).2; omega,fun e=>by have:=(h.o3.lt _ e).2; omega⟩
theorem ob_new {v':Value} {s p:Nat} (h:v'.ownBlock=v.ownBlock∨v'.ownBlock=some s) (h1:v.ownBlock≠some p) (hp:p<s):v'.ownBlock≠some p:=by
 rcases h with h | h
 ·rw [h]; exact h1
 ·rw [h]; simp; omega
theorem T3.app1 {v3:Value} {l3:List Int} (h:T3 B w v1 v2 v3 l1 l2 l3) (hB:B≤w.heap.size) {p:Nat} {x:Int} (hp:Tmp w p x v1 v2 v3) (hl:l1.length<1000000) (ty:TypeId) :
  ∃ a c X,(Builtin.append_ #[25,25] ty #[v1,.slice (some ⟨p,0,none⟩) 1 1]).run Tryz.prog w=.ok (.slice a (l1.length+1) c) X∧T3 B X (.slice a (l1.length+1) c) v2 v3 (l1++[x]) l2 l3∧w.heap.size≤X.heap.size ∧
   (∀ p' x',Tmp w p' x' v1 v2 v3→Tmp X p' x' (.slice a (l1.length+1) c) v2 v3)∧(∀ g,v1.ownBlock=some g→∀ i,i<l1.length→X.cell? ⟨g,i,none⟩=w.cell? ⟨g,i,none⟩)∧(∀ {B0:Nat} {W0:World},B0≤B→Below B0 W0 w→Below B0 W0 X):=by
 obtain ⟨v',X,r1,r2,r3,r4,⟨a,c,rfl⟩,r6⟩:=app_run2 (P:=Tryz.prog) slInts ty h.o1 hB p 1 hp.2.1 rfl hl;refine ⟨a,c,X,r1,⟨by rw [ivz_snoc,List.length_append]; exact r2,h.a12.keep h.o2 r3,h.a13.keep h.o3 r3,h.a12.grow h.o2 r4 (Nat.le_refl _),h.a13.grow h.o3 r4 (Nat.le_refl _),h.a23⟩,r3.size,fun p' x' ht=>?_,r6,fun h0 hb=>hb.grown r3 (by omega) (fun j hj=>by have:=(h.o1.lt j hj).1; omega)⟩;exact ⟨Nat.lt_of_lt_of_le ht.1 r3.size,r3.cell ht.2.1 (fun e=>ht.2.2.1 e.symm),ob_new r4 ht.2.2.1 ht.1,ht.2.2.2⟩
theorem T3.app2 {v3:Value} {l3:List Int} (h:T3 B w v1 v2 v3 l1 l2 l3) (hB:B≤w.heap.size) {p:Nat} {x:Int} (hp:Tmp w p x v1 v2 v3) (hl:l2.length<1000000) (ty:TypeId) :
  ∃ a c X,(Builtin.append_ #[25,25] ty #[v2,.slice (some ⟨p,0,none⟩) 1 1]).run Tryz.prog w=.ok (.slice a (l2.length+1) c) X∧T3 B X v1 (.slice a (l2.length+1) c) v3 l1 (l2++[x]) l3∧w.heap.size≤X.heap.size ∧
   (∀ p' x',Tmp w p' x' v1 v2 v3→Tmp X p' x' v1 (.slice a (l2.length+1) c) v3)∧(∀ {B0:Nat} {W0:World},B0≤B→Below B0 W0 w→Below B0 W0 X):=by
 obtain ⟨v',X,r1,r2,r3,r4,⟨a,c,rfl⟩,r6⟩:=app_run2 (P:=Tryz.prog) slInts ty h.o2 hB p 1 hp.2.1 rfl hl;refine ⟨a,c,X,r1,⟨h.a12.symm.keep h.o1 r3,by rw [ivz_snoc,List.length_append]; exact r2,h.a23.keep h.o3 r3,(h.a12.symm.grow h.o1 r4 (Nat.le_refl _)).symm,h.a13,h.a23.grow h.o3 r4 (Nat.le_refl _)⟩,r3.size,fun p' x' ht=>?_,fun h0 hb=>hb.grown r3 (by omega) (fun j hj=>by have:=(h.o2.lt j hj).1; omega)⟩;exact ⟨Nat.lt_of_lt_of_le ht.1 r3.size,r3.cell ht.2.1 (fun e=>ht.2.2.2.1 e.symm),ht.2.2.1,ob_new r4 ht.2.2.2.1 ht.1,ht.2.2.2.2⟩

theorem run_build1w (X:World) (i:Int):(Instr.buildSlice 26 1 #[(0,.int .i64 i)]).run Tryz.prog X=.ok (.slice (some ⟨X.heap.size,0,none⟩) 1 1) (X.alloc (.cells #[.int .i64 i] 3)):=by
 obtain ⟨i0,hi,hz0,hz1,hz2⟩:=info_parts intsInfo;refine run_buildSlice X 26 3 1 _ _ i0 _ Tryz.underlying26 hi hz0 (by rw [hz1]; decide) (by rw [hz1]; decide) ?_;generalize (fun x=>((Value.int IntKind.i64 0).cells)[x % (Value.int IntKind.i64 0).cells.size]!)=f;rw [hz1];have h1:Array.range (1*1)=#[0]:=rfl;simp [Instr.fill,Value.cells,h1]

def Gd (d:Nat) (p:List Nat):Prop:=Ma.okN p∧p.length=d
theorem Gd.mul {d:Nat} {p q:List Nat} (h:Gd d p) (h':Gd d q):Gd d (Ma.mulN p q):=⟨Ma.okN_mulN h.1 h'.1 (h.2.trans h'.2.symm),by rw [Ma.len_mulN]; exact h.2⟩
theorem Gd.one (D:Nat):Gd D (Ma.oneN D):=⟨Ma.okN_oneN D,Ma.len_oneN D⟩
theorem Gd.inv (hs:Gd D s):Gd D (Ma.invN s):=⟨Ma.okN_invN hs.1,by rw [Ma.len_invN]; exact hs.2⟩
theorem Gd.lt {b:List Nat} (ha:Gd D a) (hb:Gd D b):∀ x∈a,x<b.length:=fun x hx=>by
 have:=ha.1.1 x hx; have:=ha.2; have:=hb.2; omega
theorem exec_fieldG0 {o:Oper} {a:Act} {b:Nat} (x:Operand) (ho:o.op=.fieldAddr 24 x 0) (hx:a.eval x=.pointer (some ⟨b,0,none⟩)) :
  (execOp a.eval o).run Tryz.prog w=.ok (.value (.pointer (some ⟨b,0,none⟩))) w:=by
 have h:(Instr.fieldAt 24 (.pointer (some ⟨b,0,none⟩)) 0).run Tryz.prog w=.ok (.pointer (some ⟨b,0,none⟩)) w:=by kernel_rfl
 unfold execOp;simp only [ho,hx,Sem.run_bind,Sem.run_pure,h,Result.andThen_ok]
end Go.Proofs.YtdnmmibchbceeaaGreat

namespace Go.Proofs.Cm
open Go.Proofs
def Gd (n:Nat) (p:List Nat):Prop:=Ma.okN p∧p.length=n
def ap (x:List Nat) (i:Nat):Nat:=x.getD i 0
theorem ap_at {x:List Nat} {i:Nat} (h:i<x.length):ap x i=x[i]:=by simp [ap,List.getD,List.getElem?_eq_getElem h]
theorem ap_lt {x:List Nat} (h:Gd n x) {i:Nat} (hi:i<n):ap x i<n:=by
 have hl:i<x.length:=by rw [h.2]; exact hi
 rw [ap_at hl,← h.2];exact h.1.1 _ (List.getElem_mem hl)
theorem ap_inj {x:List Nat} (h:Gd n x) {i:Nat} (hi:i<n) (hj:j<n) (e:ap x i=ap x j):i=j:=by
 have h1:i<x.length:=by rw [h.2]; exact hi
 have h2:j<x.length:=by rw [h.2]; exact hj
 rw [ap_at h1,ap_at h2] at e;exact (List.getElem_inj h.1.2).1 e
theorem gd_ext {b:List Nat} (ha:a.length=n) (hb:b.length=n) (h:∀ i,i<n→ap a i=ap b i):a=b:=by
 apply List.ext_getElem (by omega)
 intro i h1 h2;have:=h i (by omega)
 rwa [ap_at h1,ap_at h2] at this
theorem gd_one (n:Nat):Gd n (Ma.oneN n):=⟨Ma.okN_oneN n,Ma.len_oneN n⟩
theorem gd_mul {b:List Nat} (ha:Gd n a) (hb:Gd n b):Gd n (Ma.mulN a b):=⟨Ma.okN_mulN ha.1 hb.1 (ha.2.trans hb.2.symm),by rw [Ma.len_mulN]; exact ha.2⟩
theorem gd_inv (ha:Gd n a):Gd n (Ma.invN a):=⟨Ma.okN_invN ha.1,by rw [Ma.len_invN]; exact ha.2⟩
theorem ap_one {i:Nat} (h:i<n):ap (Ma.oneN n) i=i:=by
 rw [ap_at (by rw [Ma.len_oneN]; exact h),Ma.get_oneN]
theorem ap_mul {b:List Nat} (ha:Gd n a) {i:Nat} (h:i<n):ap (Ma.mulN a b) i=ap b (ap a i):=by
 have hl:i<a.length:=by rw [ha.2]; exact h
 rw [ap_at (by rw [Ma.len_mulN]; exact hl),Ma.get_mulN,ap_at hl]; rfl
theorem ap_inv (hs:Gd n s) {i:Nat} (h:i<n):ap (Ma.invN s) (ap s i)=i:=by
 have hl:i<s.length:=by rw [hs.2]; exact h
 have h2:=ap_lt hs h;rw [ap_at (x:=Ma.invN s) (by rw [Ma.len_invN,hs.2]; exact h2),Ma.get_invN,ap_at hl];exact Ma.idx_get hs.1 hl
theorem ap_inv2 (hs:Gd n s) {i:Nat} (h:i<n):ap s (ap (Ma.invN s) i)=i:=by
 have h1:=ap_lt (gd_inv hs) h;have h2:=ap_inv (gd_inv hs) h;refine ap_inj (gd_inv hs) (ap_lt hs h1) h ?_;rw [ap_inv hs h1]
theorem mul_assoc {b c:List Nat} (ha:Gd n a) (hb:Gd n b):Ma.mulN (Ma.mulN a b) c=Ma.mulN a (Ma.mulN b c):=by
 refine gd_ext (n:=n) (by rw [Ma.len_mulN,Ma.len_mulN]; exact ha.2) (by rw [Ma.len_mulN]; exact ha.2) fun i hi=>?_;rw [ap_mul (gd_mul ha hb) hi,ap_mul ha hi,ap_mul ha hi,ap_mul hb (ap_lt ha hi)]
theorem one_mul {x:List Nat} (hx:Gd n x):Ma.mulN (Ma.oneN n) x=x :=
 gd_ext (n:=n) (by rw [Ma.len_mulN,Ma.len_oneN]) hx.2 fun i hi=>by rw [ap_mul (gd_one n) hi,ap_one hi]
theorem mul_one {x:List Nat} (hx:Gd n x):Ma.mulN x (Ma.oneN n)=x :=
 gd_ext (n:=n) (by rw [Ma.len_mulN]; exact hx.2) hx.2 fun i hi=>by rw [ap_mul hx hi,ap_one (ap_lt hx hi)]
theorem mul_inv {x:List Nat} (hx:Gd n x):Ma.mulN x (Ma.invN x)=Ma.oneN n :=
 gd_ext (n:=n) (by rw [Ma.len_mulN]; exact hx.2) (Ma.len_oneN n) fun i hi=>by rw [ap_mul hx hi,ap_inv hx hi,ap_one hi]
theorem inv_mul {x:List Nat} (hx:Gd n x):Ma.mulN (Ma.invN x) x=Ma.oneN n :=
 gd_ext (n:=n) (by rw [Ma.len_mulN,Ma.len_invN]; exact hx.2) (Ma.len_oneN n) fun i hi=>by rw [ap_mul (gd_inv hx) hi,ap_inv2 hx hi,ap_one hi]
theorem inv_one (n:Nat):Ma.invN (Ma.oneN n)=Ma.oneN n:=by
 have:=mul_inv (gd_one n)
 rwa [one_mul (gd_inv (gd_one n))] at this
theorem mul_inv_cancel {x u:List Nat} (hx:Gd n x) (hu:Gd n u):Ma.mulN (Ma.mulN x (Ma.invN u)) u=x:=by
 rw [mul_assoc hx (gd_inv hu),inv_mul hu,mul_one hx]
theorem mul_cancel_inv {x u:List Nat} (hx:Gd n x) (hu:Gd n u):Ma.mulN (Ma.mulN x u) (Ma.invN u)=x:=by
 rw [mul_assoc hx hu,mul_inv hu,mul_one hx]
structure IsG (n:Nat) (H:List Nat→Prop):Prop where
 gd:∀ x,H x→Gd n x
 one:H (Ma.oneN n)
 mul:∀ x y,H x→H y→H (Ma.mulN x y)
 inv:∀ x,H x→H (Ma.invN x)
inductive Gr (n:Nat) (gs:List Nat→Prop):List Nat→Prop
 | one:Gr n gs (Ma.oneN n)
 | gen (s:List Nat) (h:gs s):Gr n gs s
 | mul (x y:List Nat) (hx:Gr n gs x) (hy:Gr n gs y):Gr n gs (Ma.mulN x y)
 | inv (x:List Nat) (hx:Gr n gs x):Gr n gs (Ma.invN x)
theorem Gr.isG {gs:List Nat→Prop} (h:∀ s,gs s→Gd n s):IsG n (Gr n gs):=by
 refine ⟨fun x hx=>?_,.one,fun x y=>.mul x y,fun x=>.inv x⟩
 induction hx with
 | one=>exact gd_one n
 | gen s hs=>exact h s hs
 | mul x y _ _ i1 i2=>exact gd_mul i1 i2
 | inv x _ i1=>exact gd_inv i1
theorem Gr.sub {gs:List Nat→Prop} (hH:IsG n H) (h:∀ s,gs s→H s) {x:List Nat} (hx:Gr n gs x):H x:=by
 induction hx with
 | one=>exact hH.one
 | gen s hs=>exact h s hs
 | mul x y _ _ i1 i2=>exact hH.mul _ _ i1 i2
 | inv x _ i1=>exact hH.inv _ i1
theorem Gr.mono {gs gs':List Nat→Prop} (h:∀ s,gs s→gs' s) {x:List Nat} (hx:Gr n gs x):Gr n gs' x:=by
 induction hx with
 | one=>exact .one
 | gen s hs=>exact .gen s (h s hs)
 | mul x y _ _ i1 i2=>exact .mul _ _ i1 i2
 | inv x _ i1=>exact .inv _ i1
def Fx (i:Nat) (x:List Nat):Prop:=∀ j,j<i→ap x j=j
theorem Fx.mono {i:Nat} {x:List Nat} (h:Fx i x) (hij:j≤i):Fx j x:=fun k hk=>h k (Nat.lt_of_lt_of_le hk hij)
theorem Fx.one {i:Nat} (hi:i≤n):Fx i (Ma.oneN n):=fun _ hj=>ap_one (Nat.lt_of_lt_of_le hj hi)
theorem Fx.mul {i:Nat} {x y:List Nat} (gx:Gd n x) (hi:i≤n) (hx:Fx i x) (hy:Fx i y):Fx i (Ma.mulN x y):=fun j hj=>by
 rw [ap_mul gx (Nat.lt_of_lt_of_le hj hi),hx j hj,hy j hj]
theorem Fx.inv {i:Nat} {x:List Nat} (gx:Gd n x) (hi:i≤n) (hx:Fx i x):Fx i (Ma.invN x):=fun j hj=>by
 have:=ap_inv gx (Nat.lt_of_lt_of_le hj hi)
 rwa [hx j hj] at this
theorem Fx.all {x:List Nat} (gx:Gd n x) (hx:Fx n x):x=Ma.oneN n :=
 gd_ext gx.2 (Ma.len_oneN n) fun i hi=>by rw [hx i hi,ap_one hi]
def St (H:List Nat→Prop) (i:Nat) (x:List Nat):Prop:=H x∧Fx i x
abbrev Tr:=Nat→Nat→Option (List Nat)
def Sd (n:Nat) (tr:Tr):Nat→List Nat→Prop
 | 0,x=>x=Ma.oneN n
 | d+1,x=>∃ u,tr (n - (d+1)) (ap x (n - (d+1)))=some u∧Sd n tr d (Ma.mulN x (Ma.invN u))
structure Rp (n lo:Nat) (tr:Tr):Prop where
 gd:∀ i p u,lo≤i→i<n→tr i p=some u→Gd n u
 fx:∀ i p u,lo≤i→i<n→tr i p=some u→Fx i u
 at_:∀ i p u,lo≤i→i<n→tr i p=some u→ap u i=p
 self:∀ i,lo≤i→i<n→tr i i=some (Ma.oneN n)
theorem Sd.fx {n lo:Nat} {tr:Tr} (hr:Rp n lo tr):∀ {d:Nat} {x:List Nat},d≤n→lo≤n - d→Gd n x→Sd n tr d x→Fx (n - d) x
 | 0,x,hd,_,gx,h=>by
  cases h
  exact Fx.one (by omega)
 | d+1,x,hd,hl,gx,⟨u,hu,h⟩=>by
  have gu:=hr.gd _ _ _ hl (by omega) hu;have h1:=Sd.fx hr (by omega) (by omega) (gd_mul gx (gd_inv gu)) h;have h2:=mul_inv_cancel gx gu;have h3:=Fx.mul (i:=n - (d+1)) (gd_mul gx (gd_inv gu)) (by omega) (h1.mono (by omega)) (hr.fx _ _ _ hl (by omega) hu)
  rwa [h2] at h3
theorem Sd.one {n lo:Nat} {tr:Tr} (hr:Rp n lo tr):∀ {d:Nat},d≤n→lo≤n - d→Sd n tr d (Ma.oneN n)
 | 0,_,_=>rfl
 | d+1,hd,hl=>⟨Ma.oneN n,by rw [ap_one (by omega)]; exact hr.self _ hl (by omega),by rw [inv_one,one_mul (gd_one n)]; exact Sd.one hr (by omega) (by omega)⟩
theorem Sd.next {lo:Nat} {tr:Tr} (hr:Rp n lo tr) {d:Nat} (hd:d+1≤n) (hl:lo≤n - (d+1)) {x:List Nat} (gx:Gd n x) (hx:ap x (n - (d+1))=n - (d+1)):Sd n tr (d+1) x↔Sd n tr d x:=by
 have e:tr (n - (d+1)) (ap x (n - (d+1)))=some (Ma.oneN n):=by rw [hx]; exact hr.self _ hl (by omega)
 constructor
 ·rintro ⟨u,hu,h⟩
  rw [e] at hu
  cases hu
  rwa [inv_one,mul_one gx] at h
 ·intro h
  exact ⟨_,e,by rw [inv_one,mul_one gx]; exact h⟩
theorem Sd.up {n lo:Nat} {tr:Tr} (hr:Rp n lo tr):∀ {k d:Nat},d+k≤n→lo≤n - (d+k)→∀ {x:List Nat},Gd n x→Fx (n - d) x→(Sd n tr (d+k) x↔Sd n tr d x)
 | 0,d,_,_,x,_,_=>Iff.rfl
 | k+1,d,h,hl,x,gx,hx=>by
  have h1:=Sd.next hr (d:=d+k) (by omega) hl gx (hx _ (by omega));exact h1.trans (Sd.up hr (by omega) (by omega) gx hx)
theorem Sd.cons {lo:Nat} {tr:Tr} (hr:Rp n lo tr) {d p:Nat} (hd:d+1≤n) (hl:lo≤n - (d+1)) {y u:List Nat} (gy:Gd n y) (hy:Sd n tr d y) (hu:tr (n - (d+1)) p=some u):Sd n tr (d+1) (Ma.mulN y u):=by
 have gu:=hr.gd _ _ _ hl (by omega) hu;have fy:=Sd.fx hr (by omega) (by omega) gy hy
 have e:ap (Ma.mulN y u) (n - (d+1))=p:=by
  rw [ap_mul gy (by omega),fy _ (by omega),hr.at_ _ _ _ hl (by omega) hu]
 exact ⟨u,by rw [e]; exact hu,by rw [mul_cancel_inv gy gu]; exact hy⟩
theorem Sd.mono {n:Nat} {tr tr':Tr}:∀ {d:Nat},(∀ i p u,n - d≤i→tr i p=some u→tr' i p=some u)→∀ {x:List Nat},Sd n tr d x→Sd n tr' d x
 | 0,_,_,e=>e
 | d+1,h,_,⟨u,hu,hs⟩=>⟨u,h _ _ _ (Nat.le_refl _) hu,Sd.mono (fun i p u hi=>h i p u (by omega)) hs⟩
structure Tow (n lo:Nat) (gn:Nat→List Nat→Prop) (tr:Tr):Prop where
 rp:Rp n lo tr
 gd:∀ i s,lo≤i→i<n→gn i s→Gd n s
 low:∀ i s,lo≤i→i+1<n→gn (i+1) s→Gr n (gn i) s
 mem:∀ i p u,lo≤i→i<n→tr i p=some u→Gr n (gn i) u
 cl:∀ i p u s,lo≤i→i<n→tr i p=some u→gn i s→∃ v,tr i (ap s p)=some v∧Sd n tr (n - (i+1)) (Ma.mulN (Ma.mulN u s) (Ma.invN v))
theorem Tow.sub {n lo:Nat} {gn:Nat→List Nat→Prop} {tr:Tr} (h:Tow n lo gn tr) {i:Nat} (hl:lo≤i):∀ {k:Nat},i+k<n→∀ {x:List Nat},Gr n (gn (i+k)) x→Gr n (gn i) x
 | 0,_,x,hx=>hx
 | k+1,hk,x,hx=>h.sub hl (k:=k) (by omega) (Gr.sub (Gr.isG (fun s hs=>h.gd _ s (by omega) (by omega) hs)) (fun s hs=>h.low (i+k) s (by omega) (by omega) hs) hx)
theorem Tow.gr {n lo:Nat} {gn:Nat→List Nat→Prop} {tr:Tr} (h:Tow n lo gn tr) {i:Nat} (hl:lo≤i) (hi:i<n):∀ {d:Nat},i+d≤n→∀ {x:List Nat},Gd n x→Sd n tr d x→n - d≥i→Gr n (gn i) x
 | 0,_,x,_,e,_=>by cases e; exact .one
 | d+1,hd,x,gx,⟨u,hu,hs⟩,hge=>by
  have gu:=h.rp.gd _ _ _ (by omega) (by omega) hu;have h1:=Tow.gr h hl hi (d:=d) (by omega) (gd_mul gx (gd_inv gu)) hs (by omega)
  have h2:Gr n (gn i) u:=by
   have:=h.mem _ _ _ (by omega) (by omega) hu;exact h.sub hl (i:=i) (k:=n - (d+1) - i) (by omega) (by rwa [show i+(n - (d+1) - i)=n - (d+1) by omega])
  have:=Gr.mul _ _ h1 h2
  rwa [mul_inv_cancel gx gu] at this
def pw (n:Nat) (s:List Nat):Nat→List Nat
 | 0=>Ma.oneN n
 | k+1=>Ma.mulN (pw n s k) s
theorem pw_gd {n:Nat} {s:List Nat} (hs:Gd n s):∀ k,Gd n (pw n s k)
 | 0=>gd_one n
 | k+1=>gd_mul (pw_gd hs k) hs
theorem pw_add {n:Nat} {s:List Nat} (hs:Gd n s) (i:Nat):∀ j,pw n s (i+j)=Ma.mulN (pw n s i) (pw n s j)
 | 0=>(mul_one (pw_gd hs i)).symm
 | j+1=>by
  show Ma.mulN (pw n s (i+j)) s=Ma.mulN (pw n s i) (Ma.mulN (pw n s j) s);rw [pw_add hs i j,mul_assoc (pw_gd hs i) (pw_gd hs j)]
def allL (n:Nat):Nat→List (List Nat)
 | 0=>[[]]
 | k+1=>(allL n k).flatMap fun l=>(List.range n).map fun x=>x :: l
theorem mem_allL {n:Nat}:∀ {l:List Nat},(∀ x∈l,x<n)→l∈allL n l.length
 | [],_=>by simp [allL]
 | x :: l,h=>by
  have h1:=mem_allL (l:=l) (fun y hy=>h y (List.mem_cons_of_mem _ hy));have h2:=h x (List.mem_cons_self ..);rw [List.length_cons,allL,List.mem_flatMap];exact ⟨l,h1,List.mem_map.2 ⟨x,List.mem_range.2 h2,rfl⟩⟩
theorem pw_mem (hs:Gd n s) (k:Nat):pw n s k∈allL n n:=by
 have h:=pw_gd hs k;have:=mem_allL (n:=n) (l:=pw n s k) (fun x hx=>by rw [← h.2]; exact h.1.1 x hx)
 rwa [h.2] at this
theorem pw_eq (hs:Gd n s):∃ i j,i<j∧pw n s i=pw n s j:=by
 by_cases h:∃ i j,i<j∧pw n s i=pw n s j
 ·exact h
 exfalso
 have hn:((List.range ((allL n n).length+1)).map (pw n s)).Nodup:=by
  rw [List.Nodup,List.pairwise_iff_getElem];intro i j hi hj hij e;simp at e;exact h ⟨i,j,hij,e⟩
 have:=List.Nodup.length_le_of_subset hn (l₂:=allL n n) (fun x hx=>by
  obtain ⟨k,_,rfl⟩:=List.mem_map.1 hx
  exact pw_mem hs k)
 simp at this;omega
theorem inv_pw (hs:Gd n s):∃ k,Ma.invN s=pw n s k:=by
 obtain ⟨i,j,hij,e⟩:=pw_eq hs;obtain ⟨k,rfl⟩:∃ k,j=i+(k+1):=⟨j - i - 1,by omega⟩;refine ⟨k,?_⟩
 have h1:pw n s (k+1)=Ma.oneN n:=by
  rw [pw_add hs] at e
  have e2:Ma.mulN (Ma.invN (pw n s i)) (pw n s i)=Ma.mulN (Ma.invN (pw n s i)) (Ma.mulN (pw n s i) (pw n s (k+1))):=by rw [← e]
  rw [inv_mul (pw_gd hs i),← mul_assoc (gd_inv (pw_gd hs i)) (pw_gd hs i),inv_mul (pw_gd hs i),one_mul (pw_gd hs (k+1))] at e2;exact e2.symm
 have h2:Ma.mulN (Ma.mulN (pw n s k) s) (Ma.invN s)=Ma.mulN (Ma.oneN n) (Ma.invN s):=by rw [← h1]; rfl
 rw [mul_cancel_inv (pw_gd hs k) hs,one_mul (gd_inv hs)] at h2;exact h2.symm
theorem gr_right {gs:List Nat→Prop} (hg:∀ s,gs s→Gd n s) {P:List Nat→Prop} (hs:∀ x s,Gr n gs x→P x→gs s→P (Ma.mulN x s)) :
  ∀ {x:List Nat},Gr n gs x→∀ y,Gr n gs y→P y→P (Ma.mulN y x)∧P (Ma.mulN y (Ma.invN x)):=by
 have G:=Gr.isG (n:=n) hg;intro x hx
 induction hx with
 | one=>intro y gy hy; rw [inv_one,mul_one (G.gd y gy)]; exact ⟨hy,hy⟩
 | gen s h =>
  intro y gy hy;refine ⟨hs y s gy hy h,?_⟩;obtain ⟨k,hk⟩:=inv_pw (hg s h);rw [hk]
  have:∀ k,Gr n gs (Ma.mulN y (pw n s k))∧P (Ma.mulN y (pw n s k)):=by
   intro k
   induction k with
   | zero=>show Gr n gs (Ma.mulN y (Ma.oneN n))∧P (Ma.mulN y (Ma.oneN n)); rw [mul_one (G.gd y gy)]; exact ⟨gy,hy⟩
   | succ k ih =>
    show Gr n gs (Ma.mulN y (Ma.mulN (pw n s k) s))∧P (Ma.mulN y (Ma.mulN (pw n s k) s));rw [← mul_assoc (G.gd y gy) (pw_gd (hg s h) k)];exact ⟨.mul _ _ ih.1 (.gen s h),hs _ s ih.1 ih.2 h⟩
  exact (this k).2
 | mul a b ha hb ia ib =>
  intro y gy hy
  have e:Ma.invN (Ma.mulN a b)=Ma.mulN (Ma.invN b) (Ma.invN a):=by
   have ga:=G.gd a ha;have gb:=G.gd b hb;refine gd_ext (n:=n) (gd_inv (gd_mul ga gb)).2 (gd_mul (gd_inv gb) (gd_inv ga)).2 fun i hi=>?_;rw [ap_mul (gd_inv gb) hi];have h1:=ap_lt (gd_inv gb) hi;have h2:=ap_lt (gd_inv ga) h1;refine ap_inj (gd_mul ga gb) (ap_lt (gd_inv (gd_mul ga gb)) hi) h2 ?_;rw [ap_inv2 (gd_mul ga gb) hi,ap_mul ga h2,ap_inv2 ga h1,ap_inv2 gb hi]
  refine ⟨?_,?_⟩
  ·have:=(ib (Ma.mulN y a) (.mul _ _ gy ha) (ia y gy hy).1).1
   rwa [mul_assoc (G.gd y gy) (G.gd a ha)] at this
  ·have:=(ia (Ma.mulN y (Ma.invN b)) (.mul _ _ gy (.inv _ hb)) (ib y gy hy).2).2
   rwa [mul_assoc (G.gd y gy) (gd_inv (G.gd b hb)),← e] at this
 | inv a ha ia =>
  intro y gy hy
  have e:Ma.invN (Ma.invN a)=a:=by
   have ga:=G.gd a ha;refine gd_ext (n:=n) (gd_inv (gd_inv ga)).2 ga.2 fun i hi=>?_;refine ap_inj (gd_inv ga) (ap_lt (gd_inv (gd_inv ga)) hi) (ap_lt ga hi) ?_;rw [ap_inv2 (gd_inv ga) hi,ap_inv ga hi]
  rw [e];exact ⟨(ia y gy hy).2,(ia y gy hy).1⟩
theorem gr_ind {gs:List Nat→Prop} (hg:∀ s,gs s→Gd n s) {P:List Nat→Prop} (h1:P (Ma.oneN n)) (hs:∀ x s,Gr n gs x→P x→gs s→P (Ma.mulN x s)) {x:List Nat} (hx:Gr n gs x):P x:=by
 have:=(gr_right hg hs hx _ .one h1).1
 rwa [one_mul ((Gr.isG hg).gd x hx)] at this
structure IsTr (n:Nat) (H:List Nat→Prop) (tr:Tr):Prop where
 rp:Rp n 0 tr
 mem:∀ i p u,i<n→tr i p=some u→H u
 all:∀ i x,i<n→St H i x→∃ u,tr i (ap x i)=some u
theorem Tow.clos {n lo:Nat} {gn:Nat→List Nat→Prop} {tr:Tr} (h:Tow n lo gn tr):∀ {d:Nat},d≤n→lo≤n - d→(∀ y z,Gd n y→Gd n z→Sd n tr d y→Sd n tr d z→Sd n tr d (Ma.mulN y z))∧(0<d→∀ x,Gr n (gn (n - d)) x→Sd n tr d x)
 | 0,_,_=>⟨fun y z _ gz hy hz=>by
   have hy':y=Ma.oneN n:=hy;have hz':z=Ma.oneN n:=hz;show Ma.mulN y z=Ma.oneN n
   rw [hy',hz',one_mul (gd_one n)],fun h=>by omega⟩
 | d+1,hd,hl=>by
  obtain ⟨ih,_⟩:=Tow.clos h (d:=d) (by omega) (by omega)
  have hi:n - (d+1)<n:=by omega
  have hgd:∀ s,gn (n - (d+1)) s→Gd n s:=fun s hs=>h.gd _ s hl hi hs
  have key:∀ x,Gr n (gn (n - (d+1))) x→Sd n tr (d+1) x:=by
   intro x hx;refine gr_ind hgd (P:=Sd n tr (d+1)) (Sd.one h.rp hd hl) ?_ hx;intro x s gx ⟨u,hu,hy⟩ hs;have Gx:=(Gr.isG hgd).gd x gx;have gu:=h.rp.gd _ _ _ hl hi hu;have gs:=hgd s hs;obtain ⟨v,hv,hq⟩:=h.cl _ _ _ _ hl hi hu hs;have gv:=h.rp.gd _ _ _ hl hi hv;rw [show n - (n - (d+1)+1)=d by omega] at hq;have gy:=gd_mul Gx (gd_inv gu);have gq:=gd_mul (gd_mul gu gs) (gd_inv gv);have h1:=Sd.cons h.rp hd hl (gd_mul gy gq) (ih _ _ gy gq hy hq) hv
   have e:Ma.mulN (Ma.mulN (Ma.mulN x (Ma.invN u)) (Ma.mulN (Ma.mulN u s) (Ma.invN v))) v=Ma.mulN x s:=by
    rw [mul_assoc gy gq,mul_inv_cancel (gd_mul gu gs) gv,← mul_assoc gy gu,mul_inv_cancel Gx gu]
   rwa [e] at h1
  refine ⟨fun y z gy gz hy hz=>key _ (.mul _ _ (h.gr hl hi (by omega) gy hy (Nat.le_refl _)) (h.gr hl hi (by omega) gz hz (Nat.le_refl _))),fun _=>key⟩
theorem Tow.isTr {gn:Nat→List Nat→Prop} {tr:Tr} (h:Tow n 0 gn tr) (hn:0<n):IsTr n (Gr n (gn 0)) tr:=by
 have hgd:∀ s,gn 0 s→Gd n s:=fun s hs=>h.gd _ s (Nat.zero_le _) hn hs;refine ⟨h.rp,fun i p u hi hu=>?_,fun i x hi hx=>?_⟩
 ·have:=h.mem i p u (Nat.zero_le _) hi hu
  exact h.sub (i:=0) (Nat.le_refl _) (k:=i) (by omega) (by rwa [Nat.zero_add])
 ·have gx:=(Gr.isG hgd).gd x hx.1
  have h1:=(h.clos (d:=n) (Nat.le_refl _) (Nat.zero_le _)).2 hn x (by rw [Nat.sub_self]; exact hx.1);have h2:=(Sd.up h.rp (d:=n - i) (k:=i) (by omega) (Nat.zero_le _) gx (by rw [show n - (n - i)=i by omega]; exact hx.2)).1 (by rw [show n - i+i=n by omega]; exact h1);rw [show n - i=(n - i - 1)+1 by omega] at h2;obtain ⟨u,hu,_⟩:=h2;rw [show n - (n - i - 1+1)=i by omega] at hu;exact ⟨u,hu⟩
theorem Sd.entry {tr:Tr} (hr:Rp n 0 tr) {i p:Nat} (hi:i<n) {u:List Nat} (hu:tr i p=some u):Sd n tr n u:=by
 have gu:=hr.gd _ _ _ (Nat.zero_le _) hi hu;have h1:Sd n tr (n - i - 1+1) (Ma.mulN (Ma.oneN n) u):=Sd.cons hr (by omega) (Nat.zero_le _) (gd_one n) (Sd.one hr (by omega) (Nat.zero_le _)) (p:=p) (by rw [show n - (n - i - 1+1)=i by omega]; exact hu);rw [one_mul gu,show n - i - 1+1=n - i by omega] at h1;have h2:=(Sd.up hr (d:=n - i) (k:=i) (by omega) (Nat.zero_le _) gu (by rw [show n - (n - i)=i by omega]; exact hr.fx _ _ _ (Nat.zero_le _) hi hu)).2 h1
 rwa [show n - i+i=n by omega] at h2
theorem tab_clos {n:Nat} {tr:Tr} (hr:Rp n 0 tr) (hc:∀ i p u j q v,i<n→j<n→tr i p=some u→tr j q=some v→Sd n tr n (Ma.mulN u v)) :
  ∀ {d:Nat},d≤n→∀ y z,Gd n y→Gd n z→Sd n tr d y→Sd n tr d z→Sd n tr d (Ma.mulN y z)
 | 0,_,y,z,_,gz,hy,hz=>by
  have hy':y=Ma.oneN n:=hy;have hz':z=Ma.oneN n:=hz;show Ma.mulN y z=Ma.oneN n;rw [hy',hz',one_mul (gd_one n)]
 | d+1,hd,y,z,gy,gz,hy,hz=>by
  have ih:=tab_clos hr hc (d:=d) (by omega)
  have R:∀ x j q b,Gd n x→Sd n tr (d+1) x→n - (d+1)≤j→j<n→tr j q=some b→Sd n tr (d+1) (Ma.mulN x b):=by
   intro x j q b gx ⟨u,hu,hx⟩ hj1 hj2 hb;have gu:=hr.gd _ _ _ (by omega) (by omega) hu;have gb:=hr.gd _ _ _ (by omega) hj2 hb;have h1:=hc _ _ _ _ _ _ (by omega) hj2 hu hb;have hf:Fx (n - (d+1)) (Ma.mulN u b):=Fx.mul gu (by omega) (hr.fx _ _ _ (by omega) (by omega) hu) ((hr.fx _ _ _ (by omega) hj2 hb).mono hj1);have h2:=(Sd.up hr (d:=d+1) (k:=n - (d+1)) (by omega) (by omega) (gd_mul gu gb) hf).1 (by rw [show d+1+(n - (d+1))=n by omega]; exact h1);obtain ⟨v,hv,hz⟩:=h2;have gv:=hr.gd _ _ _ (by omega) (by omega) hv;have gx':=gd_mul gx (gd_inv gu);have gz':=gd_mul (gd_mul gu gb) (gd_inv gv);have h3:=Sd.cons hr hd (by omega) (gd_mul gx' gz') (ih _ _ gx' gz' hx hz) hv
   have e:Ma.mulN (Ma.mulN (Ma.mulN x (Ma.invN u)) (Ma.mulN (Ma.mulN u b) (Ma.invN v))) v=Ma.mulN x b:=by
    rw [mul_assoc gx' gz',mul_inv_cancel (gd_mul gu gb) gv,← mul_assoc gx' gu,mul_inv_cancel gx gu]
   rwa [e] at h3
  have W:∀ e w,e≤d+1→Gd n w→Sd n tr e w→∀ x,Gd n x→Sd n tr (d+1) x→Sd n tr (d+1) (Ma.mulN x w):=by
   intro e
   induction e with
   | zero =>
    intro w _ gw hw x gx hx;have hw':w=Ma.oneN n:=hw;rw [hw',mul_one gx]; exact hx
   | succ e ie =>
    intro w he gw ⟨u,hu,hw⟩ x gx hx;have gu:=hr.gd _ _ _ (by omega) (by omega) hu;have gw':=gd_mul gw (gd_inv gu);have h1:=ie _ (by omega) gw' hw x gx hx;have h2:=R _ _ _ _ (gd_mul gx gw') h1 (by omega) (by omega) hu
    rwa [mul_assoc gx gw',mul_inv_cancel gw gu] at h2
  exact W _ z (Nat.le_refl _) gz hz y gy hy
theorem tab_isTr {gs:List Nat→Prop} {tr:Tr} (hr:Rp n 0 tr) (hg:∀ s,gs s→Gd n s) (hs:∀ s,gs s→Sd n tr n s) (he:∀ i p u,i<n→tr i p=some u→Gr n gs u)
  (hc:∀ i p u j q v,i<n→j<n→tr i p=some u→tr j q=some v→Sd n tr n (Ma.mulN u v)):IsTr n (Gr n gs) tr:=by
 refine ⟨hr,he,fun i x hi hx=>?_⟩;have G:=Gr.isG (n:=n) hg;have gx:=G.gd x hx.1;have h1:Sd n tr n x:=gr_ind hg (P:=Sd n tr n) (Sd.one hr (Nat.le_refl _) (Nat.zero_le _)) (fun y s gy hy h=>tab_clos hr hc (Nat.le_refl _) _ _ (G.gd y gy) (hg s h) hy (hs s h)) hx.1;have h2:=(Sd.up hr (d:=n - i) (k:=i) (by omega) (Nat.zero_le _) gx (by rw [show n - (n - i)=i by omega]; exact hx.2)).1 (by rw [show n - i+i=n by omega]; exact h1);rw [show n - i=(n - i - 1)+1 by omega] at h2;obtain ⟨u,hu,_⟩:=h2;rw [show n - (n - i - 1+1)=i by omega] at hu;exact ⟨u,hu⟩
def lexLt (n:Nat) (y z:List Nat):Prop:=∃ j,j<n∧(∀ m,m<j→ap y m=ap z m)∧ap y j<ap z j
def Lst (n:Nat) (P:List Nat→Prop) (y:List Nat):Prop:=P y∧∀ z,P z→z=y∨lexLt n y z
theorem lexLt.asymm {y z:List Nat} (h:lexLt n y z) (h':lexLt m z y):False:=by
 obtain ⟨j,_,h2,h3⟩:=h;obtain ⟨k,_,h5,h6⟩:=h'
 rcases Nat.lt_trichotomy j k with e | e | e
 ·have:=h5 j e; omega
 ·subst e; omega
 ·have:=h2 k e; omega
theorem Lst.uniq {P:List Nat→Prop} {y z:List Nat} (h:Lst n P y) (h':Lst n P z):y=z:=by
 rcases h.2 z h'.1 with e | e
 ·exact e.symm
 ·rcases h'.2 y h.1 with e' | e'
  ·exact e'
  ·exact (e.asymm e').elim
def LI (H:List Nat→Prop) (i k:Nat) (x y:List Nat):Prop :=
 (∃ h,St H (i+1) h∧y=Ma.mulN h x)∧∀ h,St H (i+1) h→(∀ m,m<k→ap y m=ap (Ma.mulN h x) m)∨∃ j,j<k∧(∀ m,m<j→ap y m=ap (Ma.mulN h x) m)∧ap y j<ap (Ma.mulN h x) j
theorem LI.start (hH:IsG n H) {i:Nat} (hi:i<n) {x:List Nat} (gx:Gd n x):LI H i (i+1) x x:=by
 refine ⟨⟨Ma.oneN n,⟨hH.one,Fx.one (by omega)⟩,(one_mul gx).symm⟩,fun h hh=>.inl fun m hm=>?_⟩;rw [ap_mul (hH.gd h hh.1) (by omega),hh.2 m hm]
theorem LI.step (hH:IsG n H) {tr:Tr} (ht:IsTr n H tr) {i:Nat} {x y u:List Nat} (gx:Gd n x) (hik:i<k) (hk:k<n) (h:LI H i k x y) (hu:tr k q=some u)
  (hq:∀ q',tr k q'≠none→ap y q≤ap y q'):LI H i (k+1) x (Ma.mulN u y):=by
 obtain ⟨⟨h0,hh0,rfl⟩,h2⟩:=h;have gu:=ht.rp.gd _ _ _ (Nat.zero_le _) hk hu;have fu:=ht.rp.fx _ _ _ (Nat.zero_le _) hk hu;have g0:=hH.gd h0 hh0.1;have gy:=gd_mul g0 gx
 have hlow:∀ m,m<k→ap (Ma.mulN u (Ma.mulN h0 x)) m=ap (Ma.mulN h0 x) m:=fun m hm=>by rw [ap_mul gu (by omega),fu m hm]
 refine ⟨⟨Ma.mulN u h0,⟨hH.mul _ _ (ht.mem _ _ _ hk hu) hh0.1,Fx.mul gu (by omega) (fu.mono (by omega)) hh0.2⟩,(mul_assoc gu g0).symm⟩,fun h hh=>?_⟩
 rcases h2 h hh with h3 | ⟨j,hj,h4,h5⟩
 ·have gh:=hH.gd h hh.1
  have gz:=gd_mul gh gx
  have fg:Fx k (Ma.mulN (Ma.mulN h x) (Ma.invN (Ma.mulN h0 x))):=fun m hm=>by
   rw [ap_mul gz (by omega),← h3 m hm,ap_inv gy (by omega)]
  have eg:Ma.mulN (Ma.mulN h x) (Ma.invN (Ma.mulN h0 x))=Ma.mulN h (Ma.invN h0):=by
   refine gd_ext (n:=n) (gd_mul gz (gd_inv gy)).2 (gd_mul gh (gd_inv g0)).2 fun m hm=>?_;rw [ap_mul gz hm,ap_mul gh hm,ap_mul gh hm];have h1:=ap_lt gh hm;have h2':=ap_lt (gd_inv g0) h1
   have e:ap x (ap h m)=ap (Ma.mulN h0 x) (ap (Ma.invN h0) (ap h m)):=by rw [ap_mul g0 h2',ap_inv2 g0 h1]
   rw [e,ap_inv gy h2']
  have hgH:St H k (Ma.mulN (Ma.mulN h x) (Ma.invN (Ma.mulN h0 x))):=⟨by rw [eg]; exact hH.mul _ _ hh.1 (hH.inv _ hh0.1),fg⟩;obtain ⟨v,hv⟩:=ht.all k _ hk hgH;have hle:=hq _ (by rw [hv]; simp)
  have ez:ap (Ma.mulN h0 x) (ap (Ma.mulN (Ma.mulN h x) (Ma.invN (Ma.mulN h0 x))) k)=ap (Ma.mulN h x) k:=by
   rw [ap_mul gz hk,ap_inv2 gy (ap_lt gz hk)]
  rw [ez] at hle
  have ey:ap (Ma.mulN u (Ma.mulN h0 x)) k=ap (Ma.mulN h0 x) q:=by rw [ap_mul gu hk,ht.rp.at_ _ _ _ (Nat.zero_le _) hk hu]
  rcases Nat.lt_or_eq_of_le hle with hlt | heq
  ·exact .inr ⟨k,by omega,fun m hm=>by rw [hlow m hm]; exact h3 m hm,by rw [ey]; exact hlt⟩
  ·exact .inl fun m hm=>by
    by_cases e:m=k
    ·subst e; rw [ey,heq]
    ·rw [hlow m (by omega)]; exact h3 m (by omega)
 ·exact .inr ⟨j,by omega,fun m hm=>by rw [hlow m (by omega)]; exact h4 m hm,by rw [hlow j hj]; exact h5⟩
theorem LI.done (hH:IsG n H) {i:Nat} (hi:i<n) {x y:List Nat} (hx:St H i x) (h:LI H i n x y):Lst n (fun z=>St H i z∧ap z i=ap x i) y:=by
 obtain ⟨⟨h0,hh0,rfl⟩,h2⟩:=h;have gx:=hH.gd x hx.1;have g0:=hH.gd h0 hh0.1;refine ⟨⟨⟨hH.mul _ _ hh0.1 hx.1,Fx.mul g0 (by omega) (hh0.2.mono (by omega)) hx.2⟩,by rw [ap_mul g0 hi,hh0.2 i (by omega)]⟩,fun z ⟨hz,hzi⟩=>?_⟩;have gz:=hH.gd z hz.1
 have hf:Fx (i+1) (Ma.mulN z (Ma.invN x)):=fun m hm=>by
  rw [ap_mul gz (by omega)]
  by_cases e:m=i
  ·subst e; rw [hzi,ap_inv gx hi]
  ·rw [hz.2 m (by omega)]
   have:=ap_inv gx (show m<n by omega)
   rwa [hx.2 m (by omega)] at this
 have e:=mul_inv_cancel gz gx
 rcases h2 _ ⟨hH.mul _ _ hz.1 (hH.inv _ hx.1),hf⟩ with h3 | h3
 ·rw [e] at h3
  exact .inl (gd_ext (n:=n) gz.2 (gd_mul g0 gx).2 fun m hm=>(h3 m hm).symm)
 ·rw [e] at h3
  obtain ⟨j,hj,h4,h5⟩:=h3;exact .inr ⟨j,hj,h4,h5⟩
structure IsChain (n:Nat) (H:List Nat→Prop) (O:List (List Nat)) (R:List (List (List Nat))):Prop where
 lenO:O.length=n
 lenR:R.length=n
 asc:∀ i,i<n→(O.getD i []).Pairwise (· < ·)
 orb:∀ i p,i<n→(p∈O.getD i []↔∃ x,St H i x∧ap x i=p)
 len:∀ i,i<n→(R.getD i []).length=(O.getD i []).length
 rep:∀ i k,i<n→k<(O.getD i []).length→Lst n (fun z=>St H i z∧ap z i=(O.getD i []).getD k 0) ((R.getD i []).getD k [])
theorem asc_uniq:∀ {l l':List Nat},l.Pairwise (· < ·)→l'.Pairwise (· < ·)→(∀ x,x∈l↔x∈l')→l=l'
 | [],[],_,_,_=>rfl
 | [],y :: l',_,_,h=>by have:=(h y).2 (List.mem_cons_self ..); simp at this
 | x :: l,[],_,_,h=>by have:=(h x).1 (List.mem_cons_self ..); simp at this
 | x :: l,y :: l',h1,h2,h=>by
  rw [List.pairwise_cons] at h1 h2;have hx:=(h x).1 (List.mem_cons_self ..);have hy:=(h y).2 (List.mem_cons_self ..)
  have e:x=y:=by
   rcases List.mem_cons.1 hx with e | e
   ·exact e
   ·rcases List.mem_cons.1 hy with e' | e'
    ·exact e'.symm
    ·have:=h1.1 y e'; have:=h2.1 x e; omega
  subst e
  rw [asc_uniq h1.2 h2.2 fun z=>⟨fun hz=>by
   rcases List.mem_cons.1 ((h z).1 (List.mem_cons_of_mem _ hz)) with e | e
   ·subst e; have:=h1.1 z hz; omega
   ·exact e,fun hz=>by
   rcases List.mem_cons.1 ((h z).2 (List.mem_cons_of_mem _ hz)) with e | e
   ·subst e; have:=h2.1 z hz; omega
   ·exact e⟩]
theorem getD_in {α:Type} {l:List α} {i:Nat} (h:i<l.length) (d:α):l.getD i d=l[i]:=by rw [List.getD,List.getElem?_eq_getElem h]; rfl
theorem IsChain.uniq {n:Nat} {H:List Nat→Prop} {O O':List (List Nat)} {R R':List (List (List Nat))} (h:IsChain n H O R) (h':IsChain n H O' R'):O=O'∧R=R':=by
 have hO:O=O':=by
  apply List.ext_getElem (by rw [h.lenO,h'.lenO])
  intro i h1 h2
  have hi:i<n:=by rw [← h.lenO]; exact h1
  have e1:O.getD i []=O[i]:=by simp [List.getD,List.getElem?_eq_getElem h1]
  have e2:O'.getD i []=O'[i]:=by simp [List.getD,List.getElem?_eq_getElem h2]
  rw [← e1,← e2];exact asc_uniq (h.asc i hi) (h'.asc i hi) fun p=>(h.orb i p hi).trans (h'.orb i p hi).symm
 subst hO;refine ⟨rfl,?_⟩
 apply List.ext_getElem (by rw [h.lenR,h'.lenR])
 intro i h1 h2
 have hi:i<n:=by rw [← h.lenR]; exact h1
 have e1:R.getD i []=R[i]:=by simp [List.getD,List.getElem?_eq_getElem h1]
 have e2:R'.getD i []=R'[i]:=by simp [List.getD,List.getElem?_eq_getElem h2]
 rw [← e1,← e2]
 apply List.ext_getElem (by rw [h.len i hi,h'.len i hi])
 intro k k1 k2
 have hk:k<(O.getD i []).length:=by rw [← h.len i hi]; exact k1
 have f1:(R.getD i []).getD k []=(R.getD i [])[k]:=getD_in k1 _;have f2:(R'.getD i []).getD k []=(R'.getD i [])[k]:=getD_in k2 _;rw [← f1,← f2];exact (h.rep i k hi hk).uniq (h'.rep i k hi hk)

def sfP (n:Nat) (tr:Tr):Nat→List Nat→Nat × List Nat
 | 0,x=>(n,x)
 | d+1,x=>match tr (n - (d+1)) (ap x (n - (d+1))) with
  | none=>(n - (d+1),x)
  | some u=>sfP n tr d (Ma.mulN x (Ma.invN u))
theorem sfP_none {tr:Tr} {d:Nat} {x:List Nat} (h:tr (n - (d+1)) (ap x (n - (d+1)))=none):sfP n tr (d+1) x=(n - (d+1),x):=by
 unfold sfP; rw [h]
theorem sfP_some {tr:Tr} {d:Nat} {x u:List Nat} (h:tr (n - (d+1)) (ap x (n - (d+1)))=some u):sfP n tr (d+1) x=sfP n tr d (Ma.mulN x (Ma.invN u)):=by
 conv=>lhs; unfold sfP
 rw [h]
theorem step_fx {lo:Nat} {tr:Tr} (hr:Rp n lo tr) {i:Nat} (hl:lo≤i) (hi:i<n) {x u:List Nat} (gx:Gd n x) (fx:Fx i x) (hu:tr i (ap x i)=some u):Gd n (Ma.mulN x (Ma.invN u))∧Fx (i+1) (Ma.mulN x (Ma.invN u)):=by
 have gu:=hr.gd _ _ _ hl hi hu;have fu:=hr.fx _ _ _ hl hi hu;have au:=hr.at_ _ _ _ hl hi hu;refine ⟨gd_mul gx (gd_inv gu),fun j hj=>?_⟩;rw [ap_mul gx (by omega)]
 by_cases e:j=i
 ·subst e; rw [← au]; exact ap_inv gu hi
 ·rw [fx j (by omega)]
  exact Fx.inv gu (by omega) fu j (by omega)
theorem sfP_all {n lo:Nat} {tr:Tr} (hr:Rp n lo tr):∀ {d:Nat} {x:List Nat},d≤n→lo≤n - d→Gd n x→Fx (n - d) x →
  (sfP n tr d x).1≤n∧n - d≤(sfP n tr d x).1∧Gd n (sfP n tr d x).2∧Fx (sfP n tr d x).1 (sfP n tr d x).2∧((sfP n tr d x).1<n→tr (sfP n tr d x).1 (ap (sfP n tr d x).2 (sfP n tr d x).1)=none)
 | 0,x,_,_,gx,fx=>⟨Nat.le_refl _,by show n - 0≤n; omega,gx,fx,fun h=>absurd h (Nat.lt_irrefl _)⟩
 | d+1,x,hd,hl,gx,fx=>by
  cases h:tr (n - (d+1)) (ap x (n - (d+1))) with
  | none =>
   rw [sfP_none h];exact ⟨by show n - (d+1)≤n; omega,Nat.le_refl _,gx,fx,fun _=>h⟩
  | some u =>
   rw [sfP_some h];obtain ⟨g1,f1⟩:=step_fx hr hl (by omega) gx fx h;rw [show n - (d+1)+1=n - d by omega] at f1;obtain ⟨a,b,c⟩:=sfP_all hr (d:=d) (by omega) (by omega) g1 f1;exact ⟨a,by omega,c⟩
theorem sfP_back {n:Nat} {tr tr':Tr}:∀ {d:Nat} {x:List Nat},d≤n→(∀ i p u,n - d≤i→tr i p=some u→tr' i p=some u)→Sd n tr' (n - (sfP n tr d x).1) (sfP n tr d x).2→Sd n tr' d x
 | 0,x,_,_,h=>by
  have:Sd n tr' (n - n) x:=h
  rwa [Nat.sub_self] at this
 | d+1,x,hd,hm,hs=>by
  cases h:tr (n - (d+1)) (ap x (n - (d+1))) with
  | none =>
   rw [sfP_none h] at hs;have:Sd n tr' (n - (n - (d+1))) x:=hs
   rwa [show n - (n - (d+1))=d+1 by omega] at this
  | some u =>
   rw [sfP_some h] at hs;exact ⟨u,hm _ _ _ (Nat.le_refl _) h,sfP_back (by omega) (fun i p u hi=>hm i p u (by omega)) hs⟩
theorem sfP_mem {n:Nat} {tr:Tr} {H:List Nat→Prop} (hH:IsG n H):∀ {d:Nat} {x:List Nat},d≤n→(∀ i p u,n - d≤i→i<n→tr i p=some u→H u)→H x→H (sfP n tr d x).2
 | 0,_,_,_,h=>h
 | d+1,x,hd,hm,hx=>by
  cases h:tr (n - (d+1)) (ap x (n - (d+1))) with
  | none=>rw [sfP_none h]; exact hx
  | some u =>
   rw [sfP_some h];exact sfP_mem hH (by omega) (fun i p u hi=>hm i p u (by omega)) (hH.mul _ _ hx (hH.inv _ (hm _ _ _ (Nat.le_refl _) (by omega) h)))
structure Lv where
 gens:List (List Nat)
 orb:List Nat
 rep:Nat→Option (List Nat)
 tried:Nat→Nat
abbrev Twr:=Nat→Lv
def trOf (T:Twr):Tr:=fun i p=>(T i).rep p
structure Lvl (n:Nat) (T:Twr) (i:Nat):Prop where
 ggd:∀ s∈(T i).gens,Gd n s
 gfx:∀ s∈(T i).gens,Fx i s
 low:i+1<n→∀ s∈(T (i+1)).gens,Gr n (·∈(T i).gens) s
 self:(T i).rep i=some (Ma.oneN n)
 tgd:∀ p u,(T i).rep p=some u→Gd n u
 tfx:∀ p u,(T i).rep p=some u→Fx i u
 tat:∀ p u,(T i).rep p=some u→ap u i=p
 tlt:∀ p u,(T i).rep p=some u→p<n
 tgr:∀ p u,(T i).rep p=some u→Gr n (·∈(T i).gens) u
 nd:(T i).orb.Nodup
 orb:∀ p,p∈(T i).orb↔∃ u,(T i).rep p=some u
 le:∀ q,(T i).tried q≤(T i).gens.length
 tr0:∀ p,(T i).rep p=none→(T i).tried p=0
 pr:∀ q u k (hk:k<(T i).gens.length),(T i).rep q=some u→k<(T i).tried q→∃ v,(T i).rep (ap (T i).gens[k] q)=some v∧Sd n (trOf T) (n - (i+1)) (Ma.mulN (Ma.mulN u (T i).gens[k]) (Ma.invN v))
def Cmp (T:Twr) (i:Nat):Prop:=∀ q u,(T i).rep q=some u→(T i).tried q=(T i).gens.length
theorem Lvl.rp {lo:Nat} {T:Twr} (h:∀ j,lo≤j→j<n→Lvl n T j):Rp n lo (trOf T) :=
 ⟨fun i p u hl hi hu=>(h i hl hi).tgd p u hu,fun i p u hl hi hu=>(h i hl hi).tfx p u hu,fun i p u hl hi hu=>(h i hl hi).tat p u hu,fun i hl hi=>(h i hl hi).self⟩
theorem Lvl.tow {lo:Nat} {T:Twr} (h:∀ j,lo≤j→j<n→Lvl n T j∧Cmp T j):Tow n lo (fun i s=>s∈(T i).gens) (trOf T):=by
 refine ⟨Lvl.rp fun j a b=>(h j a b).1,fun i s a b=>(h i a b).1.ggd s,fun i s a b=>(h i a (by omega)).1.low b s,fun i p u a b hu=>(h i a b).1.tgr p u hu,fun i p u s a b hu hs=>?_⟩;obtain ⟨k,hk,rfl⟩:=List.getElem_of_mem hs;exact (h i a b).1.pr p u k hk hu (by rw [(h i a b).2 p u hu]; exact hk)
theorem Lvl.sd {lo:Nat} {T:Twr} (h:∀ j,lo≤j→j<n→Lvl n T j∧Cmp T j) (hl:lo<n) {x:List Nat} (hx:Gr n (·∈(T lo).gens) x):Sd n (trOf T) (n - lo) x:=by
 have:=((Lvl.tow h).clos (d:=n - lo) (by omega) (by omega)).2 (by omega) x;rw [show n - (n - lo)=lo by omega] at this;exact this hx
structure Ext (T T':Twr):Prop where
 rep:∀ j p u,(T j).rep p=some u→(T' j).rep p=some u
 orb:∀ j,(T j).orb.length≤(T' j).orb.length
 gens:∀ j s,s∈(T j).gens→s∈(T' j).gens
theorem Ext.refl (T:Twr):Ext T T:=⟨fun _ _ _ h=>h,fun _=>Nat.le_refl _,fun _ _ h=>h⟩
theorem Ext.trans {T T' T'':Twr} (h:Ext T T') (h':Ext T' T''):Ext T T'':=⟨fun j p u e=>h'.rep j p u (h.rep j p u e),fun j=>Nat.le_trans (h.orb j) (h'.orb j),fun j s e=>h'.gens j s (h.gens j s e)⟩
theorem Lvl.ext0 {i:Nat} {T T':Twr} (h:Lvl n T i) (he:T' i=T i) (hx:∀ j p u,(T j).rep p=some u→(T' j).rep p=some u) (hlow:i+1<n→∀ s∈(T' (i+1)).gens,Gr n (·∈(T i).gens) s):Lvl n T' i:=by
 refine ⟨by rw [he]; exact h.ggd,by rw [he]; exact h.gfx,by rw [he]; exact hlow,by rw [he]; exact h.self,by rw [he]; exact h.tgd,by rw [he]; exact h.tfx,by rw [he]; exact h.tat,by rw [he]; exact h.tlt,by rw [he]; exact h.tgr,by rw [he]; exact h.nd,by rw [he]; exact h.orb,by rw [he]; exact h.le,by rw [he]; exact h.tr0,?_⟩;simp only [he];intro q u k hk hu hq;obtain ⟨v,h1,h2⟩:=h.pr q u k hk hu hq;exact ⟨v,h1,Sd.mono (fun j p u _ e=>hx j p u e) h2⟩
theorem Lvl.ext {i:Nat} {T T':Twr} (h:Lvl n T i) (he:T' i=T i) (hx:Ext T T') (hlow:i+1<n→∀ s∈(T' (i+1)).gens,Gr n (·∈(T i).gens) s):Lvl n T' i:=h.ext0 he hx.rep hlow
theorem Cmp.ext {i:Nat} {T T':Twr} (h:Cmp T i) (he:T' i=T i):Cmp T' i:=by
 unfold Cmp at *; rw [he]; exact h
def potd (n:Nat) (T:Twr):Nat→Nat
 | 0=>0
 | d+1=>(T (n - (d+1))).orb.length+potd n T d
def pot (n:Nat) (T:Twr) (i:Nat):Nat:=potd n T (n - i)
theorem potd_mono {n:Nat} {T T':Twr} (h:Ext T T'):∀ d,potd n T d≤potd n T' d
 | 0=>Nat.le_refl _
 | d+1=>Nat.add_le_add (h.orb _) (potd_mono h d)
theorem potd_more {n:Nat} {T T':Twr} (h:Ext T T') {i:Nat} (hi:i<n) (hlt:(T i).orb.length<(T' i).orb.length):∀ d,d≤n→n - i≤d→potd n T d<potd n T' d
 | 0,_,hd=>by omega
 | d+1,hdn,hd=>by
  by_cases e:n - i=d+1
  ·have:n - (d+1)=i:=by omega
   show (T (n - (d+1))).orb.length+potd n T d<(T' (n - (d+1))).orb.length+potd n T' d;rw [this];exact Nat.add_lt_add_of_lt_of_le hlt (potd_mono h d)
  ·exact Nat.add_lt_add_of_le_of_lt (h.orb _) (potd_more h hi hlt d (by omega) (by omega))
theorem pot_mono {T T':Twr} (h:Ext T T') (i:Nat):pot n T i≤pot n T' i:=potd_mono h _
theorem pot_more {T T':Twr} (h:Ext T T') {i:Nat} (hi:i<n) (hj:j≤i) (hlt:(T i).orb.length<(T' i).orb.length):pot n T j<pot n T' j:=potd_more h hi hlt _ (by omega) (by omega)
theorem orb_len {i:Nat} {T:Twr} (h:Lvl n T i):(T i).orb.length≤n:=by
 have h1:(T i).orb ⊆ List.range n:=fun p hp=>by
  obtain ⟨u,hu⟩:=(h.orb p).1 hp;exact List.mem_range.2 (h.tlt p u hu)
 have:=List.Nodup.length_le_of_subset h.nd h1
 rwa [List.length_range] at this
theorem potd_le {n lo:Nat} {T:Twr} (h:∀ j,lo≤j→j<n→Lvl n T j):∀ d,d≤n→lo≤n - d→potd n T d≤d*n
 | 0,_,_=>by simp [potd]
 | d+1,hd,hl=>by
  have h1:=orb_len (h (n - (d+1)) hl (by omega));have h2:=potd_le h d (by omega) (by omega);show _+_≤_;rw [Nat.succ_mul]; omega
theorem pot_le {lo:Nat} {T:Twr} (h:∀ j,lo≤j→j<n→Lvl n T j) {i:Nat} (hi:lo≤i) (hn:n≤64):pot n T i≤4096:=by
 by_cases hin:i≤n
 ·have h1:=potd_le h (n - i) (by omega) (by omega)
  have h2:(n - i)*n≤64*64:=Nat.mul_le_mul (by omega) hn;unfold pot; omega
 ·unfold pot; rw [show n - i=0 by omega]; simp [potd]
def putG (T:Twr) (lo hi:Nat) (r:List Nat):Twr:=fun j=>if lo≤j∧j≤hi then { T j with gens:=(T j).gens++[r] } else T j
theorem putG_in {T:Twr} {lo hi:Nat} {r:List Nat} (h:lo≤j∧j≤hi):putG T lo hi r j={ T j with gens:=(T j).gens++[r] }:=if_pos h
theorem putG_out {T:Twr} {lo hi:Nat} {r:List Nat} (h:¬ (lo≤j∧j≤hi)):putG T lo hi r j=T j:=if_neg h
theorem putG_to (T:Twr) (lo hi:Nat) (r:List Nat):trOf (putG T lo hi r)=trOf T:=by
 funext j p
 unfold trOf
 by_cases h:lo≤j∧j≤hi
 ·rw [putG_in h]
 ·rw [putG_out h]
theorem putG_orb (T:Twr) (lo hi:Nat) (r:List Nat) (j:Nat):(putG T lo hi r j).orb=(T j).orb:=by
 by_cases h:lo≤j∧j≤hi
 ·rw [putG_in h]
 ·rw [putG_out h]
theorem putG_ext (T:Twr) (lo hi:Nat) (r:List Nat):Ext T (putG T lo hi r) :=
 ⟨fun j p u h=>(show trOf (putG T lo hi r) j p=some u by rw [putG_to]; exact h),fun j=>by rw [putG_orb]; exact Nat.le_refl _,fun j s hs=>by
  by_cases h:lo≤j∧j≤hi
  ·rw [putG_in h]; exact List.mem_append_left _ hs
  ·rw [putG_out h]; exact hs⟩
theorem putG_lvl {lo hi i:Nat} {T:Twr} {r:List Nat} (h:Lvl n T i) (hl:lo≤i) (hr:Gd n r) (hf:Fx hi r):Lvl n (putG T lo hi r) i:=by
 have hto:=fun p=>congrFun (congrFun (putG_to T lo hi r) i) p;have hto':∀ p,(putG T lo hi r i).rep p=(T i).rep p:=hto
 by_cases hi2:i≤hi
 ·have e:=putG_in (T:=T) (r:=r) ⟨hl,hi2⟩
  have hg:∀ s,s∈(T i).gens→s∈(putG T lo hi r i).gens:=fun s hs=>by rw [e]; exact List.mem_append_left _ hs
  have hm:∀ s,s∈(putG T lo hi r i).gens→s∈(T i).gens∨s=r:=fun s hs=>by
   rw [e] at hs
   rcases List.mem_append.1 hs with hs | hs
   ·exact .inl hs
   ·exact .inr (List.mem_singleton.1 hs)
  have hrm:r∈(putG T lo hi r i).gens:=by rw [e]; exact List.mem_append_right _ (List.mem_singleton.2 rfl)
  refine ⟨fun s hs=>?_,fun s hs=>?_,fun h1 s hs=>?_,by rw [hto']; exact h.self,fun p u hu=>h.tgd p u (by rwa [hto'] at hu),fun p u hu=>h.tfx p u (by rwa [hto'] at hu),fun p u hu=>h.tat p u (by rwa [hto'] at hu),fun p u hu=>h.tlt p u (by rwa [hto'] at hu),
   fun p u hu=>(h.tgr p u (by rwa [hto'] at hu)).mono hg,by rw [putG_orb]; exact h.nd,fun p=>by rw [putG_orb,hto']; exact h.orb p,fun q=>?_,fun p hp=>by rw [hto'] at hp; rw [e]; exact h.tr0 p hp,?_⟩
  ·rcases hm s hs with hs | rfl
   ·exact h.ggd s hs
   ·exact hr
  ·rcases hm s hs with hs | rfl
   ·exact h.gfx s hs
   ·exact hf.mono hi2
  ·by_cases h2:i+1≤hi
   ·rw [putG_in ⟨by omega,h2⟩] at hs
    rcases List.mem_append.1 hs with hs | hs
    ·exact (h.low h1 s hs).mono hg
    ·rw [List.mem_singleton] at hs; subst hs; exact .gen _ hrm
   ·rw [putG_out (by omega)] at hs
    exact (h.low h1 s hs).mono hg
  ·have:=h.le q
   rw [e]; simp; omega
  ·intro q u k hk hu hq
   rw [hto'] at hu
   have hq':k<(T i).tried q:=by rw [e] at hq; exact hq
   have hk':k<(T i).gens.length:=Nat.lt_of_lt_of_le hq' (h.le q)
   have eg:(putG T lo hi r i).gens[k]=(T i).gens[k]:=by simp only [e]; rw [List.getElem_append_left hk']
   obtain ⟨v,h1,h2⟩:=h.pr q u k hk' hu hq';rw [eg];exact ⟨v,by rw [hto']; exact h1,by rw [putG_to]; exact h2⟩
 ·exact h.ext (putG_out (by omega)) (putG_ext T lo hi r) fun h1 s hs=>by
   rw [putG_out (by omega)] at hs; exact h.low h1 s hs
def tick (T:Twr) (i q:Nat):Twr:=fun j=>if j=i then { T j with tried:=fun p=>if p=q then (T j).tried p+1 else (T j).tried p } else T j
def find (T:Twr) (i p:Nat) (y:List Nat):Twr:=fun j=>if j=i then { T j with orb:=(T j).orb++[p],rep:=fun z=>if z=p then some y else (T j).rep z } else T j
theorem tick_at (T:Twr) (i q:Nat):tick T i q i={ T i with tried:=fun p=>if p=q then (T i).tried p+1 else (T i).tried p }:=if_pos rfl
theorem tick_ne {T:Twr} {i:Nat} (h:j≠i):tick T i q j=T j:=if_neg h
theorem find_at' (T:Twr) (i p:Nat) (y:List Nat):find T i p y i={ T i with orb:=(T i).orb++[p],rep:=fun z=>if z=p then some y else (T i).rep z }:=if_pos rfl
theorem find_ne {T:Twr} {i p:Nat} {y:List Nat} (h:j≠i):find T i p y j=T j:=if_neg h
theorem tick_ext (T:Twr) (i q:Nat):Ext T (tick T i q) :=
 ⟨fun j p u h=>by
  by_cases e:j=i
  ·subst e; rw [tick_at]; exact h
  ·rw [tick_ne e]; exact h,fun j=>by
  by_cases e:j=i
  ·subst e; rw [tick_at]; exact Nat.le_refl _
  ·rw [tick_ne e]; exact Nat.le_refl _,fun j s hs=>by
  by_cases e:j=i
  ·subst e; rw [tick_at]; exact hs
  ·rw [tick_ne e]; exact hs⟩
theorem find_ext {T:Twr} {i p:Nat} {y:List Nat} (hp:(T i).rep p=none):Ext T (find T i p y) :=
 ⟨fun j z u h=>by
  by_cases e:j=i
  ·subst e
   rw [find_at'];show (if z=p then some y else (T j).rep z)=some u;rw [if_neg,h];rintro rfl; rw [hp] at h; cases h
  ·rw [find_ne e]; exact h,fun j=>by
  by_cases e:j=i
  ·subst e; rw [find_at']; simp
  ·rw [find_ne e]; exact Nat.le_refl _,fun j s hs=>by
  by_cases e:j=i
  ·subst e; rw [find_at']; exact hs
  ·rw [find_ne e]; exact hs⟩
theorem tick_lvl {i:Nat} {T T':Twr} (h:Lvl n T i) {uq v:List Nat} (hk:(T i).tried q<(T i).gens.length) (hs:(T i).gens[(T i).tried q]=s) (huq:(T i).rep q=some uq)
  (hi:T' i=tick T i q i) (hx:Ext T T') (hlow:i+1<n→∀ s∈(T' (i+1)).gens,Gr n (·∈(T i).gens) s) (hv:(T i).rep (ap s q)=some v) (hsd:Sd n (trOf T') (n - (i+1)) (Ma.mulN (Ma.mulN uq s) (Ma.invN v))):Lvl n T' i:=by
 rw [tick_at] at hi;refine ⟨by rw [hi]; exact h.ggd,by rw [hi]; exact h.gfx,by rw [hi]; exact hlow,by rw [hi]; exact h.self,by rw [hi]; exact h.tgd,by rw [hi]; exact h.tfx,by rw [hi]; exact h.tat,by rw [hi]; exact h.tlt,by rw [hi]; exact h.tgr,by rw [hi]; exact h.nd,by rw [hi]; exact h.orb,?_,?_,?_⟩
 ·rw [hi]
  intro p;show (if p=q then (T i).tried p+1 else (T i).tried p)≤(T i).gens.length
  split
  ·rename_i e; subst e; omega
  ·exact h.le p
 ·rw [hi]
  intro p hp;show (if p=q then (T i).tried p+1 else (T i).tried p)=0;rw [if_neg]
  ·exact h.tr0 p hp
  ·rintro rfl
   have hp':(T i).rep p=none:=hp;rw [huq] at hp'; cases hp'
 ·simp only [hi]
  intro p u k hk2 hu hp
  by_cases e:p=q
  ·subst e
   rw [if_pos rfl] at hp
   by_cases e2:k=(T i).tried p
   ·subst e2
    rw [huq] at hu; cases hu;rw [hs]; exact ⟨v,hv,hsd⟩
   ·obtain ⟨v2,h1,h2⟩:=h.pr p u k hk2 hu (by omega)
    exact ⟨v2,h1,Sd.mono (fun j p u _ e=>hx.rep j p u e) h2⟩
  ·rw [if_neg e] at hp
   obtain ⟨v2,h1,h2⟩:=h.pr p u k hk2 hu hp;exact ⟨v2,h1,Sd.mono (fun j p u _ e=>hx.rep j p u e) h2⟩
theorem find_lvl {i:Nat} {T:Twr} (h:∀ j,i≤j→j<n→Lvl n T j) (hin:i<n) {uq:List Nat} (hk:(T i).tried q<(T i).gens.length) (hs:(T i).gens[(T i).tried q]=s) (huq:(T i).rep q=some uq) (hp:(T i).rep (ap s q)=none) :
  Lvl n (find (tick T i q) i (ap s q) (Ma.mulN uq s)) i:=by
 have hl:=h i (Nat.le_refl _) hin
 have hsm:s∈(T i).gens:=by rw [← hs]; exact List.getElem_mem hk
 have gs:=hl.ggd s hsm;have gu:=hl.tgd q uq huq;have hq:=hl.tlt q uq huq;have gy:=gd_mul gu gs;have hx:Ext T (find (tick T i q) i (ap s q) (Ma.mulN uq s)):=(tick_ext T i q).trans (find_ext (by rw [tick_at]; exact hp))
 have ei:find (tick T i q) i (ap s q) (Ma.mulN uq s) i={ gens:=(T i).gens,orb:=(T i).orb++[ap s q],rep:=fun z=>if z=ap s q then some (Ma.mulN uq s) else (T i).rep z,tried:=fun p=>if p=q then (T i).tried p+1 else (T i).tried p }:=by rw [find_at',tick_at]
 have ay:ap (Ma.mulN uq s) i=ap s q:=by rw [ap_mul gu hin,hl.tat q uq huq]
 have fy:Fx i (Ma.mulN uq s):=Fx.mul gu (by omega) (hl.tfx q uq huq) (hl.gfx s hsm);refine ⟨by rw [ei]; exact hl.ggd,by rw [ei]; exact hl.gfx,?_,?_,?_,?_,?_,?_,?_,?_,?_,?_,?_,?_⟩
 ·rw [ei]
  intro h1 z hz;rw [find_ne (by omega),tick_ne (by omega)] at hz;exact hl.low h1 z hz
 ·rw [ei]
  show (if i=ap s q then _ else _)=_;rw [if_neg,hl.self];intro e; rw [← e,hl.self] at hp; cases hp
 ·rw [ei]
  intro p u hu;have hu':(if p=ap s q then some (Ma.mulN uq s) else (T i).rep p)=some u:=hu
  split at hu'
  ·cases hu'; exact gy
  ·exact hl.tgd p u hu'
 ·rw [ei]
  intro p u hu;have hu':(if p=ap s q then some (Ma.mulN uq s) else (T i).rep p)=some u:=hu
  split at hu'
  ·cases hu'; exact fy
  ·exact hl.tfx p u hu'
 ·rw [ei]
  intro p u hu;have hu':(if p=ap s q then some (Ma.mulN uq s) else (T i).rep p)=some u:=hu
  split at hu'
  ·rename_i e; cases hu'; rw [e]; exact ay
  ·exact hl.tat p u hu'
 ·rw [ei]
  intro p u hu;have hu':(if p=ap s q then some (Ma.mulN uq s) else (T i).rep p)=some u:=hu
  split at hu'
  ·rename_i e; rw [e]; exact ap_lt gs hq
  ·exact hl.tlt p u hu'
 ·rw [ei]
  intro p u hu;have hu':(if p=ap s q then some (Ma.mulN uq s) else (T i).rep p)=some u:=hu
  split at hu'
  ·cases hu'; exact .mul _ _ (hl.tgr q uq huq) (.gen _ hsm)
  ·exact hl.tgr p u hu'
 ·rw [ei]
  show ((T i).orb++[ap s q]).Nodup;rw [List.nodup_append];refine ⟨hl.nd,by simp,?_⟩;intro a ha b hb e;rw [List.mem_singleton] at hb;subst hb; subst e;obtain ⟨u,hu⟩:=(hl.orb _).1 ha;rw [hp] at hu; cases hu
 ·rw [ei]
  intro p;show p∈(T i).orb++[ap s q]↔∃ u,(if p=ap s q then some (Ma.mulN uq s) else (T i).rep p)=some u;rw [List.mem_append,List.mem_singleton]
  by_cases e:p=ap s q
  ·rw [if_pos e]; exact ⟨fun _=>⟨_,rfl⟩,fun _=>.inr e⟩
  ·rw [if_neg e,← hl.orb p]; exact ⟨fun h=>h.resolve_right e,.inl⟩
 ·rw [ei]
  intro p;show (if p=q then (T i).tried p+1 else (T i).tried p)≤(T i).gens.length
  split
  ·rename_i e; subst e; omega
  ·exact hl.le p
 ·rw [ei]
  intro p hp2;have hp3:(if p=ap s q then some (Ma.mulN uq s) else (T i).rep p)=none:=hp2;show (if p=q then (T i).tried p+1 else (T i).tried p)=0
  split at hp3
  ·cases hp3
  ·rw [if_neg]
   ·exact hl.tr0 p hp3
   ·rintro rfl; rw [huq] at hp3; cases hp3
 ·intro p u k hk0 hu hpk
  have hk2:k<(T i).gens.length:=by rw [ei] at hk0; exact hk0
  simp only [ei] at hu hpk ⊢
  have hto:∀ z v,(T i).rep z=some v→(if z=ap s q then some (Ma.mulN uq s) else (T i).rep z)=some v:=fun z v hz=>by
   rw [if_neg,hz];rintro rfl; rw [hp] at hz; cases hz
  have hold:∀ p u k (hk2:k<(T i).gens.length),(T i).rep p=some u→k<(T i).tried p→∃ v,(if ap (T i).gens[k] p=ap s q then some (Ma.mulN uq s) else (T i).rep (ap (T i).gens[k] p))=some v∧Sd n (trOf (find (tick T i q) i (ap s q) (Ma.mulN uq s))) (n - (i+1)) (Ma.mulN (Ma.mulN u (T i).gens[k]) (Ma.invN v)):=fun p u k hk2 hu hpk=>by
   obtain ⟨v,h1,h2⟩:=hl.pr p u k hk2 hu hpk;exact ⟨v,hto _ _ h1,Sd.mono (fun j p u _ e=>hx.rep j p u e) h2⟩
  by_cases e:p=ap s q
  ·
   rw [if_pos e] at hu
   exfalso
   by_cases e2:p=q
   ·rw [← e2,e,hp] at huq; cases huq
   ·rw [if_neg e2] at hpk
    have:=hl.tr0 p (by rw [e]; exact hp);omega
  ·rw [if_neg e] at hu
   by_cases e2:p=q
   ·subst e2
    rw [if_pos rfl] at hpk
    by_cases e3:k=(T i).tried p
    ·subst e3
     rw [huq] at hu; cases hu;rw [hs,if_pos rfl];refine ⟨_,rfl,?_⟩;rw [mul_inv gy];have hr:Rp n (i+1) (trOf T):=Lvl.rp fun j a b=>h j (by omega) b;exact Sd.mono (fun j p u _ e=>hx.rep j p u e) (Sd.one hr (by omega) (by omega))
    ·exact hold p u k hk2 hu (by omega)
   ·rw [if_neg e2] at hpk
    exact hold p u k hk2 hu hpk
end Go.Proofs.Cm

namespace Go.Proofs.YtdnmmibchbceeaaGreat
open Go.RowKit
open Go.Proofs
attribute [local irreducible] Go.Calls
theorem b_lss {u v:Int} {b:Bool} (t:TypeId) (h:decide (u<v)=b):(binOp .lss t (.int .i64 u) (.int .i64 v)).run Tryz.prog w=.ok (.bool b) w:=by
 subst h;simp [binOp,Op.intCmp]
theorem b_leq {u v:Int} {b:Bool} (t:TypeId) (h:decide (u≤v)=b):(binOp .leq t (.int .i64 u) (.int .i64 v)).run Tryz.prog w=.ok (.bool b) w:=by
 subst h;simp [binOp,Op.intCmp]
theorem b_geq {u v:Int} {b:Bool} (t:TypeId) (h:decide (v≤u)=b):(binOp .geq t (.int .i64 u) (.int .i64 v)).run Tryz.prog w=.ok (.bool b) w:=by
 subst h;simp [binOp,Op.intCmp]
theorem b_neqB {u v:Int} {b:Bool} (t:TypeId) (h:decide (u≠v)=b):(binOp .neq t (.int .i64 u) (.int .i64 v)).run Tryz.prog w=.ok (.bool b) w:=by
 subst h
 by_cases e:u=v <;> simp [binOp,Op.intCmp,e]
def GI (w:World) (b:Nat) (d:Int) (a:Option Addr) (ll:List (List Int)) (c:Nat):Prop :=
 w.cell? ⟨b,0,none⟩=some (.int .i64 d)∧w.cell? ⟨b,1,none⟩=some (.slice a ll.length c)∧Rg.Rows w (.slice a ll.length c) ll∧b<w.heap.size
theorem GI.c0 {b:Nat} {a:Option Addr} {ll:List (List Int)} {c:Nat} (h:GI w b d a ll c):w.cell? ⟨b,0,none⟩=some (.int .i64 d):=h.1
theorem GI.c1 {b:Nat} {a:Option Addr} {ll:List (List Int)} {c:Nat} (h:GI w b d a ll c):w.cell? ⟨b,1,none⟩=some (.slice a ll.length c):=h.2.1
theorem GI.rows {b:Nat} {a:Option Addr} {ll:List (List Int)} {c:Nat} (h:GI w b d a ll c):Rg.Rows w (.slice a ll.length c) ll:=h.2.2.1
theorem GI.lt {b:Nat} {a:Option Addr} {ll:List (List Int)} {c:Nat} (h:GI w b d a ll c):b<w.heap.size:=h.2.2.2
theorem GI.below {w w':World} {b:Nat} {d:Int} {a:Option Addr} {ll:List (List Int)} {c:Nat} (h:GI w b d a ll c) (hb:Below w.heap.size w w'):GI w' b d a ll c :=
 ⟨(hb.cell (p:=⟨b,0,none⟩) h.lt).trans h.c0,(hb.cell (p:=⟨b,1,none⟩) h.lt).trans h.c1,Rg.Rows.below h.rows hb,Nat.lt_of_lt_of_le h.lt hb.size⟩
theorem GI.new {a:Option Addr} {ll:List (List Int)} {c:Nat} (h:Rg.Rows w (.slice a ll.length c) ll):GI (w.alloc (.cells #[.int .i64 d,.slice a ll.length c] 24)) w.heap.size d a ll c :=
 ⟨by rw [Rg.cellNew]; rfl,by rw [Rg.cellNew]; rfl,Rg.Rows.below h ((Below.refl _ _).alloc (Nat.le_refl _) _),by simp⟩
theorem GI.enter {gv:Value} (d:Int) {ll:List (List Int)} (h:Rg.Rows w gv ll):∃ a c,gv=.slice a ll.length c∧GI (w.alloc (.cells #[.int .i64 d,.slice a ll.length c] 24)) w.heap.size d a ll c∧Below w.heap.size w (w.alloc (.cells #[.int .i64 d,.slice a ll.length c] 24)):=by
 obtain ⟨a,c,rfl,_⟩:=h.shape;exact ⟨a,c,rfl,GI.new h,(Below.refl _ _).alloc (Nat.le_refl _) _⟩
end Go.Proofs.YtdnmmibchbceeaaGreat

namespace Go.Proofs.YtdnmmibchbceeaaGreat
open Go.RowKit
open Go.Proofs
open Go.Proofs.Ob
attribute [local irreducible] Go.Calls
def PR (B:Nat) (w:World) (v:Value) (gs:List (List Nat)):Prop :=
 B≤w.heap.size∧∃ us,w.ownsRow B 30 1 v gs.length us∧Rg.Elts w us gs∧Rg.Offs us v.ownBlock
theorem PR.nil {B:Nat} {w:World} (h:B≤w.heap.size):PR B w (.slice none 0 0) []:=⟨h,[],World.ownsRow_nil _ _ _ _,Rg.Elts.nil _,Rg.Offs.nil _⟩
theorem PR.below {B:Nat} {w w':World} {v:Value} {gs:List (List Nat)} (h:PR B w v gs) (hb:Below w.heap.size w w'):PR B w' v gs:=by
 obtain ⟨h0,us,h1,h2,h3⟩:=h;exact ⟨Nat.le_trans h0 hb.size,us,Rg.row_below h1 hb,h2.below hb,h3⟩
theorem PR.rows {B:Nat} {w:World} {v:Value} {gs:List (List Nat)} (h:PR B w v gs) (hl:gs.length≤1000000000):Rg.NRows w v gs:=by
 obtain ⟨h0,us,h1,h2,h3⟩:=h;exact h2.rows (Rg.Vals.of_row h1 hl)
theorem PR.lt {B:Nat} {w:World} {v:Value} {gs:List (List Nat)} (h:PR B w v gs):∀ j,v.ownBlock=some j→B≤j∧j<w.heap.size:=by
 obtain ⟨h0,us,h1,h2,h3⟩:=h;exact fun j e=>h1.lt j e
theorem PR.off (h:PR B w v gs) (hu:Rg.Fresh w.heap.size u):Rg.Off u v.ownBlock:=Rg.Off.fresh hu fun j e=>(h.lt j e).2
theorem PR.app {g:List Nat} (h:PR B w v gs) (hu:Rg.NP w u g) (hs:∃ a n c,u=.slice a n c) (ho:Rg.Off u v.ownBlock) (hn:gs.length<1000000) (ty:TypeId) :
  ∃ v' X,(Builtin.append_ #[22,22] ty #[v,.slice (some ⟨w.heap.size,0,none⟩) 1 1]).run Tryz.prog (w.alloc (.cells #[u] 30))=.ok v' X ∧
   PR B X v' (gs++[g])∧Below B w X∧(∀ v2 l2,Rg.NP w v2 l2→Rg.Off v2 v.ownBlock→Rg.NP X v2 l2∧Rg.Off v2 v'.ownBlock)∧(∃ a c,v'=.slice a (gs.length+1) c):=by
 obtain ⟨a,n,c,rfl⟩:=hs;obtain ⟨h0,us,h1,h2,h3⟩:=h;have hba:Below w.heap.size w (w.alloc (.cells #[.slice a n c] 30)):=(Below.refl _ _).alloc (Nat.le_refl _) _;obtain ⟨v',X,r1,r2,r3,r4,r5⟩:=app_run (P:=Tryz.prog) slPerms ty (Rg.row_below h1 hba) (by simp; omega) w.heap.size 1 (u:=.slice a n c) (by rw [Rg.cellNew]; rfl) rfl (by omega);have hE:=(h2.below hba).snoc (hu.below hba);have hO:=h3.snoc ho;have hge:(w.alloc (.cells #[.slice a n c] 30)).heap.size≤X.heap.size:=r3.size
 have hsz:(w.alloc (.cells #[.slice a n c] 30)).heap.size=w.heap.size+1:=by simp
 refine ⟨v',X,r1,⟨by omega,_,by rw [List.length_append]; exact r2,hE.grown hO r3,Rg.Offs.next hO hE r4 (Nat.le_refl _)⟩,((Below.refl _ _).alloc h0 _).grown r3 (by omega) (fun j e=>(h1.lt j e).1),fun v2 l2 e1 e2=>?_,r5⟩;exact ⟨(e1.below hba).grown e2 r3,Rg.Off.next e2 (e1.below hba) r4 (Nat.le_refl _)⟩
theorem run_build1P (X:World) (u:Value) (hs:∃ a n c,u=.slice a n c):(Instr.buildSlice 22 1 #[(0,u)]).run Tryz.prog X=.ok (.slice (some ⟨X.heap.size,0,none⟩) 1 1) (X.alloc (.cells #[u] 30)):=by
 obtain ⟨i0,hi,hz0,hz1,hz2⟩:=info_parts infoPerm;obtain ⟨a,n,c,rfl⟩:=hs;refine run_buildSlice X 22 30 1 _ _ i0 _ Tryz.underlying22 hi hz0 (by rw [hz1]; decide) (by rw [hz1]; decide) ?_;generalize (fun x=>((Value.slice none 0 0).cells)[x % (Value.slice none 0 0).cells.size]!)=f;rw [hz1];have h1:Array.range (1*1)=#[0]:=rfl;simp [Instr.fill,Value.cells,h1]
theorem ofN_inj {b:List Nat}:Ma.ofN a=Ma.ofN b↔a=b:=by
 constructor
 ·intro h
  have:=congrArg (fun l=>l.map Int.toNat) h
  simpa [Ma.ofN,List.map_map,Function.comp_def] using this
 ·rintro rfl; rfl

theorem szP:(Tryz.prog.info? 30).map (·.size)=some 1:=by kernel_rfl

theorem exec_makeFunc {o:Oper} {a:Act} (F:FuncId) (x:Operand) (ho:o.op=.makeFunc (.func F) #[] #[x]) (hx:a.eval x=v):(execOp a.eval o).run Tryz.prog w=.ok (.value (.func (.func F) #[] #[v])) w:=by
 unfold execOp;simp [ho,hx,Instr.makeFunc]

theorem exec_makeMap {o:Oper} {a:Act} (t:TypeId) (ho:o.op=.makeMap t none):(execOp a.eval o).run Tryz.prog w=.ok (.value (.map (some w.heap.size))) (w.alloc (.map #[] 0)):=by
 unfold execOp;have h:=run_makeMap_plain (P:=Tryz.prog) w t;simp [ho,h,Result.andThen]
end Go.Proofs.YtdnmmibchbceeaaGreat

namespace Go.Proofs
open Go.Shelf
def Tryz.lays189_ren:Go.Shelf.Ren:=⟨fun | 189=>144 | 125=>82 | 257=>158 | 128=>109 | 129=>110 | 294=>159 | 295=>160 | 296=>161 | 297=>162 | 298=>163 | 299=>164 | 216=>165 | 300=>166 | 301=>167 | 328=>168 | 329=>129 | 330=>130 | 331=>169 | 332=>170 | 215=>133 | 343=>171 | n=>n,fun | 28=>25 | 3=>3 | 46=>129 | 0=>0 | 51=>157 | 53=>159 | 4=>4 | 183=>151 | 182=>150 | 131=>118 | 5=>5 | 9=>9 | 218=>182 | 222=>186 | 228=>202 | 229=>203 | n=>n,fun | n=>n⟩
theorem Tryz.lays189:Go.Proofs.Lays.n189 Tryz.prog Tryz.lays189_ren:={
 mixed:=by kernel_rfl
 f125:=Tryz.func82.trans (congrArg some (by kernel_rfl))
 f128:=Tryz.func109.trans (congrArg some (by kernel_rfl))
 f129:=Tryz.func110.trans (congrArg some (by kernel_rfl))
 f189:=Tryz.func144.trans (congrArg some (by kernel_rfl))
 f215:=Tryz.func133.trans (congrArg some (by kernel_rfl))
 f216:=Tryz.func165.trans (congrArg some (by kernel_rfl))
 f257:=Tryz.func158.trans (congrArg some (by kernel_rfl))
 f294:=Tryz.func159.trans (congrArg some (by kernel_rfl))
 f295:=Tryz.func160.trans (congrArg some (by kernel_rfl))
 f296:=Tryz.func161.trans (congrArg some (by kernel_rfl))
 f297:=Tryz.func162.trans (congrArg some (by kernel_rfl))
 f298:=Tryz.func163.trans (congrArg some (by kernel_rfl))
 f299:=Tryz.func164.trans (congrArg some (by kernel_rfl))
 f300:=Tryz.func166.trans (congrArg some (by kernel_rfl))
 f301:=Tryz.func167.trans (congrArg some (by kernel_rfl))
 f328:=Tryz.func168.trans (congrArg some (by kernel_rfl))
 f329:=Tryz.func129.trans (congrArg some (by kernel_rfl))
 f330:=Tryz.func130.trans (congrArg some (by kernel_rfl))
 f331:=Tryz.func169.trans (congrArg some (by kernel_rfl))
 f332:=Tryz.func170.trans (congrArg some (by kernel_rfl))
 f343:=Tryz.func171.trans (congrArg some (by kernel_rfl))
 t0:=Tryz.underlying0
 a0:=Tryz.isAgg0
 z0:=Tryz.sizeOf0
 v0:=Tryz.zeroValue0
 t3:=Tryz.underlying3
 a3:=Tryz.isAgg3
 z3:=Tryz.sizeOf3
 v3:=Tryz.zeroValue3
 t4:=Tryz.underlying4
 a4:=Tryz.isAgg4
 z4:=Tryz.sizeOf4
 v4:=Tryz.zeroValue4
 t5:=Tryz.underlying5
 a5:=Tryz.isAgg5
 z5:=Tryz.sizeOf5
 v5:=Tryz.zeroValue5
 t9:=Tryz.underlying9
 a9:=Tryz.isAgg9
 z9:=Tryz.sizeOf9
 v9:=Tryz.zeroValue9
 t28:=Tryz.underlying25
 a28:=Tryz.isAgg25
 z28:=Tryz.sizeOf25
 v28:=Tryz.zeroValue25
 t46:=Tryz.underlying129
 a46:=Tryz.isAgg129
 z46:=Tryz.sizeOf129
 v46:=Tryz.zeroValue129
 t51:=Tryz.underlying157
 a51:=Tryz.isAgg157
 z51:=Tryz.sizeOf157
 v51:=Tryz.zeroValue157
 t53:=Tryz.underlying159
 a53:=Tryz.isAgg159
 z53:=Tryz.sizeOf159
 v53:=Tryz.zeroValue159
 t131:=Tryz.underlying118
 a131:=Tryz.isAgg118
 z131:=Tryz.sizeOf118
 v131:=Tryz.zeroValue118
 t182:=Tryz.underlying150
 a182:=Tryz.isAgg150
 z182:=Tryz.sizeOf150
 v182:=Tryz.zeroValue150
 t183:=Tryz.underlying151
 a183:=Tryz.isAgg151
 z183:=Tryz.sizeOf151
 v183:=Tryz.zeroValue151
 t218:=Tryz.underlying182
 a218:=Tryz.isAgg182
 z218:=Tryz.sizeOf182
 v218:=Tryz.zeroValue182
 t222:=Tryz.underlying186
 a222:=Tryz.isAgg186
 z222:=Tryz.sizeOf186
 v222:=Tryz.zeroValue186
 t228:=Tryz.underlying202
 a228:=Tryz.isAgg202
 z228:=Tryz.sizeOf202
 v228:=Tryz.zeroValue202
 t229:=Tryz.underlying203
 a229:=Tryz.isAgg203
 z229:=Tryz.sizeOf203
 v229:=Tryz.zeroValue203 }
open Go.Sort Go.RowKit in
theorem Tryz.slices_Sort_int (blk off cap:Nat) (zs:List Int) (w:World) (hH:Holds (Value.int .i64) w blk off zs.toArray) (hblk:blk<w.heap.size) (hsz:zs.length<4611686018427387904) :
  Calls Tryz.prog 144 #[.slice (some ⟨blk,off,none⟩) zs.length cap] w fun e w' =>
   e=.returned (.tuple #[])∧∃ n os,w'=grow (putRow (Value.int .i64) (Sort.ahead w n) blk off (zs.mergeSort fun x y=>decide (x≤y)).toArray) os:=Any.slices_Sort_int Tryz.lays189 blk off cap zs w hH hblk hsz
end Go.Proofs

namespace Go.Proofs.YtdnmmibchbceeaaGreat
open Go.RowKit
open Go.Proofs
open Go.Proofs.Ob
attribute [local irreducible] Go.Calls
theorem asc_length (l:List Int):(asc l).length=l.length:=by
 rw [asc_sort]; exact List.length_mergeSort _
theorem sort_own (B n:Nat) (v:Value) (l:List Int) (w:World) (h:w.ownsRow B 3 1 v n (l.map (Value.int .i64))) (hn:0<n) (hm:n≤1000000000) :
  Calls Tryz.prog 144 #[v] w fun e w'=>(∃ r,e=.returned r)∧w'.ownsRow B 3 1 v n ((asc l).map (Value.int .i64))∧w.grownBy w' v.ownBlock:=by
 obtain ⟨h1,h2⟩:=h
 have hl:l.length=n:=by simpa using h1
 rcases h2 with ⟨_,h0⟩ | ⟨g,cap,cur,rfl,hg,hc,h3,h4,h5,h6⟩
 ·omega
 subst hl;rw [Nat.mul_one] at h6;have hH:=holds_of_blockI hc h6;refine (Tryz.slices_Sort_int g 0 cap l w hH (Array.getElem?_eq_some_iff.1 hc).1 (by omega)).mono ?_;rintro e w' ⟨rfl,N,os,rfl⟩;have e1:(l.mergeSort fun x y=>decide (x≤y))=asc l:=(asc_sort l).symm;rw [e1];refine ⟨⟨_,rfl⟩,ownsRow_sortedI (asc_length l) hg hc h3 h4 h5,grownBy_sortedI _⟩
end Go.Proofs.YtdnmmibchbceeaaGreat

namespace Go.Proofs.Rg
open Go Go.RowKit
variable {P:Program} {md:Region.Mode} {ops:Array Oper} {Q:Exit→Act→World→Prop} {S:Array Bool→World→Prop}
theorem doesRun {i d:Nat} {I:World→Prop} {R:Value→World→Prop} {K:World→World→Prop} {oi:Oper} {b:Act} (hi:ops[i]?=some oi) (hd:oi.dst=some d) (hw:Region.wanted oi (yielded ops b.tmps)=true)
  (hr:(execOp b.eval oi).run P W=.ok (.value v) W') (hp:I W'∧R v W'∧K W W'):Does P ops Q i d I R K b W :=
 wpOp_value (some d) hi hd hw hr ⟨v,rfl,hp⟩
def BlkF (B:Nat) (us:List Value) (v:Value) (w:World):Prop:=∃ p,v=.slice (some ⟨p,0,none⟩) us.length us.length∧B≤p∧p<w.heap.size∧∀ j (h:j<us.length),w.cell? ⟨p,j,none⟩=some us[j]
theorem BlkF.below {us:List Value} (h:BlkF B us v w) (hb:Below w.heap.size w w'):BlkF B us v w':=by
 obtain ⟨p,e,h0,h1,h2⟩:=h;exact ⟨p,e,h0,Nat.lt_of_lt_of_le h1 hb.size,fun j hj=>(hb.cell (p:=⟨p,j,none⟩) h1).trans (h2 j hj)⟩
theorem BlkF.new (w:World) (us:List Value) (t:TypeId) (hB:B≤w.heap.size):BlkF B us (.slice (some ⟨w.heap.size,0,none⟩) us.length us.length) (w.alloc (.cells us.toArray t)) :=
 ⟨w.heap.size,rfl,hB,by simp,fun j hj=>by rw [cellNew]; simp [List.getElem?_eq_getElem hj]⟩
theorem BlkF.grown {us:List Value} {k:Option Nat} (h:BlkF B us v w) (hg:w.grownBy w' k) (hk:∀ j,k=some j→j<B):BlkF B us v w':=by
 obtain ⟨p,e,h0,h1,h2⟩:=h
 exact ⟨p,e,h0,Nat.lt_of_lt_of_le h1 hg.size,fun j hj=>by
  rw [← h2 j hj]
  exact World.cell?_of_block (a:=⟨p,j,none⟩) (hg.block p h1 (fun e=>by have:=hk p e.symm; omega))⟩
theorem BlkF.vals {us:List Value} (h:BlkF B us v w) (hl:us.length≤1000000):Vals w v us:=by
 obtain ⟨p,rfl,h0,h1,h2⟩:=h;exact Vals.mk h1 (Nat.le_refl _) (by unfold maxLen; omega) (by omega) (fun i hi=>by rw [Nat.zero_add]; exact h2 i hi)
end Go.Proofs.Rg

namespace Go.Proofs.YtdnmmibchbceeaaGreat
open Go.RowKit
open Go.Proofs
open Go.Proofs.Ob
attribute [local irreducible] Go.Calls
def Own0 (B:Nat) (u:Value) (w:World):Prop:=w.ownsRow B 3 1 u 0 []∧∃ p,u=.slice (some ⟨p,0,none⟩) 0 0∧p<w.heap.size∧w.cell? ⟨p,0,none⟩=none
theorem Own0.below (h:Own0 B u w) (hb:Below w.heap.size w w'):Own0 B u w':=by
 obtain ⟨h1,p,e,h2,h3⟩:=h;exact ⟨Rg.row_below h1 hb,p,e,Nat.lt_of_lt_of_le h2 hb.size,(hb.cell (p:=⟨p,0,none⟩) h2).trans h3⟩
theorem Own0.new (w:World) (hB:B≤w.heap.size):Own0 B (.slice (some ⟨w.heap.size,0,none⟩) 0 0) (w.alloc (.cells #[] 3)):=by
 refine ⟨⟨rfl,.inr ⟨w.heap.size,0,#[],rfl,hB,by show (w.heap.push _)[w.heap.size]?=_; simp,Nat.le_refl _,Nat.zero_le _,rfl,rfl⟩⟩,w.heap.size,rfl,by simp,by rw [Rg.cellNew]; rfl⟩
theorem Own0.ne {B':Nat} {x:Value} (h:Own0 B u w) (h':Rg.BlkF B' [x] v w):∀ p,v=.slice (some ⟨p,0,none⟩) 1 1→u.ownBlock≠some p:=by
 obtain ⟨_,p,rfl,_,h3⟩:=h;obtain ⟨q,rfl,_,_,h4⟩:=h';intro p' e' e;simp at e';subst e';simp [Value.ownBlock] at e;subst e;have:=h4 0 (by simp);rw [h3] at this; cases this
theorem BlkF.off {x:Value} {k:Option Nat} (h:Rg.BlkF B [x] v w) (hg:w.grownBy w' k) (hk:∀ p,v=.slice (some ⟨p,0,none⟩) 1 1→k≠some p):Rg.BlkF B [x] v w':=by
 obtain ⟨p,e,h0,h1,h2⟩:=h
 exact ⟨p,e,h0,Nat.lt_of_lt_of_le h1 hg.size,fun j hj=>by
  rw [← h2 j hj]
  exact World.cell?_of_block (a:=⟨p,j,none⟩) (hg.block p h1 (fun e'=>hk p e e'.symm))⟩
theorem ints_cells:∀ u∈l.map (Value.int .i64),u.oneCell'=true:=fun u hu=>by
 obtain ⟨x,_,rfl⟩:=List.mem_map.1 hu; rfl

def R2 (B:Nat) (w:World) (v1 v2:Value) (l1 l2:List Int):Prop :=
 B≤w.heap.size∧w.ownsRow B 3 1 v1 l1.length (l1.map (Value.int .i64))∧w.ownsRow B 3 1 v2 l2.length (l2.map (Value.int .i64))∧Rg.Apart v1 v2
theorem R2.below (h:R2 B w v1 v2 l1 l2) (hb:Below w.heap.size w w'):R2 B w' v1 v2 l1 l2 :=
 ⟨Nat.le_trans h.1 hb.size,Rg.row_below h.2.1 hb,Rg.row_below h.2.2.1 hb,h.2.2.2⟩
theorem R2.lt1 (h:R2 B w v1 v2 l1 l2):∀ j,v1.ownBlock=some j→B≤j∧j<w.heap.size:=fun j e=>h.2.1.lt j e
theorem R2.nil {B:Nat} {w:World} (h:B≤w.heap.size):R2 B w (.slice none 0 0) (.slice none 0 0) [] []:=⟨h,World.ownsRow_nil _ _ _ _,World.ownsRow_nil _ _ _ _,Rg.Apart.nil _⟩
theorem R2.app1 (h:R2 B w v1 v2 l1 l2) (hl:l1.length<1000000) {x:Int} {p c:Nat} (hc:w.cell? ⟨p,0,none⟩=some (.int .i64 x)) (ty:TypeId) :
  ∃ v' X,(Builtin.append_ #[25,25] ty #[v1,.slice (some ⟨p,0,none⟩) 1 c]).run Tryz.prog w=.ok v' X∧R2 B X v' v2 (l1++[x]) l2∧w.grownBy X v1.ownBlock:=by
 obtain ⟨h1,h2,h3,h4⟩:=h;obtain ⟨v',X,r1,r2,r3,r4,_⟩:=app_run (P:=Tryz.prog) slInts ty h2 h1 p c hc rfl hl;exact ⟨v',X,r1,⟨Nat.le_trans h1 r3.size,by simpa using r2,h4.keep h3 r3,h4.grow h3 r4 (Nat.le_refl _)⟩,r3⟩
theorem R2.swap (h:R2 B w v1 v2 l1 l2):R2 B w v2 v1 l2 l1:=⟨h.1,h.2.2.1,h.2.1,h.2.2.2.symm⟩
end Go.Proofs.YtdnmmibchbceeaaGreat

namespace Go.Proofs.YtdnmmibchbceeaaGreat
open Go.RowKit
open Go.Proofs
open Go.Proofs.Ob
attribute [local irreducible] Go.Calls
variable {t e bt:TypeId} {B X n:Nat} {w w':World} {v lv:Value} {O:List (List Int)} {l:List Int} {F:Nat→Bool}
theorem infoInts:(Tryz.prog.info? 25).map (fun i=>(i.zero,i.size,i.bytes))=some (some (.slice none 0 0),1,24):=by kernel_rfl
theorem slIntss:Rg.SlT Tryz.prog 84 25 (.slice none 0 0) 24:=⟨Tryz.underlying84,infoInts,rfl,by decide⟩
theorem run_build1L (X:World) (u:Value) (hs:∃ a n c,u=.slice a n c):(Instr.buildSlice 84 1 #[(0,u)]).run Tryz.prog X=.ok (.slice (some ⟨X.heap.size,0,none⟩) 1 1) (X.alloc (.cells #[u] 25)):=by
 obtain ⟨i0,hi,hz0,hz1,hz2⟩:=info_parts infoInts;obtain ⟨a,n,c,rfl⟩:=hs;refine run_buildSlice X 84 25 1 _ _ i0 _ Tryz.underlying84 hi hz0 (by rw [hz1]; decide) (by rw [hz1]; decide) ?_;generalize (fun x=>((Value.slice none 0 0).cells)[x % (Value.slice none 0 0).cells.size]!)=f;rw [hz1];have h1:Array.range (1*1)=#[0]:=rfl;simp [Instr.fill,Value.cells,h1]
end Go.Proofs.YtdnmmibchbceeaaGreat

namespace Go.Proofs.YtdnmmibchbceeaaGreat
open Go.RowKit
open Go.Proofs
attribute [local irreducible] Go.Calls
theorem chMul_any (v1 v2:Value) (a c:List Nat) (w:World) (h:Rg.NP w v1 a) (h':Rg.NP w v2 c) (hac:∀ x∈a,x<c.length) (hn:a.length≤1000) (h1:1≤a.length) (h2:1≤c.length) :
  Calls Tryz.prog 146 #[v1,v2] w fun e w'=>∃ v,e=.returned v∧Rg.NPF w w' v (Ma.mulN a c)∧Below w.heap.size w w':=by
 obtain ⟨ad,cap,rfl,hc,_,_,hcell⟩:=h.shape;obtain ⟨b,o,rfl,hb,hr⟩:=hcell (by omega);obtain ⟨ad2,cap2,rfl,hc2,_,_,hcell2⟩:=h'.shape;obtain ⟨b2,o2,rfl,hb2,hr2⟩:=hcell2 (by omega);have Hr:=ι hr;have Hr2:=ι hr2;have Hac:=ι hac;clear hr hcell h hr2 hcell2 h' hac;have hmk:=mkPerm a.length (by omega) w;have hrow:=ι (World.rowIs_made w (.int .i64 0) a.length 3)
 go_enter Tryz.func146,Tryz.ntmps146
 go_wp2;clear hmk
 go_loopw [13] (fun i wr=>∃ k:Nat,k≤a.length∧i=.int .i64 k∧Hid (wr.rowIs w.heap.size 3 a.length (fun j=>.int .i64 (if j<k then ((c.getD (a.getD j 0) 0:Nat):Int) else 0)))∧Below w.heap.size w wr) (fun i _=>a.length - (intOf i).toNat)
 case atStart=>exact ⟨0,by omega,rfl,hrow.out.congr (fun i hi=>by simp),(Below.refl _ _).alloc (Nat.le_refl _) _⟩
 case round =>
  obtain ⟨k,hk,rfl,hs,hbel⟩:=hrel;obtain ⟨hc,hf⟩:=Rg.bcell hbel
  by_cases hlt:k<a.length
  ·have e0:wr.cell? ⟨b,o+k,none⟩=some (.int .i64 ((a[k]:Nat):Int)):=(hc b (o+k) hb).trans (Hr.out k hlt)
   have hak:a[k]<c.length:=Hac.out _ (List.getElem_mem hlt);have hga:a.getD k 0=a[k]:=Ma.getD_lt hlt
   have e1:wr.cell? ⟨b2,o2+a[k],none⟩=some (.int .i64 ((c.getD (a.getD k 0) 0:Nat):Int)):=by
    rw [hga,Ma.getD_lt hak];exact (hc b2 (o2+a[k]) hb2).trans (Hr2.out a[k] hak)
   generalize a[k]=x at *;have Hga:=ι hga;generalize hy:c.getD (a.getD k 0) 0=y at *;have Hy:=ι hy;clear hc hf hga hy;have c1:=hs.out.cell hlt;have f1:=hs.out.frozen k;simp only [Nat.lt_irrefl,if_false] at c1;go_wp2
   go_roundw
   case rel =>
    refine ⟨k+1,by omega,by go_num,?_,hbel.setCell (Nat.le_refl _) _⟩;refine (hs.out.set k _).congr fun i hi=>?_
    by_cases e:i=k
    ·subst e; rw [if_pos rfl,if_pos (by omega),Hy.out]
    ·rw [if_neg e]
     by_cases e2:i<k
     ·rw [if_pos e2,if_pos (by omega)]
     ·rw [if_neg e2,if_neg (by omega)]
   case measure=>simp [intOf]; omega
  ·obtain rfl:k=a.length:=by omega
   go_wp2;go_ret;refine ⟨_,rfl,⟨Rg.NP.of_rowIs hs.out (by rw [Ma.len_mulN]) (by omega) (fun i hi=>?_),Rg.Fresh.mk _ _ _ _⟩,by assumption⟩;rw [Ma.get_mulN];rw [Ma.len_mulN] at hi;rw [if_pos hi,Ma.getD_lt hi]
theorem chOne_any (n:Nat) (w:World) (hn:n≤1000) :
  Calls Tryz.prog 140 #[.int .i64 n] w fun e w'=>∃ v,e=.returned v∧Rg.NPF w w' v (Ma.oneN n)∧Below w.heap.size w w':=by
 have hmk:=mkPerm n (by omega) w;have hrow:=ι (World.rowIs_made w (.int .i64 0) n 3)
 go_enter Tryz.func140,Tryz.ntmps140
 go_wp2;clear hmk
 go_loopw [9] (fun i wr=>∃ k:Nat,k≤n∧i=.int .i64 k∧Hid (wr.rowIs w.heap.size 3 n (fun j=>.int .i64 (if j<k then (j:Int) else 0)))∧Below w.heap.size w wr) (fun i _=>n - (intOf i).toNat)
 case atStart=>exact ⟨0,by omega,rfl,hrow.out.congr (fun i hi=>by simp),(Below.refl _ _).alloc (Nat.le_refl _) _⟩
 case round =>
  obtain ⟨k,hk,rfl,hs,hbel⟩:=hrel
  by_cases hlt:k<n
  ·have c1:=hs.out.cell hlt
   have f1:=hs.out.frozen k;simp only [Nat.lt_irrefl,if_false] at c1;go_wp2
   go_roundw
   case rel =>
    refine ⟨k+1,by omega,by go_num,?_,hbel.setCell (Nat.le_refl _) _⟩;refine (hs.out.set k _).congr fun i hi=>?_
    by_cases e:i=k
    ·subst e; simp
    ·rw [if_neg e]
     by_cases e2:i<k
     ·rw [if_pos e2,if_pos (by omega)]
     ·rw [if_neg e2,if_neg (by omega)]
   case measure=>simp [intOf]; omega
  ·obtain rfl:k=n:=by omega
   go_wp2;go_ret;refine ⟨_,rfl,⟨Rg.NP.of_rowIs hs.out (by rw [Ma.len_oneN]) (by omega) (fun i hi=>?_),Rg.Fresh.mk _ _ _ _⟩,by assumption⟩;rw [Ma.get_oneN];rw [Ma.len_oneN] at hi;rw [if_pos hi]
theorem chInv_any (v:Value) (a:List Nat) (w:World) (h:Rg.NP w v a) (ha:Ma.okN a) (hn:a.length≤1000) (h1:1≤a.length) :
  Calls Tryz.prog 156 #[v] w fun e w'=>∃ v,e=.returned v∧Rg.NPF w w' v (Ma.invN a)∧Below w.heap.size w w':=by
 obtain ⟨ad,cap,rfl,hc,_,_,hcell⟩:=h.shape;obtain ⟨b,o,rfl,hb,hr⟩:=hcell (by omega);have Hr:=ι hr;clear hr hcell h;have hmk:=mkPerm a.length (by omega) w;have hrow:=ι (World.rowIs_made w (.int .i64 0) a.length 3)
 go_enter Tryz.func156,Tryz.ntmps156
 go_wp2;clear hmk
 go_loopw [11] (fun i wr=>∃ k:Nat,k≤a.length∧i=.int .i64 k∧Hid (wr.rowIs w.heap.size 3 a.length (fun j=>.int .i64 (if j∈a.take k then ((a.idxOf j:Nat):Int) else 0)))∧Below w.heap.size w wr) (fun i _=>a.length - (intOf i).toNat)
 case atStart=>exact ⟨0,by omega,rfl,hrow.out.congr (fun i hi=>by simp),(Below.refl _ _).alloc (Nat.le_refl _) _⟩
 case round =>
  obtain ⟨k,hk,rfl,hs,hbel⟩:=hrel;obtain ⟨hc,hf⟩:=Rg.bcell hbel
  by_cases hlt:k<a.length
  ·have hlt':k<a.length:=hlt
   have e0:wr.cell? ⟨b,o+k,none⟩=some (.int .i64 ((a[k]:Nat):Int)):=(hc b (o+k) hb).trans (Hr.out k hlt');have hak:a[k]<a.length:=Ma.okN_lt ha hlt';have hix:=Ma.idx_get ha hlt'
   have hmem:∀ i,i∈a.take (k+1)↔(i∈a.take k∨i=a[k]):=fun i=>by rw [List.take_succ_eq_append_getElem hlt',List.mem_append,List.mem_singleton]
   generalize hx:a[k]=x at *;have Hx:=ι hx;have Hix:=ι hix;have Hmem:=ι hmem;clear hx hc hf hix hmem;have c1:=hs.out.cell hak;have f1:=hs.out.frozen x;generalize (Value.int .i64 (if x∈a.take k then ((a.idxOf x:Nat):Int) else 0))=u0 at c1;go_wp2
   go_roundw
   case rel =>
    refine ⟨k+1,by omega,by go_num,?_,hbel.setCell (Nat.le_refl _) _⟩;refine (hs.out.set x _).congr fun i hi=>?_
    by_cases e:i=x
    ·subst e; rw [if_pos rfl,if_pos ((Hmem.out i).2 (.inr rfl)),Hix.out]
    ·rw [if_neg e]
     by_cases e2:i∈a.take k
     ·rw [if_pos e2,if_pos ((Hmem.out i).2 (.inl e2))]
     ·rw [if_neg e2,if_neg (fun e3=>((Hmem.out i).1 e3).elim e2 e)]
   case measure=>simp [intOf]; omega
  ·obtain rfl:k=a.length:=by omega
   go_wp2;go_ret;refine ⟨_,rfl,⟨Rg.NP.of_rowIs hs.out (by rw [Ma.len_invN]) (by omega) (fun i hi=>?_),Rg.Fresh.mk _ _ _ _⟩,by assumption⟩;rw [Ma.get_invN];rw [Ma.len_invN] at hi;rw [List.take_of_length_le (Nat.le_refl _),if_pos (Ma.okN_mem ha hi)]
theorem rowKp {e:TypeId} {size:Nat} {xs:List Value} (h:w.ownsRow base e size v n xs) (hk:Rg.Kp M w w') (hM:∀ k,M k→v.ownBlock≠some k):w'.ownsRow base e size v n xs:=by
 obtain ⟨h1,h2⟩:=h
 rcases h2 with h2 | ⟨g,cap,cur,rfl,hg,hc,h3⟩
 ·exact ⟨h1,.inl h2⟩
 ·exact ⟨h1,.inr ⟨g,cap,cur,rfl,hg,(hk.block g (Array.getElem?_eq_some_iff.1 hc).1 (fun e=>hM g e (by simp [Value.ownBlock]))).trans hc,h3⟩⟩
def KF (F:Nat→Prop) (w w':World):Prop:=Rg.Kp (fun k=>¬ F k) w w'
theorem KF.refl (F:Nat→Prop) (w:World):KF F w w:=Rg.Kp.refl _ _
theorem KF.size {F:Nat→Prop} {w w':World} (h:KF F w w'):w.heap.size≤w'.heap.size:=Rg.Kp.size h
theorem KF.of_below {F:Nat→Prop} {w w':World} (h:Below w.heap.size w w'):KF F w w':=Rg.Kp.of_below h
theorem KF.trans {F F':Nat→Prop} {w w' w'':World} (h:KF F w w') (h':KF F' w' w'') (hF:∀ k,F k→F' k):KF F w w'':=Rg.Kp.trans h h' (fun k _ hk hf=>hk (hF k hf))
theorem KF.weak {F F':Nat→Prop} {w w':World} (h:KF F' w w') (hF:∀ k,F k→F' k):KF F w w':=Rg.Kp.weak h (fun k hk hf=>hk (hF k hf))
theorem KF.cell {F:Nat→Prop} {w w':World} (h:KF F w w') {b o:Nat} (hF:F b) (hb:b<w.heap.size):w'.cell? ⟨b,o,none⟩=w.cell? ⟨b,o,none⟩ :=
 World.cell?_of_block (a:=⟨b,o,none⟩) (Rg.Kp.block h b hb (fun e=>e hF))
theorem KF.below (h:KF F w w') (hB:B≤w.heap.size) (hF:∀ k,k<B→F k):Below B w w' :=
 ⟨Rg.Kp.os h,Rg.Kp.tape h,Rg.Kp.output h,h.size,fun k hk=>Rg.Kp.block h k (Nat.lt_of_lt_of_le hk hB) (fun e=>e (hF k hk))⟩
def Fup (F:Nat→Prop) (w w':World):Nat→Prop:=fun k=>F k∨(w.heap.size≤k∧k<w'.heap.size)
structure KG (F0:Nat→Prop) (w0:World) (F:Nat→Prop) (w:World):Prop where
 sub:∀ k,F0 k→F k
 lt:∀ k,F k→k<w.heap.size
 kf:KF F0 w0 w
theorem KG.refl {F:Nat→Prop} {w:World} (h:∀ k,F k→k<w.heap.size):KG F w F w:=⟨fun _ h=>h,h,KF.refl _ _⟩
theorem KG.up (h:KG F0 w0 F w) (hb:Below w.heap.size w w'):KG F0 w0 (Fup F w w') w' :=
 ⟨fun k hk=>.inl (h.sub k hk),fun k hk=>by rcases hk with hk | hk; exact Nat.lt_of_lt_of_le (h.lt k hk) hb.size; exact hk.2,KF.trans h.kf (KF.of_below (F:=F) hb) h.sub⟩
theorem KG.kf' (h:KG F0 w0 F w) (hk:KF F w w'):KG F0 w0 F w' :=
 ⟨h.sub,fun k hf=>Nat.lt_of_lt_of_le (h.lt k hf) hk.size,KF.trans h.kf hk h.sub⟩
theorem KG.trans {F0 F F':Nat→Prop} {w0 w w':World} (h:KG F0 w0 F w) (h':KG F w F' w'):KG F0 w0 F' w' :=
 ⟨fun k hk=>h'.sub k (h.sub k hk),h'.lt,KF.trans h.kf h'.kf h.sub⟩
structure CF (F:Nat→Prop) (w:World) (b o:Nat) (v:Value):Prop where
 cell:w.cell? ⟨b,o,none⟩=some v
 inF:F b
 lt:b<w.heap.size
theorem CF.up {b o:Nat} (h:CF F w b o v) (hb:Below w.heap.size w w'):CF (Fup F w w') w' b o v :=
 ⟨(hb.cell (p:=⟨b,o,none⟩) h.lt).trans h.cell,.inl h.inF,Nat.lt_of_lt_of_le h.lt hb.size⟩
theorem CF.kf {b o:Nat} (h:CF F w b o v) (hk:KF F w w'):CF F w' b o v :=
 ⟨(hk.cell h.inF h.lt).trans h.cell,h.inF,Nat.lt_of_lt_of_le h.lt hk.size⟩
theorem CF.mono {b o:Nat} (h:CF F w b o v) (hF:∀ k,F k→F' k):CF F' w b o v:=⟨h.cell,hF _ h.inF,h.lt⟩
theorem CF.kg {b o:Nat} (h:CF F w b o v) (hk:KG F w F' w'):CF F' w' b o v:=(h.kf hk.kf).mono hk.sub
theorem fvals_up {us:List Value} (h:Rg.FVals F w v us) (hb:Below w.heap.size w w'):Rg.FVals (Fup F w w') w' v us:=by
 obtain ⟨a,cap,h1,h2,h3,h4,h5⟩:=h;refine ⟨a,cap,h1,h2,h3,h4,fun h0=>?_⟩;obtain ⟨b,o,e1,e2,e3,e4⟩:=h5 h0;exact ⟨b,o,e1,Nat.lt_of_lt_of_le e2 hb.size,.inl e3,fun i hi=>(hb.cell (p:=⟨b,o+i,none⟩) e2).trans (e4 i hi)⟩
def FP (F:Nat→Prop) (w:World) (v:Value) (p:List Nat):Prop:=Rg.FI F w v (Ma.ofN p)
theorem FP.np {p:List Nat} (h:FP F w v p):Rg.NP w v p:=Rg.FI.ints h
theorem FP.up {p:List Nat} (h:FP F w v p) (hb:Below w.heap.size w w'):FP (Fup F w w') w' v p:=fvals_up h hb
theorem FP.kf {p:List Nat} (h:FP F w v p) (hk:KF F w w'):FP F w' v p:=Rg.FI.kp h hk (fun _ hF hn=>hn hF)
theorem FP.mono {F F':Nat→Prop} {w:World} {v:Value} {p:List Nat} (h:FP F w v p) (hF:∀ k,F k→F' k):FP F' w v p:=Rg.FI.mono h hF
theorem FP.kg {p:List Nat} (h:FP F w v p) (hk:KG F w F' w'):FP F' w' v p:=(h.kf hk.kf).mono hk.sub
theorem FP.new {p:List Nat} (h:Rg.NPF w w' v p):FP (Fup F w w') w' v p:=by
 obtain ⟨h,hf⟩:=h;obtain ⟨a,cap,h1,h2,h3,h4,h5⟩:=h;refine ⟨a,cap,h1,h2,h3,h4,fun h0=>?_⟩;obtain ⟨b,o,e1,e2,e3⟩:=h5 h0;subst e1;exact ⟨b,o,rfl,e2,.inr ⟨hf _ _ _ h1,e2⟩,e3⟩
theorem FP.shape {p:List Nat} (h:FP F w v p) (h1:1≤p.length):∃ b o c,v=.slice (some ⟨b,o,none⟩) p.length c∧F b∧b<w.heap.size∧∀ i (hi:i<p.length),w.cell? ⟨b,o+i,none⟩=some (.int .i64 ((p[i]:Nat):Int)):=by
 obtain ⟨a,cap,e,h2,h3,h4,h5⟩:=h;rw [List.length_map,Ma.len_ofN] at e;obtain ⟨b,o,e1,e2,e3,e4⟩:=h5 (by rw [List.length_map,Ma.len_ofN]; omega);subst e1;exact ⟨b,o,cap,e,e3,e2,fun i hi=>by rw [e4 i (by simp [Ma.len_ofN]; exact hi)]; simp [Ma.ofN]⟩
theorem FP.cell {b o c:Nat} {p:List Nat} (h:FP F w (.slice (some ⟨b,o,none⟩) n c) p) {i:Nat} (hi:i<p.length):CF F w b (o+i) (.int .i64 ((p.getD i 0:Nat):Int)):=by
 obtain ⟨b',o',c',e,h1,h2,h3⟩:=h.shape (by omega);simp at e;obtain ⟨⟨rfl,rfl⟩,_,_⟩:=e;exact ⟨by rw [h3 i hi]; simp [List.getD,List.getElem?_eq_getElem hi],h1,h2⟩
structure LV where
 g:Value
 us:List Value
 o:Value
 t:Nat→Value
 b:Nat→Value
open Go.Proofs.Cm (Lv Twr)
def cont (l:Lv) (v:LV) (m:Nat):Value :=
 if m=0 then v.g else if m=1 then v.o else if m<66 then v.t (m - 2) else if m<130 then v.b (m - 66) else .int .i64 ((l.tried (m - 130):Nat):Int)
structure LvOk (F:Nat→Prop) (L:Nat) (w:World) (l:Lv) (v:LV):Prop where
 gown:w.ownsRow 0 30 1 v.g l.gens.length v.us
 gel:Rg.FElts F w v.us (l.gens.map Ma.ofN)
 oown:w.ownsRow 0 3 1 v.o l.orb.length ((Ma.ofN l.orb).map (Value.int .i64))
 gF:∀ k,v.g.ownBlock=some k→¬ F k∧k≠L
 oF:∀ k,v.o.ownBlock=some k→¬ F k∧k≠L
 go:∀ k,v.g.ownBlock=some k→v.o.ownBlock≠some k
 some_:∀ p x,p<64→l.rep p=some x→FP F w (v.t p) x∧FP F w (v.b p) (Ma.invN x)
 none_:∀ p,p<64→l.rep p=none→v.t p=.slice none 0 0∧v.b p=.slice none 0 0
def LV.own (v:LV) (k:Nat):Prop:=v.g.ownBlock=some k∨v.o.ownBlock=some k
structure TowAt (F:Nat→Prop) (L n:Nat) (w:World) (T:Twr) (V:Nat→LV):Prop where
 Flt:∀ k,F k→k<w.heap.size
 LF:¬ F L
 row:w.rowIs L 178 (n*194) (fun j=>cont (T (j / 194)) (V (j / 194)) (j % 194))
 lv:∀ i,i<n→LvOk F L w (T i) (V i)
 dist:∀ i j,i<n→j<n→i≠j→∀ k,(V i).own k→¬ (V j).own k
theorem rowIs_lt {b:Nat} {t:TypeId} {f:Nat→Value} (h:w.rowIs b t n f):b<w.heap.size:=by
 obtain ⟨c,h1,_⟩:=h;exact (Array.getElem?_eq_some_iff.1 h1).1
theorem TowAt.lt {T:Twr} {V:Nat→LV} (h:TowAt F L n w T V):L<w.heap.size:=rowIs_lt h.row
theorem div_mod {i:Nat} (hi:i<n) (hm:m<194):(i*194+m) / 194=i∧(i*194+m) % 194=m∧i*194+m<n*194:=by
 refine ⟨by omega,by omega,?_⟩;have:(i+1)*194≤n*194:=Nat.mul_le_mul_right _ hi;omega
theorem TowAt.cell {F:Nat→Prop} {L n:Nat} {w:World} {T:Twr} {V:Nat→LV} (h:TowAt F L n w T V) {i m o:Nat} (hi:i<n) (hm:m<194) (ho:o=i*194+m):w.cell? ⟨L,o,none⟩=some (cont (T i) (V i) m):=by
 subst ho;obtain ⟨h1,h2,h3⟩:=div_mod hi hm;have:=h.row.cell h3;rw [this,h1,h2]
theorem TowAt.frozen {F:Nat→Prop} {L n:Nat} {w:World} {T:Twr} {V:Nat→LV} (h:TowAt F L n w T V) (o:Nat):w.frozen? ⟨L,o,none⟩=false:=h.row.frozen _
theorem LvOk.kp {F M:Nat→Prop} {L:Nat} {w w':World} {l:Lv} {v:LV} (h:LvOk F L w l v) (hk:Rg.Kp M w w') (hF:∀ k,F k→¬ M k) (ho:∀ k,v.own k→¬ M k):LvOk F L w' l v:=by
 refine ⟨rowKp h.gown hk (fun k hm e=>ho k (.inl e) hm),h.gel.kp hk hF,rowKp h.oown hk (fun k hm e=>ho k (.inr e) hm),h.gF,h.oF,h.go,fun p x hp hx=>?_,h.none_⟩;obtain ⟨h1,h2⟩:=h.some_ p x hp hx;exact ⟨Rg.FI.kp h1 hk hF,Rg.FI.kp h2 hk hF⟩
theorem LvOk.mono {F F':Nat→Prop} {L:Nat} {w:World} {l:Lv} {v:LV} (h:LvOk F L w l v) (hF:∀ k,F k→F' k) (ho:∀ k,v.own k→¬ F' k):LvOk F' L w l v:=by
 refine ⟨h.gown,h.gel.mono hF,h.oown,fun k e=>⟨ho k (.inl e),(h.gF k e).2⟩,fun k e=>⟨ho k (.inr e),(h.oF k e).2⟩,h.go,fun p x hp hx=>?_,h.none_⟩;obtain ⟨h1,h2⟩:=h.some_ p x hp hx;exact ⟨h1.mono hF,h2.mono hF⟩
theorem LvOk.lt {F:Nat→Prop} {L:Nat} {w:World} {l:Lv} {v:LV} (h:LvOk F L w l v):∀ k,v.own k→k<w.heap.size:=fun k e=>by
 rcases e with e | e
 ·exact (h.gown.lt k e).2
 ·exact (h.oown.lt k e).2
theorem LvOk.nF {l:Lv} {v:LV} (h:LvOk F L w l v):∀ k,v.own k→¬ F k∧k≠L:=fun k e=>by
 rcases e with e | e
 ·exact h.gF _ e
 ·exact h.oF _ e
theorem rowIs_kp {b:Nat} {t:TypeId} {f:Nat→Value} (h:w.rowIs b t n f) (hk:Rg.Kp M w w') (hM:¬ M b):w'.rowIs b t n f:=by
 have hlt:=rowIs_lt h;obtain ⟨c,h1,h2,h3⟩:=h;exact ⟨c,by rw [hk.block b hlt hM]; exact h1,h2,h3⟩
theorem TowAt.up {T:Twr} {V:Nat→LV} (h:TowAt F L n w T V) (hb:Below w.heap.size w w'):TowAt (Fup F w w') L n w' T V:=by
 have hk:Rg.Kp (fun k=>False) w w':=Rg.Kp.of_below hb;have hL:=h.lt
 refine ⟨fun k hk=>by rcases hk with hk | hk; exact Nat.lt_of_lt_of_le (h.Flt k hk) hb.size; exact hk.2,fun e=>?_,rowIs_kp h.row hk id,fun i hi=>?_,h.dist⟩
 ·rcases e with e | e
  ·exact h.LF e
  ·omega
 ·have hv:=h.lv i hi
  refine (hv.kp hk (fun _ _=>id) (fun _ _=>id)).mono (fun k=>.inl) (fun k e=>?_);have h1:=hv.lt k e;have h2:=(hv.nF k e).1
  rintro (h3 | h3)
  ·exact h2 h3
  ·omega
theorem put2 {T T':Twr} {V V':Nat→LV} {i o:Nat} {x:Value} (Flt:∀ k,F k→k<w.heap.size) (LF:¬ F L)
  (row:w.rowIs L 178 (n*194) (fun j=>cont (T (j / 194)) (V (j / 194)) (j % 194))) (lv:∀ j,j<n→j≠i→LvOk F L w (T j) (V j))
  (dist:∀ a b,a<n→b<n→a≠b→a≠i→b≠i→∀ k,(V a).own k→¬ (V b).own k) (hi:i<n) (hm:m<194) (ho:o=i*194+m)
  (hT:∀ j,j≠i→T' j=T j∧V' j=V j) (hc:∀ m',m' < 194→cont (T' i) (V' i) m'=if m'=m then x else cont (T i) (V i) m')
  (hv:LvOk F L w (T' i) (V' i)) (hd:∀ j k,j<n→j≠i→(V' i).own k→¬ (V j).own k) :
  TowAt F L n (w.setCell ⟨L,o,none⟩ x) T' V'∧KF F w (w.setCell ⟨L,o,none⟩ x):=by
 subst ho;have hk:Rg.Kp (fun k=>k=L) w (w.setCell ⟨L,i*194+m,none⟩ x):=Rg.Kp.of_setCell rfl;have hFL:∀ k,F k→¬ k=L:=fun k hk e=>LF (e▸hk);refine ⟨⟨fun k hf=>Nat.lt_of_lt_of_le (Flt k hf) hk.size,LF,?_,fun j hj=>?_,fun a b ha hb hab k h1 h2=>?_⟩,Rg.Kp.weak hk fun k e hf=>hFL k hf e⟩
 ·refine (row.set (i*194+m) x).congr fun j hj=>?_
  obtain ⟨h1,h2,_⟩:=div_mod hi hm
  by_cases e:j / 194=i
  ·have hm':j % 194<194:=Nat.mod_lt _ (by decide)
   have:=hc (j % 194) hm'
   by_cases e2:j=i*194+m
   ·rw [if_pos e2,e,this,if_pos (by rw [e2,h2])]
   ·rw [if_neg e2,e,this,if_neg (by omega)]
  ·have e2:j≠i*194+m:=by rintro rfl; exact e h1
   rw [if_neg e2,(hT _ e).1,(hT _ e).2]
 ·by_cases e:j=i
  ·subst e
   exact hv.kp hk hFL fun k e=>(hv.nF k e).2
  ·rw [(hT j e).1,(hT j e).2]
   exact (lv j hj e).kp hk hFL fun k e'=>((lv j hj e).nF k e').2
 ·by_cases ea:a=i
  ·have eb:b≠i:=fun e=>hab (ea.trans e.symm)
   rw [ea] at h1; rw [(hT b eb).2] at h2;exact hd b k hb eb h1 h2
  ·rw [(hT a ea).2] at h1
   by_cases eb:b=i
   ·rw [eb] at h2
    exact hd a k ha ea h2 h1
   ·rw [(hT b eb).2] at h2
    exact dist a b ha hb hab ea eb k h1 h2
theorem TowAt.put {T T':Twr} {V V':Nat→LV} (h:TowAt F L n w T V) {i o:Nat} {x:Value} (hi:i<n) (hm:m<194) (ho:o=i*194+m)
  (hT:∀ j,j≠i→T' j=T j∧V' j=V j) (hc:∀ m',m' < 194→cont (T' i) (V' i) m'=if m'=m then x else cont (T i) (V i) m')
  (hv:LvOk F L w (T' i) (V' i)) (hd:∀ j k,j<n→j≠i→(V' i).own k→¬ (V j).own k) :
  TowAt F L n (w.setCell ⟨L,o,none⟩ x) T' V'∧KF F w (w.setCell ⟨L,o,none⟩ x) :=
 put2 h.Flt h.LF h.row (fun j hj _=>h.lv j hj) (fun a b ha hb hab _ _=>h.dist a b ha hb hab) hi hm ho hT hc hv hd
theorem TowAt.tick {F:Nat→Prop} {L n:Nat} {w:World} {T:Twr} {V:Nat→LV} (h:TowAt F L n w T V) {i q o:Nat} (hi:i<n) (hq:q<64) (ho:o=i*194+(130+q)) :
  TowAt F L n (w.setCell ⟨L,o,none⟩ (.int .i64 (((T i).tried q+1:Nat):Int))) (Cm.tick T i q) V∧KF F w (w.setCell ⟨L,o,none⟩ (.int .i64 (((T i).tried q+1:Nat):Int))):=by
 have hv:=h.lv i hi;refine h.put hi (by omega) ho (fun j hj=>⟨Cm.tick_ne hj,rfl⟩) (fun m' hm'=>?_) ?_ (fun j k hj hne e1 e2=>h.dist i j hi hj (Ne.symm hne) k e1 e2)
 ·rw [Cm.tick_at]
  unfold cont
  by_cases h0:m'=0
  ·subst h0; simp; omega
  by_cases h1:m'=1
  ·subst h1; simp; omega
  by_cases h2:m' < 66
  ·simp [h0,h1,h2]; omega
  by_cases h3:m' < 130
  ·simp [h0,h1,h2,h3]; omega
  ·simp only [h0,h1,h2,h3,if_false]
   by_cases e:m'=130+q
   ·subst e; simp
   ·rw [if_neg e,if_neg (by omega)]
 ·rw [Cm.tick_at]
  exact ⟨hv.gown,hv.gel,hv.oown,hv.gF,hv.oF,hv.go,hv.some_,hv.none_⟩
def setTo (T:Twr) (i p:Nat) (y:List Nat):Twr:=fun j=>if j=i then { T j with rep:=fun z=>if z=p then some y else (T j).rep z } else T j
def pushO (T:Twr) (i p:Nat):Twr:=fun j=>if j=i then { T j with orb:=(T j).orb++[p] } else T j
def pushG (T:Twr) (i:Nat) (r:List Nat):Twr:=fun j=>if j=i then { T j with gens:=(T j).gens++[r] } else T j
theorem find_eq (T:Twr) (i p:Nat) (y:List Nat):Cm.find T i p y=pushO (setTo T i p y) i p:=by
 funext j
 unfold Cm.find pushO setTo
 by_cases e:j=i
 ·simp [e]
 ·simp [e]
theorem TowAt.setTo {F:Nat→Prop} {L n:Nat} {w:World} {T:Twr} {V:Nat→LV} (h:TowAt F L n w T V) {i p o1 o2:Nat} {y:List Nat} {yv bv:Value} (hi:i<n) (hp:p<64) (ho1:o1=i*194+(2+p)) (ho2:o2=i*194+(66+p))
  (hy:FP F w yv y) (hb:FP F w bv (Ma.invN y)) :
  ∃ V',TowAt F L n ((w.setCell ⟨L,o1,none⟩ yv).setCell ⟨L,o2,none⟩ bv) (setTo T i p y) V'∧KF F w ((w.setCell ⟨L,o1,none⟩ yv).setCell ⟨L,o2,none⟩ bv):=by
 subst ho1 ho2;have hv:=h.lv i hi
 let V1:Nat→LV:=fun j=>if j=i then { V j with t:=fun z=>if z=p then yv else (V j).t z,b:=fun z=>if z=p then bv else (V j).b z } else V j
 have e1:V1 i={ V i with t:=fun z=>if z=p then yv else (V i).t z,b:=fun z=>if z=p then bv else (V i).b z }:=if_pos rfl
 have eT:Go.Proofs.YtdnmmibchbceeaaGreat.setTo T i p y i={ T i with rep:=fun z=>if z=p then some y else (T i).rep z }:=if_pos rfl
 have hk1:Rg.Kp (fun k=>k=L) w (w.setCell ⟨L,i*194+(2+p),none⟩ yv):=Rg.Kp.of_setCell rfl;have hk2:Rg.Kp (fun k=>k=L) (w.setCell ⟨L,i*194+(2+p),none⟩ yv) ((w.setCell ⟨L,i*194+(2+p),none⟩ yv).setCell ⟨L,i*194+(66+p),none⟩ bv):=Rg.Kp.of_setCell rfl;have hk:=Rg.Kp.trans hk1 hk2 (fun k _ e=>e);have hFL:∀ k,F k→¬ k=L:=fun k hk e=>h.LF (e▸hk)
 have hvi:LvOk F L w (Go.Proofs.YtdnmmibchbceeaaGreat.setTo T i p y i) (V1 i):=by
  rw [eT,e1];refine ⟨hv.gown,hv.gel,hv.oown,hv.gF,hv.oF,hv.go,fun z x hz hx=>?_,fun z hz hx=>?_⟩
  ·have hx':(if z=p then some y else (T i).rep z)=some x:=hx
   by_cases e:z=p
   ·rw [if_pos e] at hx'; cases hx'
    simp only [e,if_true]; exact ⟨hy,hb⟩
   ·rw [if_neg e] at hx'
    simp only [e,if_false]; exact hv.some_ z x hz hx'
  ·have hx':(if z=p then some y else (T i).rep z)=none:=hx
   by_cases e:z=p
   ·rw [if_pos e] at hx'; cases hx'
   ·rw [if_neg e] at hx'
    simp only [e,if_false]; exact hv.none_ z hz hx'
 refine ⟨V1,⟨fun k hf=>Nat.lt_of_lt_of_le (h.Flt k hf) hk.size,h.LF,?_,fun j hj=>?_,fun a b ha hb hab k h1 h2=>?_⟩,Rg.Kp.weak hk fun k e hf=>hFL k hf e⟩
 ·refine ((h.row.set (i*194+(2+p)) yv).set (i*194+(66+p)) bv).congr fun j hj=>?_
  have hm':j % 194<194:=Nat.mod_lt _ (by decide)
  by_cases e:j / 194=i
  ·rw [e,eT,e1]
   by_cases a:j=i*194+(66+p)
   ·have:j % 194=66+p:=by omega
    rw [if_pos a,this]; unfold cont;rw [if_neg (by omega),if_neg (by omega),if_neg (by omega),if_pos (by omega)];simp
   ·rw [if_neg a]
    by_cases b:j=i*194+(2+p)
    ·have:j % 194=2+p:=by omega
     rw [if_pos b,this]; unfold cont;rw [if_neg (by omega),if_neg (by omega),if_pos (by omega)];simp
    ·rw [if_neg b]
     unfold cont
     by_cases h0:j % 194=0
     ·simp [h0]
     by_cases h1:j % 194=1
     ·simp [h1]
     by_cases h2:j % 194<66
     ·simp only [h0,h1,h2,if_false,if_true]
      show _=(if j % 194 - 2=p then yv else (V i).t (j % 194 - 2));rw [if_neg (by omega)]
     by_cases h3:j % 194<130
     ·simp only [h0,h1,h2,h3,if_false,if_true]
      show _=(if j % 194 - 66=p then bv else (V i).b (j % 194 - 66));rw [if_neg (by omega)]
     ·simp [h0,h1,h2,h3]
  ·have ev:V1 (j / 194)=V (j / 194):=if_neg e
   have et:Go.Proofs.YtdnmmibchbceeaaGreat.setTo T i p y (j / 194)=T (j / 194):=if_neg e;rw [if_neg (by rintro rfl; exact e (div_mod hi (by omega)).1),if_neg (by rintro rfl; exact e (div_mod hi (by omega)).1),ev,et]
 ·by_cases e:j=i
  ·subst e
   exact hvi.kp hk hFL fun k e=>(hvi.nF k e).2
  ·have ev:V1 j=V j:=if_neg e
   have et:Go.Proofs.YtdnmmibchbceeaaGreat.setTo T i p y j=T j:=if_neg e;rw [ev,et];exact (h.lv j hj).kp hk hFL fun k e=>((h.lv j hj).nF k e).2
 ·have ho:∀ j k,(V1 j).own k→(V j).own k:=fun j k hk=>by
   by_cases e:j=i
   ·subst e; rw [e1] at hk; exact hk
   ·have ev:V1 j=V j:=if_neg e
    rwa [ev] at hk
  exact h.dist a b ha hb hab k (ho a k h1) (ho b k h2)
theorem getTo {T:Twr} {V:Nat→LV} (h:TowAt F L n w T V) {i p o:Nat} (hi:i<n) (hp:p<64) (ho:o=i*194+(2+p)):w.cell? ⟨L,o,none⟩=some ((V i).t p):=by
 rw [h.cell hi (m:=2+p) (by omega) ho];unfold cont;rw [if_neg (by omega),if_neg (by omega),if_pos (by omega),show 2+p - 2=p by omega]
theorem getBy {T:Twr} {V:Nat→LV} (h:TowAt F L n w T V) {i p o:Nat} (hi:i<n) (hp:p<64) (ho:o=i*194+(66+p)):w.cell? ⟨L,o,none⟩=some ((V i).b p):=by
 rw [h.cell hi (m:=66+p) (by omega) ho];unfold cont;rw [if_neg (by omega),if_neg (by omega),if_neg (by omega),if_pos (by omega),show 66+p - 66=p by omega]
theorem getTried {T:Twr} {V:Nat→LV} (h:TowAt F L n w T V) {i p o:Nat} (hi:i<n) (hp:p<64) (ho:o=i*194+(130+p)):w.cell? ⟨L,o,none⟩=some (.int .i64 (((T i).tried p:Nat):Int)):=by
 rw [h.cell hi (m:=130+p) (by omega) ho];unfold cont;rw [if_neg (by omega),if_neg (by omega),if_neg (by omega),if_neg (by omega),show 130+p - 130=p by omega]
theorem getG {T:Twr} {V:Nat→LV} (h:TowAt F L n w T V) {i o:Nat} (hi:i<n) (ho:o=i*194):w.cell? ⟨L,o,none⟩=some (V i).g:=by
 rw [h.cell hi (m:=0) (by omega) ho]; rfl
theorem getO {T:Twr} {V:Nat→LV} (h:TowAt F L n w T V) {i o:Nat} (hi:i<n) (ho:o=i*194+1):w.cell? ⟨L,o,none⟩=some (V i).o:=by
 rw [h.cell hi (m:=1) (by omega) ho]; rfl
end Go.Proofs.YtdnmmibchbceeaaGreat

namespace Go.Proofs.YtdnmmibchbceeaaGreat
open Go.RowKit
open Go.Proofs
open Go.Proofs.Cm (Lv Twr)
attribute [local irreducible] Go.Calls
theorem TowAt.addG {T:Twr} {V:Nat→LV} (h:TowAt F L n w T V) {i o:Nat} (hi:i<n) (ho:o=i*194) {r:List Nat} (hr:FP F w rv r) (hs:∃ a m c,rv=.slice a m c) (hl:(T i).gens.length<1000000) (ty:TypeId) :
  ∃ a c X,(Builtin.append_ #[22,22] ty #[(V i).g,.slice (some ⟨w.heap.size,0,none⟩) 1 1]).run Tryz.prog (w.alloc (.cells #[rv] 30))=.ok (.slice a ((T i).gens.length+1) c) X ∧
   X.cell? ⟨L,o,none⟩=some (V i).g∧X.frozen? ⟨L,o,none⟩=false∧∃ V',TowAt F L n (X.setCell ⟨L,o,none⟩ (.slice a ((T i).gens.length+1) c)) (pushG T i r) V'∧KF F w (X.setCell ⟨L,o,none⟩ (.slice a ((T i).gens.length+1) c)):=by
 subst ho;have hv:=h.lv i hi;obtain ⟨a0,m0,c0,rfl⟩:=hs;have hk1:Rg.Kp (fun _=>False) w (w.alloc (.cells #[.slice a0 m0 c0] 30)):=Rg.Kp.of_below ((Below.refl _ _).alloc (Nat.le_refl _) _)
 have hsz:(w.alloc (.cells #[.slice a0 m0 c0] 30)).heap.size=w.heap.size+1:=by simp
 have hv1:=hv.kp hk1 (fun _ _=>id) (fun _ _=>id);obtain ⟨v',X,r1,r2,r3,r4,a,c,rfl⟩:=app_run (P:=Tryz.prog) slPerms ty hv1.gown (Nat.zero_le _) w.heap.size 1 (u:=.slice a0 m0 c0) (by rw [Rg.cellNew]; rfl) rfl hl;have hkX:Rg.Kp (fun k=>(V i).g.ownBlock=some k) w X:=Rg.Kp.trans (M:=fun k=>(V i).g.ownBlock=some k) (hk1.weak fun _=>False.elim) (Rg.Kp.of_grown r3 fun _ e=>e) (fun _ _ e=>e);have hFo:∀ k,F k→¬ (V i).g.ownBlock=some k:=fun k hk e=>(hv.gF k e).1 hk;have hLo:¬ (V i).g.ownBlock=some L:=fun e=>(hv.gF L e).2 rfl
 have hcX:X.cell? ⟨L,i*194,none⟩=some (V i).g:=by
  rw [World.cell?_of_block (w:=w) (a:=⟨L,i*194,none⟩) (hkX.block L h.lt hLo)];exact getG h hi rfl
 have hrow:=rowIs_kp h.row hkX hLo
 refine ⟨a,c,X,r1,hcX,hrow.frozen _,fun j=>if j=i then { V i with g:=.slice a ((T i).gens.length+1) c,us:=(V i).us++[.slice a0 m0 c0] } else V j,?_⟩
 have hnew:∀ k,(Value.slice a ((T i).gens.length+1) c).ownBlock=some k→(V i).g.ownBlock=some k∨k=w.heap.size+1:=fun k e=>by
  rcases r4 with r4 | r4
  ·exact .inl (by rw [← r4]; exact e)
  ·rw [r4] at e; injection e with e; exact .inr (by omega)
 have hres:=put2 (T:=T) (T':=pushG T i r) (V:=V) (V':=fun j=>if j=i then { V i with g:=.slice a ((T i).gens.length+1) c,us:=(V i).us++[.slice a0 m0 c0] } else V j) (x:=.slice a ((T i).gens.length+1) c)
  (fun k hk=>Nat.lt_of_lt_of_le (h.Flt k hk) hkX.size) h.LF hrow (fun j hj hne=>(h.lv j hj).kp hkX hFo (fun k e e2=>h.dist j i hj hi hne k e (.inl e2)))
  (fun a b ha hb hab _ _=>h.dist a b ha hb hab) hi (m:=0) (by omega) rfl (fun j hj=>⟨if_neg hj,if_neg hj⟩) ?_ ?_ ?_
 ·exact ⟨hres.1,Rg.Kp.trans (hkX.weak fun k e hf=>hFo k hf e) hres.2 (fun _ _ e=>e)⟩
 ·intro m' hm'
  simp only [if_true,pushG];unfold cont
  by_cases h0:m'=0
  ·simp [h0]
  by_cases h1:m'=1
  ·simp [h1]
  ·simp [h0,h1]
 ·simp only [if_true,pushG]
  have hF:=hv.kp (M:=fun _=>False) (w':=w) (Rg.Kp.refl _ _) (fun _ _=>id) (fun _ _=>id);have hlt:=hv.lt;have hs2:=fun q x hq hx=>(hv.some_ q x hq hx);refine ⟨?_,?_,?_,?_,hv.oF,?_,fun q x hq hx=>⟨Rg.FI.kp (hs2 q x hq hx).1 hkX hFo,Rg.FI.kp (hs2 q x hq hx).2 hkX hFo⟩,hv.none_⟩
  ·rw [List.length_append]; exact r2
  ·rw [List.map_append]
   exact (hv.gel.kp hkX hFo).app (Rg.FElts.one (Rg.FI.kp hr hkX hFo))
  ·exact rowKp hv.oown hkX (fun k e e2=>hv.go k e e2)
  ·intro k e
   rcases hnew k e with e | e
   ·exact hv.gF k e
   ·exact ⟨fun hf=>by have:=h.Flt k hf; omega,by have:=h.lt; omega⟩
  ·intro k e e2
   rcases hnew k e with e | e
   ·exact hv.go k e e2
   ·have:=hlt k (.inr e2); omega
 ·intro j k hj hne e
  simp only [if_true] at e
  rcases e with e | e
  ·rcases hnew k e with e | e
   ·exact h.dist i j hi hj (Ne.symm hne) k (.inl e)
   ·intro e2; have:=(h.lv j hj).lt k e2; omega
  ·exact h.dist i j hi hj (Ne.symm hne) k (.inr e)
theorem TowAt.addO {T:Twr} {V:Nat→LV} (h:TowAt F L n w T V) {i o:Nat} (hi:i<n) (ho:o=i*194+1) (p:Nat) (hl:(T i).orb.length<1000000) (ty:TypeId) :
  ∃ a c X,(Builtin.append_ #[25,25] ty #[(V i).o,.slice (some ⟨w.heap.size,0,none⟩) 1 1]).run Tryz.prog (w.alloc (.cells #[.int .i64 ((p:Nat):Int)] 3))=.ok (.slice a ((T i).orb.length+1) c) X ∧
   X.cell? ⟨L,o,none⟩=some (V i).o∧X.frozen? ⟨L,o,none⟩=false∧∃ V',TowAt F L n (X.setCell ⟨L,o,none⟩ (.slice a ((T i).orb.length+1) c)) (pushO T i p) V'∧KF F w (X.setCell ⟨L,o,none⟩ (.slice a ((T i).orb.length+1) c)):=by
 subst ho;have hv:=h.lv i hi;have hk1:Rg.Kp (fun _=>False) w (w.alloc (.cells #[.int .i64 ((p:Nat):Int)] 3)):=Rg.Kp.of_below ((Below.refl _ _).alloc (Nat.le_refl _) _)
 have hsz:(w.alloc (.cells #[.int .i64 ((p:Nat):Int)] 3)).heap.size=w.heap.size+1:=by simp
 have hv1:=hv.kp hk1 (fun _ _=>id) (fun _ _=>id);obtain ⟨v',X,r1,r2,r3,r4,a,c,rfl⟩:=app_run (P:=Tryz.prog) slInts ty hv1.oown (Nat.zero_le _) w.heap.size 1 (u:=.int .i64 ((p:Nat):Int)) (by rw [Rg.cellNew]; rfl) rfl hl;have hkX:Rg.Kp (fun k=>(V i).o.ownBlock=some k) w X:=Rg.Kp.trans (M:=fun k=>(V i).o.ownBlock=some k) (hk1.weak fun _=>False.elim) (Rg.Kp.of_grown r3 fun _ e=>e) (fun _ _ e=>e);have hFo:∀ k,F k→¬ (V i).o.ownBlock=some k:=fun k hk e=>(hv.oF k e).1 hk;have hLo:¬ (V i).o.ownBlock=some L:=fun e=>(hv.oF L e).2 rfl
 have hcX:X.cell? ⟨L,i*194+1,none⟩=some (V i).o:=by
  rw [World.cell?_of_block (w:=w) (a:=⟨L,i*194+1,none⟩) (hkX.block L h.lt hLo)];exact getO h hi rfl
 have hrow:=rowIs_kp h.row hkX hLo
 refine ⟨a,c,X,r1,hcX,hrow.frozen _,fun j=>if j=i then { V i with o:=.slice a ((T i).orb.length+1) c } else V j,?_⟩
 have hnew:∀ k,(Value.slice a ((T i).orb.length+1) c).ownBlock=some k→(V i).o.ownBlock=some k∨k=w.heap.size+1:=fun k e=>by
  rcases r4 with r4 | r4
  ·exact .inl (by rw [← r4]; exact e)
  ·rw [r4] at e; injection e with e; exact .inr (by omega)
 have hres:=put2 (T:=T) (T':=pushO T i p) (V:=V) (V':=fun j=>if j=i then { V i with o:=.slice a ((T i).orb.length+1) c } else V j) (x:=.slice a ((T i).orb.length+1) c)
  (fun k hk=>Nat.lt_of_lt_of_le (h.Flt k hk) hkX.size) h.LF hrow (fun j hj hne=>(h.lv j hj).kp hkX hFo (fun k e e2=>h.dist j i hj hi hne k e (.inr e2)))
  (fun a b ha hb hab _ _=>h.dist a b ha hb hab) hi (m:=1) (by omega) rfl (fun j hj=>⟨if_neg hj,if_neg hj⟩) ?_ ?_ ?_
 ·exact ⟨hres.1,Rg.Kp.trans (hkX.weak fun k e hf=>hFo k hf e) hres.2 (fun _ _ e=>e)⟩
 ·intro m' hm'
  simp only [if_true,pushO];unfold cont
  by_cases h0:m'=0
  ·simp [h0]
  by_cases h1:m'=1
  ·simp [h1]
  ·simp [h0,h1]
 ·simp only [if_true,pushO]
  have hF:=hv.kp (M:=fun _=>False) (w':=w) (Rg.Kp.refl _ _) (fun _ _=>id) (fun _ _=>id);have hlt:=hv.lt;have hs2:=fun q x hq hx=>(hv.some_ q x hq hx);refine ⟨?_,hv.gel.kp hkX hFo,?_,hv.gF,?_,?_,fun q x hq hx=>⟨Rg.FI.kp (hs2 q x hq hx).1 hkX hFo,Rg.FI.kp (hs2 q x hq hx).2 hkX hFo⟩,hv.none_⟩
  ·exact rowKp hv.gown hkX (fun k e e2=>hv.go k e2 e)
  ·have e1:(Ma.ofN ((T i).orb++[p])).map (Value.int .i64)=(Ma.ofN (T i).orb).map (Value.int .i64)++[.int .i64 ((p:Nat):Int)]:=by simp [Ma.ofN]
   rw [e1,List.length_append]; exact r2
  ·intro k e
   rcases hnew k e with e | e
   ·exact hv.oF k e
   ·exact ⟨fun hf=>by have:=h.Flt k hf; omega,by have:=h.lt; omega⟩
  ·intro k e e2
   rcases hnew k e2 with e2 | e2
   ·exact hv.go k e e2
   ·have:=hlt k (.inl e); omega
 ·intro j k hj hne e
  simp only [if_true] at e
  rcases e with e | e
  ·exact h.dist i j hi hj (Ne.symm hne) k (.inl e)
  ·rcases hnew k e with e | e
   ·exact h.dist i j hi hj (Ne.symm hne) k (.inr e)
   ·intro e2; have:=(h.lv j hj).lt k e2; omega
theorem lvF0 (b o:Nat) (w:World):(Instr.fieldAt 178 (.pointer (some ⟨b,o,none⟩)) 0).run Tryz.prog w=.ok (.pointer (some ⟨b,o,none⟩)) w:=by kernel_rfl
theorem lvF1 (b o:Nat) (w:World):(Instr.fieldAt 178 (.pointer (some ⟨b,o,none⟩)) 1).run Tryz.prog w=.ok (.pointer (some ⟨b,o+1,none⟩)) w:=by kernel_rfl
theorem lvF2 (b o:Nat) (w:World):(Instr.fieldAt 178 (.pointer (some ⟨b,o,none⟩)) 2).run Tryz.prog w=.ok (.pointer (some ⟨b,o+2,none⟩)) w:=by kernel_rfl
theorem lvF3 (b o:Nat) (w:World):(Instr.fieldAt 178 (.pointer (some ⟨b,o,none⟩)) 3).run Tryz.prog w=.ok (.pointer (some ⟨b,o+66,none⟩)) w:=by kernel_rfl
theorem lvF4 (b o:Nat) (w:World):(Instr.fieldAt 178 (.pointer (some ⟨b,o,none⟩)) 4).run Tryz.prog w=.ok (.pointer (some ⟨b,o+130,none⟩)) w:=by kernel_rfl
theorem towF0 (b:Nat) (w:World):(Instr.fieldAt 170 (.pointer (some ⟨b,0,none⟩)) 0).run Tryz.prog w=.ok (.pointer (some ⟨b,0,none⟩)) w:=by kernel_rfl
theorem towF1 (b:Nat) (w:World):(Instr.fieldAt 170 (.pointer (some ⟨b,0,none⟩)) 1).run Tryz.prog w=.ok (.pointer (some ⟨b,1,none⟩)) w:=by kernel_rfl
theorem szLevel:(Tryz.prog.info? 178).map (·.size)=some 194:=by kernel_rfl
theorem exec_indexZ {o:Oper} {a:Act} {t e:TypeId} {z:Nat} (x y:Operand) (ho:o.op=.indexAddr t x y) (hu:Tryz.prog.underlying t=some (.slice e)) (hsz:(Tryz.prog.info? e).map (·.size)=some z) (b of len cap i:Nat) (hx:a.eval x=.slice (some ⟨b,of,none⟩) len cap) (hy:a.eval y=.int .i64 (i:Int)) (hi:i<len) :
  (execOp a.eval o).run Tryz.prog w=.ok (.value (.pointer (some ⟨b,of+i*z,none⟩))) w:=by
 obtain ⟨ie,hie,hs⟩:=Option.map_eq_some_iff.1 hsz;have h1:(0:Int)≤(i:Int)∧(i:Int)<(len:Int):=⟨by omega,by omega⟩
 have hr:(Instr.indexAt t (.slice (some ⟨b,of,none⟩) len cap) (.int .i64 (i:Int))).run Tryz.prog w=.ok (.pointer (some ⟨b,of+i*z,none⟩)) w:=by
  simp [Instr.indexAt,asIntOf,run_underlying hu,sizeOf,typeInfo,hie,hs,h1];rw [if_pos hi];unfold Addr.add
  split
  ·rename_i h0; rw [h0]; rfl
  ·rfl
 unfold execOp;simp only [ho,hx,hy,Sem.run_bind,Sem.run_pure,hr,Result.andThen_ok]
theorem exec_indexZ0 {o:Oper} {a:Act} {t e:TypeId} {z:Nat} (x y:Operand) (ho:o.op=.indexAddr t x y) (hu:Tryz.prog.underlying t=some (.slice e)) (hsz:(Tryz.prog.info? e).map (·.size)=some z) (b len cap i:Nat) (hx:a.eval x=.slice (some ⟨b,0,none⟩) len cap) (hy:a.eval y=.int .i64 (i:Int)) (hi:i<len) :
  (execOp a.eval o).run Tryz.prog w=.ok (.value (.pointer (some ⟨b,i*z,none⟩))) w:=by
 have:=exec_indexZ (w:=w) x y ho hu hsz b 0 len cap i hx hy hi
 rwa [Nat.zero_add] at this
theorem chMul_f {b:List Nat} (h1:FP F w v1 a) (h2:FP F w v2 b) (ga:Cm.Gd n a) (gb:Cm.Gd n b) (hn:1≤n) (hn2:n≤64) :
  Calls Tryz.prog 146 #[v1,v2] w fun e w'=>∃ v,e=.returned v∧FP (Fup F w w') w' v (Ma.mulN a b)∧Below w.heap.size w w':=by
 have e1:=ga.2;have e2:=gb.2;refine (chMul_any v1 v2 a b w h1.np h2.np (fun x hx=>by have:=ga.1.1 x hx; omega) (by omega) (by omega) (by omega)).mono ?_;rintro e w' ⟨v,rfl,hv,hb⟩;exact ⟨v,rfl,FP.new hv,hb⟩
theorem chInv_f (h1:FP F w v1 a) (ga:Cm.Gd n a) (hn:1≤n) (hn2:n≤64) :
  Calls Tryz.prog 156 #[v1] w fun e w'=>∃ v,e=.returned v∧FP (Fup F w w') w' v (Ma.invN a)∧Below w.heap.size w w':=by
 have e1:=ga.2;refine (chInv_any v1 a w h1.np ga.1 (by omega) (by omega)).mono ?_;rintro e w' ⟨v,rfl,hv,hb⟩;exact ⟨v,rfl,FP.new hv,hb⟩
theorem chOne_f (n:Nat) (w:World) (hn2:n≤64) :
  Calls Tryz.prog 140 #[.int .i64 n] w fun e w'=>∃ v,e=.returned v∧FP (Fup F w w') w' v (Ma.oneN n)∧Below w.heap.size w w':=by
 refine (chOne_any n w (by omega)).mono ?_;rintro e w' ⟨v,rfl,hv,hb⟩;exact ⟨v,rfl,FP.new hv,hb⟩
end Go.Proofs.YtdnmmibchbceeaaGreat
