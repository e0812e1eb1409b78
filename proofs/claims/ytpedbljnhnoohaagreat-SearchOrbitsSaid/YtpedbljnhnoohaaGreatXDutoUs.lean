/- Lemmas and contracts on the way to the statement; no condition of their own beyond those written. -/
import Derived.Test.YtpedbljnhnoohaaGreatXWvtoDm
import Derived.RangeFuncBound
set_option linter.unusedVariables false
set_option linter.unusedSimpArgs false
set_option maxRecDepth 100000
set_option maxHeartbeats 8000000
variable {w W w' W' w0 X:Go.World} {n B N L j d D tc base n₀ cap bytes tk:Nat} {v rv ov u z v1 v2 xv u1 u2 yv u3:Go.Value} {F M F' Fk:Nat->Prop} {ll OO PS:List (List Int)} {O gs T A:List (List Nat)} {R:List (List (List Nat))} {RR:List (List (List Int))} {H:List Nat->Prop} {q:List Nat} {xs:List Go.Value} {ck:Int} {xl:List Int}
namespace Go.Proofs.YtpedbljnhnoohaaGreat
open Go.RowKit
open Go.Proofs
section
open Go.Proofs.Ob
open Go.Proofs.Cm (Gd Gr ak ap lexLt bT St)
def ld (q o:List Nat) (j:Nat):Nat:=o.countP fun y=>decide (ap q y<ap q (o.getD j 0))
def rL (q o:List Nat) (d m:Nat):Nat:=(List.range m).foldl (fun p j=>if ld q o j=d then j else p) 0
theorem xD (q o:List Nat) (d m:Nat):rL q o d (m+1)=if ld q o m=d then m else rL q o d m:=by
 unfold rL; rw [List.range_succ,List.foldl_append]; rfl
theorem Ex (q o:List Nat) (d:Nat):∀ m,0<m->rL q o d m<m
 | 0,h=>absurd h (Nat.lt_irrefl 0)
 | m+1,_=>by
  rw [xD]
  split
  ·omega
  ·by_cases e:m=0
   ·subst e; exact Nat.zero_lt_one
   ·have:=Ex q o d m (by omega); omega
structure j4 (n:Nat) (q o:List Nat):Prop where
 gd:Gd n q
 nd:o.Nodup
 lt:∀ y∈o,y<n
theorem Ji {l:List Nat} (h:l.Nodup) {i:Nat} (hi:i<l.length) (hj:j<l.length) (e:l[i]=l[j]):i=j:=by
 rcases Nat.lt_trichotomy i j with h1 | h1 | h1
 ·exact absurd e (List.pairwise_iff_getElem.1 h i j hi hj h1)
 ·exact h1
 ·exact absurd e.symm (List.pairwise_iff_getElem.1 h j i hj hi h1)
theorem j4.at {o:List Nat} (_:j4 n q o) (hj:j<o.length):o.getD j 0=o[j]:=by rw [List.getD_eq_getElem?_getD,List.getElem?_eq_getElem hj]; rfl
theorem j4.inj {o:List Nat} (h:j4 n q o) {i:Nat} (hi:i<o.length) (hj:j<o.length) (e:ap q (o.getD i 0)=ap q (o.getD j 0)):i=j:=by
 rw [h.at hi,h.at hj] at e;have e2:=Cm.jz h.gd (h.lt _ (List.getElem_mem hi)) (h.lt _ (List.getElem_mem hj)) e;exact Ji h.nd hi hj e2
theorem xE {α:Type} {l:List α} {p q:α->Bool} (h:∀ x∈l,p x=true->q x=true) {a:α} (ha:a∈l) (h1:p a=false) (h2:q a=true):l.countP p<l.countP q:=by
 induction l with
 | nil=>simp at ha
 | cons x l ih =>
  rw [List.countP_cons,List.countP_cons]
  rcases List.mem_cons.1 ha with rfl | ha
  ·have:=List.countP_mono_left (l:=l) (p:=p) (q:=q) fun y hy=>h y (List.mem_cons_of_mem _ hy)
   rw [h1,h2]; simp; omega
  ·have:=ih (fun y hy=>h y (List.mem_cons_of_mem _ hy)) ha
   have h3:=h x (List.mem_cons_self ..)
   cases e1:p x <;> cases e2:q x <;> simp <;> first | omega | (rw [e1] at h3; have:=h3 rfl; rw [e2] at this; cases this)
theorem j4.mono {o:List Nat} (h:j4 n q o) {i:Nat} (hi:i<o.length) (e:ap q (o.getD i 0)<ap q (o.getD j 0)):ld q o i<ld q o j:=by
 refine xE (a:=o[i]) (fun y _ hy=>?_) (List.getElem_mem hi) ?_ ?_
 ·have:=of_decide_eq_true hy; exact decide_eq_true (by omega)
 ·rw [h.at hi]; exact decide_eq_false (Nat.lt_irrefl _)
 ·rw [h.at hi] at e; exact decide_eq_true e
theorem j4.SR {o:List Nat} (h:j4 n q o) {i:Nat} (hi:i<o.length) (hj:j<o.length) (e:ld q o i=ld q o j):i=j:=by
 rcases Nat.lt_trichotomy (ap q (o.getD i 0)) (ap q (o.getD j 0)) with h1 | h1 | h1
 ·have:=h.mono hi h1; omega
 ·exact h.inj hi hj h1
 ·have:=h.mono hj h1; omega
theorem j4.clt {o:List Nat} (h:j4 n q o) {i:Nat} (hi:i<o.length):ld q o i<o.length:=by
 have h1:=xE (l:=o) (p:=fun y=>decide (ap q y<ap q (o.getD i 0))) (q:=fun _=>true) (fun _ _ _=>rfl) (List.getElem_mem hi) (by rw [h.at hi]; exact decide_eq_false (Nat.lt_irrefl _)) rfl
 have h2:o.countP (fun _=>true)=o.length:=by simp
 unfold ld; omega
theorem j4.ex {o:List Nat} (h:j4 n q o) (hd:d<o.length):∃ j,j<o.length/\ld q o j=d:=by
 by_cases hh:∃ j,j<o.length/\ld q o j=d
 ·exact hh
 ·exfalso
  have nd:(d :: (List.range o.length).map (ld q o)).Nodup:=by
   refine List.nodup_cons.2 ⟨fun hm=>?_,?_⟩
   ·obtain ⟨j,hj,e⟩:=List.mem_map.1 hm
    exact hh ⟨j,List.mem_range.1 hj,e⟩
   ·refine List.pairwise_iff_getElem.2 fun a b ha hb eX e=>?_
    rw [List.getElem_map,List.getElem_map,List.getElem_range,List.getElem_range] at e;rw [List.length_map,List.length_range] at ha hb;have:=h.SR ha hb e;omega
  have:=d_ nd (m:=List.range o.length) fun x hx=>by
   rcases List.mem_cons.1 hx with rfl | hx
   ·exact List.mem_range.2 hd
   ·obtain ⟨j,hj,rfl⟩:=List.mem_map.1 hx
    exact List.mem_range.2 (h.clt (List.mem_range.1 hj))
  simp at this;omega
theorem j4.pos {n:Nat} {q o:List Nat} (h:j4 n q o) {d j:Nat} (hj:j<o.length) (e:ld q o j=d):∀ m,j<m->m<=o.length->rL q o d m=j
 | 0,h1,_=>absurd h1 (Nat.not_lt_zero _)
 | m+1,h1,h2=>by
  rw [xD]
  by_cases e2:j=m
  ·subst e2; rw [if_pos e]
  ·rw [if_neg (fun e3=>e2 (h.SR hj (by omega) (e.trans e3.symm)))]
   exact h.pos hj e m (by omega) (by omega)
variable {N:Nat} {H:List Nat->Prop} {O:List (List Nat)} {R:List (List (List Nat))}
theorem xF (h:ak N H O R) {i k:Nat} (hi:i<N) (hk:k<(O.getD i []).length):St H i ((R.getD i []).getD k [])/\ap ((R.getD i []).getD k []) i=(O.getD i []).getD k 0:=(h.rep i k hi hk).1
theorem tR (hH:bT N H) (h:ak N H O R) {i:Nat} (hi:i<N):i∈O.getD i [] :=
 (h.orb i i hi).2 ⟨Ma.bh N,⟨hH.one,fun j hj=>Cm.cF (by omega)⟩,Cm.cF hi⟩
theorem qA (hH:bT N H) (h:ak N H O R) {i:Nat} (hi:i<N) (gq:Gd N q):j4 N q (O.getD i []) :=
 ⟨gq,(h.eK i hi).imp fun {a b} eX=>Nat.ne_of_lt eX,fun y hy=>by
  obtain ⟨x,hx,rfl⟩:=(h.orb i y hi).1 hy
  exact Cm.cy (hH.gd x hx.1) hi⟩
def zf (O:List (List Nat)) (R:List (List (List Nat))) (i:Nat) (q:List Nat) (d:Nat):List Nat:=(R.getD i []).getD (rL q (O.getD i []) d (O.getD i []).length) []
def oJ (N:Nat) (O:List (List Nat)) (R:List (List (List Nat))):Nat->Nat->List Nat->Nat->List Nat
 | 0,_,q,_=>q
 | m+1,i,q,k=>oJ N O R m (i+1) (Ma.aj (zf O R i q (k / bR O N m)) q) (k % bR O N m)
theorem BH (hH:bT N H) (h:ak N H O R) {i:Nat} (hi:i<N) (q:List Nat) (d:Nat):St H i (zf O R i q d)/\ap (zf O R i q d) i=(O.getD i []).getD (rL q (O.getD i []) d (O.getD i []).length) 0 :=
 xF h hi (Ex _ _ _ _ (List.length_pos_of_mem (tR hH h hi)))
theorem rM (hH:bT N H) (h:ak N H O R):∀ (m i:Nat) (q:List Nat) (k:Nat),i+m=N->H q->H (oJ N O R m i q k)/\∀ j,j<i->ap (oJ N O R m i q k) j=ap q j
 | 0,i,q,k,_,hq=>⟨hq,fun _ _=>rfl⟩
 | m+1,i,q,k,e,hq=>by
  have hr:=(BH hH h (show i<N by omega) q (k / bR O N m)).1;obtain ⟨h1,h2⟩:=rM hH h m (i+1) (Ma.aj (zf O R i q (k / bR O N m)) q) (k % bR O N m) (by omega) (hH.mul _ _ hr.1 hq);refine ⟨h1,fun j hj=>?_⟩;show ap (oJ N O R m (i+1) _ _) j=_;rw [h2 j (by omega),Cm.br (hH.gd _ hr.1) (by omega),hr.2 j hj]
theorem Ey (hH:bT N H) (h:ak N H O R):∀ m,m<=N->0<bR O N m
 | 0,_=>Nat.zero_lt_one
 | m+1,hm=>Nat.mul_pos (List.length_pos_of_mem (tR hH h (by omega))) (Ey hH h m (by omega))
theorem NW {m k:Nat} (hk:k<bR O N (m+1)):k / bR O N m<(O.getD (N - (m+1)) []).length:=by
 have h0:bR O N (m+1)=(O.getD (N - (m+1)) []).length*bR O N m:=rfl;rw [h0] at hk
 by_cases e:bR O N m=0
 ·rw [e] at hk; omega
 ·exact Nat.div_lt_of_lt_mul (by rw [Nat.mul_comm]; exact hk)
theorem Jj (hH:bT N H) (h:ak N H O R) {m i k:Nat} (e:i+(m+1)=N) (hq:H q) (hk:k<bR O N (m+1)):∃ j,j<(O.getD i []).length/\rL q (O.getD i []) (k / bR O N m) (O.getD i []).length=j/\ld q (O.getD i []) j=k / bR O N m/\ap (oJ N O R (m+1) i q k) i=ap q ((O.getD i []).getD j 0):=by
 have hi:i<N:=by omega
 have ho:=qA hH h hi (hH.gd q hq);obtain ⟨j,hj,hc⟩:=ho.ex (d:=k / bR O N m) (by have:=NW (O:=O) (N:=N) hk; rwa [show N - (m+1)=i by omega] at this);have hp:=ho.pos hj hc _ hj (Nat.le_refl _);refine ⟨j,hj,hp,hc,?_⟩;obtain ⟨cY,nU⟩:=BH hH h hi q (k / bR O N m);obtain ⟨_,h2⟩:=rM hH h m (i+1) (Ma.aj (zf O R i q (k / bR O N m)) q) (k % bR O N m) (by omega) (hH.mul _ _ cY.1 hq);show ap (oJ N O R m (i+1) _ _) i=_;rw [h2 i (by omega),Cm.br (hH.gd _ cY.1) hi,nU,hp]
theorem Al (hH:bT N H) (h:ak N H O R):∀ (m i:Nat) (q:List Nat) (k k':Nat),i+m=N->H q->k<k'->k' < bR O N m->lexLt N (oJ N O R m i q k) (oJ N O R m i q k')
 | 0,i,q,k,k',_,_,h1,h2=>by have:k' < 1:=h2; omega
 | m+1,i,q,k,k',e,hq,h1,h2=>by
  obtain ⟨j,hj,hp,hc,ha⟩:=Jj hH h (m:=m) (i:=i) e hq (Nat.lt_trans h1 h2);obtain ⟨j',Yn,sR,tA,ha'⟩:=Jj hH h (m:=m) (i:=i) e hq h2;have hs:=Ey hH h m (by omega)
  have hi:i<N:=by omega
  have ho:=qA hH h hi (hH.gd q hq)
  by_cases hd:k / bR O N m=k' / bR O N m
  ·have aE:k % bR O N m<k' % bR O N m:=by
    have a1:=Nat.div_add_mod k (bR O N m);have a2:=Nat.div_add_mod k' (bR O N m);rw [hd] at a1;omega
   have hr:=(BH hH h hi q (k / bR O N m)).1;have:=Al hH h m (i+1) (Ma.aj (zf O R i q (k / bR O N m)) q) (k % bR O N m) (k' % bR O N m) (by omega) (hH.mul _ _ hr.1 hq) aE (Nat.mod_lt _ hs);show lexLt N (oJ N O R m (i+1) _ _) (oJ N O R m (i+1) _ _);rw [<- hd];exact this
  ·have aE:k / bR O N m<k' / bR O N m:=Nat.lt_of_le_of_ne (Nat.div_le_div_right (Nat.le_of_lt h1)) hd
   refine ⟨i,hi,fun l hl=>?_,?_⟩
   ·rw [(rM hH h (m+1) i q k e hq).2 l hl,(rM hH h (m+1) i q k' e hq).2 l hl]
   ·rw [ha,ha']
    rcases Nat.lt_trichotomy (ap q ((O.getD i []).getD j 0)) (ap q ((O.getD i []).getD j' 0)) with g | g | g
    ·exact g
    ·have:=ho.inj hj Yn g; subst this; omega
    ·have:=ho.mono Yn g; omega
def du (N:Nat) (O:List (List Nat)) (R:List (List (List Nat))):List (List Nat):=(List.range (bR O N N)).map (oJ N O R N 0 (Ma.bh N))
theorem Lf {a z:List Nat} (ha:a.length=n) (hz:z.length=n) (h:lexLt n a z):cQ (Ma.ag a) (Ma.ag z)=true:=by
 cases e:cQ (Ma.ag a) (Ma.ag z) with
 | true=>rfl
 | false =>
  exfalso
  have hne:Ma.ag a≠Ma.ag z:=fun e2=>by
   have:=Ma.fl e2;subst this;obtain ⟨j,_,_,h3⟩:=h;exact Nat.lt_irrefl _ h3
  have h2:=qx (by omega) (ka e hne);exact h.asymm h2
theorem dA (hg:∀ s∈gs,Gd N s) (h:ak N (Gr N (·∈gs)) O R):eU N gs (du N O R):=by
 have hH:=Cm.Gr.dC hg;have bF:∀ k,Gr N (·∈gs) (oJ N O R N 0 (Ma.bh N) k):=fun k=>(rM hH h N 0 _ k (by omega) hH.one).1
 have SU:K7 ((du N O R).map Ma.ag):=fun a b ha hb eX=>by
  simp only [du,List.length_map,List.length_range] at ha hb;simp only [du,List.getElem_map,List.getElem_range];exact Lf (hH.gd _ (bF _)).2 (hH.gd _ (bF _)).2 (Al hH h N 0 _ _ _ (by omega) hH.one eX hb)
 refine ⟨SU,fun y=>⟨fun hy=>?_,fun hy=>?_⟩⟩
 ·obtain ⟨k,_,rfl⟩:=List.mem_map.1 hy
  exact bF k
 ·by_cases hm:y∈du N O R
  ·exact hm
  ·exfalso
   obtain ⟨p1,p2⟩:=qu hH h
   have:=d_ (l:=y :: du N O R) (List.nodup_cons.2 ⟨hm,dN SU⟩) (m:=jr N R N) fun x hx=>by
    rw [p2]
    rcases List.mem_cons.1 hx with rfl | hx
    ·exact hy
    ·obtain ⟨k,_,rfl⟩:=List.mem_map.1 hx
     exact bF k
   rw [NU h] at this;simp [du] at this;omega
variable {N:Nat} {H:List Nat->Prop} {O:List (List Nat)} {R:List (List (List Nat))}
theorem NZ {m i r:Nat} (hr:r<bR O N m):oJ N O R (m+1) i q (d*bR O N m+r)=oJ N O R m (i+1) (Ma.aj (zf O R i q d) q) r:=by
 have h0:0<bR O N m:=by omega
 show oJ N O R m (i+1) (Ma.aj (zf O R i q ((d*bR O N m+r) / bR O N m)) q) ((d*bR O N m+r) % bR O N m)=_
 have e1:(d*bR O N m+r) / bR O N m=d:=by rw [Nat.mul_comm d,Nat.mul_add_div h0,Nat.div_eq_of_lt hr]; exact Nat.add_zero d
 have e2:(d*bR O N m+r) % bR O N m=r:=by rw [Nat.mul_comm d,Nat.mul_add_mod,Nat.mod_eq_of_lt hr]
 rw [e1,e2]
theorem oK {f:Nat->Nat}:∀ {l:List Nat},l.Pairwise (fun a b=>f a<f b)->∀ {d:Nat} (hd:d<l.length),l.countP (fun y=>decide (f y<f l[d]))=d
 | [],_,d,hd=>absurd hd (Nat.not_lt_zero _)
 | x :: l,h,0,_=>by
  rw [List.pairwise_cons] at h;rw [List.countP_eq_zero];intro y hy;have e:(x :: l)[0]=x:=rfl;rw [e]
  rcases List.mem_cons.1 hy with rfl | hy
  ·simp
  ·have:=h.1 y hy
   simp; omega
 | x :: l,h,d+1,hd=>by
  rw [List.pairwise_cons] at h
  have BI:d<l.length:=by simpa using hd
  have e:(x :: l)[d+1]'hd=l[d]:=rfl;rw [e,List.countP_cons,oK h.2 BI,if_pos (decide_eq_true (h.1 _ (List.getElem_mem BI)))]
theorem Ez {o l:List Nat} (ho:j4 n q o) (hp:l.Perm o) (hs:l.Pairwise (fun a b=>ap q a<ap q b)) (hd:d<l.length) :
  o.idxOf l[d]<o.length/\o.getD (o.idxOf l[d]) 0=l[d]/\rL q o d o.length=o.idxOf l[d]:=by
 have hm:l[d]∈o:=hp.mem_iff.1 (List.getElem_mem hd);have hj:=List.idxOf_lt_length_of_mem hm
 have e1:o.getD (o.idxOf l[d]) 0=l[d]:=by rw [ho.at hj]; exact List.getElem_idxOf hj
 refine ⟨hj,e1,ho.pos hj ?_ _ hj (Nat.le_refl _)⟩;unfold ld;rw [e1,<- hp.countP_eq];exact oK hs hd
theorem H3 {l:List Nat} (hq:Gd n q) (hl:∀ y∈l,y<n) (hd:l.Nodup) (h:l.Pairwise (fun a b=>ap q a<=ap q b)):l.Pairwise (fun a b=>ap q a<ap q b):=by
 rw [List.pairwise_iff_getElem] at h ⊢;intro i j hi hj p6;have h1:=h i j hi hj p6
 rcases Nat.lt_or_eq_of_le h1 with h3 | h3
 ·exact h3
 ·have:=Ji hd hi hj (Cm.jz hq (hl _ (List.getElem_mem hi)) (hl _ (List.getElem_mem hj)) h3)
  omega
end
end Go.Proofs.YtpedbljnhnoohaaGreat
namespace Go.Proofs
open Go.Shelf
def Tryz.rN:Go.Shelf.Ren:=⟨fun | 6=>110 | 15=>139 | 14=>138 | 28=>160 | 29=>161 | 20=>152 | 21=>153 | 22=>154 | 23=>155 | 24=>156 | 25=>157 | 26=>158 | 27=>159 | 46=>175 | 47=>176 | 48=>177 | 49=>178 | 50=>179 | 57=>183 | n=>n,fun | 22=>26 | 24=>3 | 25=>48 | 3=>3 | 39=>177 | 0=>0 | 53=>192 | 55=>194 | 4=>4 | 46=>186 | 45=>185 | 50=>156 | 5=>5 | 9=>9 | 66=>204 | 70=>208 | 76=>212 | 77=>213 | n=>n,fun | n=>n⟩
theorem Tryz.zg:Go.Proofs.SlLaysF.n6 Tryz.prog Tryz.rN:={
 mixed:=by kernel_rfl
 f6:=⟨Tryz.f110.name,by decide,Tryz.func110.trans (congrArg some (by kernel_rfl))⟩
 f14:=⟨Tryz.f138.name,by decide,Tryz.func138.trans (congrArg some (by kernel_rfl))⟩
 f15:=Tryz.func139.trans (congrArg some (by kernel_rfl))
 f20:=⟨Tryz.f152.name,by decide,Tryz.func152.trans (congrArg some (by kernel_rfl))⟩
 f21:=⟨Tryz.f153.name,by decide,Tryz.func153.trans (congrArg some (by kernel_rfl))⟩
 f22:=⟨Tryz.f154.name,by decide,Tryz.func154.trans (congrArg some (by kernel_rfl))⟩
 f23:=⟨Tryz.f155.name,by decide,Tryz.func155.trans (congrArg some (by kernel_rfl))⟩
 f24:=⟨Tryz.f156.name,by decide,Tryz.func156.trans (congrArg some (by kernel_rfl))⟩
 f25:=⟨Tryz.f157.name,by decide,Tryz.func157.trans (congrArg some (by kernel_rfl))⟩
 f26:=⟨Tryz.f158.name,by decide,Tryz.func158.trans (congrArg some (by kernel_rfl))⟩
 f27:=⟨Tryz.f159.name,by decide,Tryz.func159.trans (congrArg some (by kernel_rfl))⟩
 f28:=Tryz.func160.trans (congrArg some (by kernel_rfl))
 f29:=Tryz.func161.trans (congrArg some (by kernel_rfl))
 f46:=⟨Tryz.f175.name,by decide,Tryz.func175.trans (congrArg some (by kernel_rfl))⟩
 f47:=Tryz.func176.trans (congrArg some (by kernel_rfl))
 f48:=Tryz.func177.trans (congrArg some (by kernel_rfl))
 f49:=⟨Tryz.f178.name,by decide,Tryz.func178.trans (congrArg some (by kernel_rfl))⟩
 f50:=⟨Tryz.f179.name,by decide,Tryz.func179.trans (congrArg some (by kernel_rfl))⟩
 f57:=⟨Tryz.f183.name,by decide,Tryz.func183.trans (congrArg some (by kernel_rfl))⟩
 t0:=Tryz.underlying0
 a0:=Tryz.isAgg0
 z0:=Tryz.sizeOf0
 v0:=Tryz.zeroValue0
 t3:=Tryz.underlying3
 a3:=Tryz.isAgg3
 z3:=Tryz.sizeOf3
 v3:=Tryz.zeroValue3
 t4:=Tryz.underlying4
 a4:=Tryz.isAgg4
 z4:=Tryz.sizeOf4
 v4:=Tryz.zeroValue4
 t5:=Tryz.underlying5
 a5:=Tryz.isAgg5
 z5:=Tryz.sizeOf5
 v5:=Tryz.zeroValue5
 t9:=Tryz.underlying9
 a9:=Tryz.isAgg9
 z9:=Tryz.sizeOf9
 v9:=Tryz.zeroValue9
 t22:=Tryz.underlying26
 a22:=Tryz.isAgg26
 z22:=Tryz.sizeOf26
 v22:=Tryz.zeroValue26
 a24:=Tryz.isAgg3
 z24:=Tryz.sizeOf3
 t25:=Tryz.underlying48
 a25:=Tryz.isAgg48
 z25:=Tryz.sizeOf48
 v25:=Tryz.zeroValue48
 t39:=Tryz.underlying177
 a39:=Tryz.isAgg177
 z39:=Tryz.sizeOf177
 v39:=Tryz.zeroValue177
 t45:=Tryz.underlying185
 a45:=Tryz.isAgg185
 z45:=Tryz.sizeOf185
 v45:=Tryz.zeroValue185
 t46:=Tryz.underlying186
 a46:=Tryz.isAgg186
 z46:=Tryz.sizeOf186
 v46:=Tryz.zeroValue186
 t50:=Tryz.underlying156
 a50:=Tryz.isAgg156
 z50:=Tryz.sizeOf156
 v50:=Tryz.zeroValue156
 t53:=Tryz.underlying192
 a53:=Tryz.isAgg192
 z53:=Tryz.sizeOf192
 v53:=Tryz.zeroValue192
 t55:=Tryz.underlying194
 a55:=Tryz.isAgg194
 z55:=Tryz.sizeOf194
 v55:=Tryz.zeroValue194
 t66:=Tryz.underlying204
 a66:=Tryz.isAgg204
 z66:=Tryz.sizeOf204
 v66:=Tryz.zeroValue204
 t70:=Tryz.underlying208
 a70:=Tryz.isAgg208
 z70:=Tryz.sizeOf208
 v70:=Tryz.zeroValue208
 t76:=Tryz.underlying212
 a76:=Tryz.isAgg212
 z76:=Tryz.sizeOf212
 v76:=Tryz.zeroValue212
 t77:=Tryz.underlying213
 a77:=Tryz.isAgg213
 z77:=Tryz.sizeOf213
 v77:=Tryz.zeroValue213 }
open Go.RowKit Go.Lib Go.Sort in
theorem Tryz.pG {α:Type} [Inhabited α] (enc:α->Value) (h1:OneCell enc) (cf:α->α->Int) (hO:SWO (ltOf cf)) (g:Nat) (cb:Array Value) (blk off cap:Nat) (d:Array α) (w:World) (eg:∀ args w,(callFunc g args).run Tryz.prog w=.ok (.enter g args) w) (N1:CmpLays1 Tryz.prog g cb enc cf blk off d.size w) (hH:Holds enc w blk off d) (hblk:blk<w.heap.size) (dR:d.size<4611686018427387904) :
  Calls Tryz.prog 110 #[.slice (some ⟨blk,off,none⟩) d.size cap,.func (.func g) #[] cb] w fun e w' =>
   e=.returned (.tuple #[])/\∃ d' n os,PermIn 0 d.size d d'/\SortedIn (ltOf cf) 0 d.size d'/\w'=sortWorld enc w blk off n d' os:=Any.slices_SortFunc Tryz.zg enc h1 cf hO g cb blk off cap d w eg N1 hH hblk dR
end Go.Proofs
namespace Go.Proofs.YtpedbljnhnoohaaGreat
open Go.RowKit
open Go.Proofs
section
open Go.Proofs.Ob
open Go.Sort
open Go.Proofs.Cm (Gd Gr ak ap lexLt bT St)
attribute [local irreducible] Go.Calls Go.wpList
theorem Lg {uv:Value} {ub:Nat} (gq:Gd N q) (hN:N<=64) (hc:W.cell? ⟨ub,0,none⟩=some uv) (hu:Rg.NP W uv q) {a b:Nat} (ha:a<N) (hb:b<N) :
  Calls Tryz.prog 111 #[.int .i64 ((a:Nat):Int),.int .i64 ((b:Nat):Int),.pointer (some ⟨ub,0,none⟩)] W fun e w'=>e=.returned (.int .i64 (((ap q a:Nat):Int) - ((ap q b:Nat):Int)))/\∃ k,w'=W.drewN k:=by
 obtain ⟨ad,cap,rfl,_,_,_,aO⟩:=hu.shape;have hl:=gq.2;obtain ⟨b0,o0,rfl,_,hr⟩:=aO (by omega);have x1:=hr a (by omega);have x2:=hr b (by omega);have e1:ap q a=q[a]'(by omega):=Cm.jf (by omega);have e2:ap q b=q[b]'(by omega):=Cm.jf (by omega);rw [<- e1] at x1;rw [<- e2] at x2;have l1:=Cm.cy gq ha;have l2:=Cm.cy gq hb
 have lS:(a:Int)<(q.length:Int):=by omega
 have dG:(b:Int)<(q.length:Int):=by omega
 clear hr aO hu e1 e2 gq hl;generalize ap q a=x at *;generalize ap q b=y at *
 go_enter Tryz.func111,Tryz.ntmps111
 go_wp2
 go_quiet (fail)
 go_wp2;go_ret;exact ⟨rfl,_,rfl⟩
def Lh (N:Nat):={ x:Nat // x<N }
def zh {N:Nat} (p:Lh N):Value:=.int .i64 ((p.1:Nat):Int)
def H4 {N:Nat} (q:List Nat) (a b:Lh N):Int:=((ap q a.1:Nat):Int) - ((ap q b.1:Nat):Int)
theorem Yo (q:List Nat):SWO (ltOf (H4 (N:=N) q)) where
 irrefl x:=by simp [ltOf,H4]
 trans x y z h1 h2:=by
  have a1:=of_decide_eq_true h1;have a2:=of_decide_eq_true h2;refine decide_eq_true ?_;unfold H4 at *;omega
 ntrans x y z h1 h2:=by
  have a1:=of_decide_eq_false h1;have a2:=of_decide_eq_false h2;refine decide_eq_false ?_;unfold H4 at *;omega
theorem UJ:∀ (args:Array Value) (w:World),(callFunc 111 args).run Tryz.prog w=.ok (.enter 111 args) w:=fun _ _=>by kernel_rfl
theorem H5 {o:List Nat} {uv:Value} {ub:Nat} {blk:Nat} (gq:Gd N q) (hN:N<=64) (hc:W.cell? ⟨ub,0,none⟩=some uv) (vn:ub<W.heap.size) (hne:ub≠blk) (hu:Rg.FI (fun z=>z≠blk) W uv (Ma.ag q)) (ho:∀ y∈o,y<N) (qe:o.length<=64)
  (eZ:1<=N) (aO:∀ i (h:i<o.length),W.cell? ⟨blk,i,none⟩=some (.int .i64 ((o[i]:Nat):Int))/\W.frozen? ⟨blk,i,none⟩=false) (aE:blk<W.heap.size) :
  Calls Tryz.prog 110 #[.slice (some ⟨blk,0,none⟩) o.length cap,.func (.func 111) #[] #[.pointer (some ⟨ub,0,none⟩)]] W fun e w'=>e=.returned (.tuple #[]) /\
   ∃ l:List Nat,l.Perm o/\l.Pairwise (fun a b=>ap q a<=ap q b)/\(∀ i (h:i<l.length),w'.cell? ⟨blk,i,none⟩=some (.int .i64 ((l[i]:Nat):Int)))/\Rg.Kp (fun z=>z=blk) W w':=by
 have _:Inhabited (Lh N):=⟨⟨0,eZ⟩⟩
 obtain ⟨d,hd,Yp⟩:∃ d:Array (Lh N),d.size=o.length/\∀ i (h:i<d.size) (h2:i<o.length),d[i].1=o[i] :=
  ⟨Array.ofFn (n:=o.length) fun i=>⟨o[i.1],ho _ (List.getElem_mem i.2)⟩,Array.size_ofFn,fun i h h2=>congrArg Subtype.val (Array.getElem_ofFn h)⟩
 have hH:Holds zh W blk 0 d:=fun j hj=>by
  rw [Nat.zero_add,getElem!_pos d j hj]
  have e:zh d[j]=.int .i64 ((o[j]'(by omega):Nat):Int):=by unfold zh; rw [Yp j hj (by omega)]
  rw [e];exact aO j (by omega)
 have N1:CmpLays1 Tryz.prog 111 #[.pointer (some ⟨ub,0,none⟩)] (zh (N:=N)) (H4 q) blk 0 d.size W:=fun m os dk _ x y=>by
  have hk:=oI (enc:=zh) (w:=W) (blk:=blk) (m:=m) (dk:=dk) (os:=os);have hq:=(Rg.FI.kp hu hk (fun z hz e=>hz e)).ints
  have eD:(sortWorld zh W blk 0 m dk os).cell? ⟨ub,0,none⟩=some uv:=by
   rw [<- hc]; unfold World.cell?; rw [hk.block ub vn hne]
  refine (Lg gq hN eD hq x.2 y.2).mono ?_;rintro e w' ⟨h1,k,h2⟩;exact ⟨h1,k,#[],by rw [h2,grow_empty]⟩
 have hs:=Tryz.pG (zh (N:=N)) (fun x=>rfl) (H4 q) (Yo q) 111 #[.pointer (some ⟨ub,0,none⟩)] blk 0 cap d W UJ N1 hH aE (by rw [hd]; omega);rw [hd] at hs;refine hs.mono ?_;rintro e w' ⟨rfl,d',m,os,hp,rO,rfl⟩;have hk:=oI (enc:=zh) (w:=W) (blk:=blk) (m:=m) (dk:=d') (os:=os)
 have BI:d'.size=o.length:=by rw [hp.1,hd]
 have Qd:d'.extract 0 o.length=d':=by rw [<- BI]; simp
 have hx2:d.extract 0 o.length=d:=by rw [<- hd]; simp
 have hh:=SW.holds (W:=sortWorld zh W blk 0 m d' os) ⟨m,os,rfl⟩ aE hH (by rw [BI,hd]);refine ⟨rfl,d'.toList.map (·.1),?_,?_,fun i h=>?_,hk⟩
 ·have h1:=hp.2.2
  rw [Qd,hx2] at h1;have h2:=h1.map (fun p:Lh N=>p.1)
  have e:d.toList.map (fun p:Lh N=>p.1)=o:=by
   apply List.ext_getElem
   ·simp [hd]
   ·intro i h1 h2
    have h3:i<d.size:=by simpa using h1
    rw [List.getElem_map,Array.getElem_toList,Yp i h3 h2]
  rwa [e] at h2
 ·rw [List.pairwise_iff_getElem]
  intro i j hi hj p6;simp only [List.length_map,Array.length_toList] at hi hj;have:=rO i j (Nat.zero_le _) p6 (by rw [<- BI]; exact hj);rw [getElem!_pos d' j hj,getElem!_pos d' i hi] at this;have h9:=of_decide_eq_false this;unfold H4 at h9;simp only [List.getElem_map,Array.getElem_toList];omega
 ·have jQ:i<d'.size:=by simpa using h
  have:=(hh i jQ).1;rw [Nat.zero_add] at this;rw [this,getElem!_pos d' i jQ];simp [zh]
theorem Li {o:List Nat} {uv:Value} {ub:Nat} (gq:Gd N q) (eZ:1<=N) (hN:N<=64) (hc:W.cell? ⟨ub,0,none⟩=some uv) (vn:ub<B) (hB:B<=W.heap.size) (hu:Rg.FI (fun z=>z<B) W uv (Ma.ag q)) (ho:∀ y∈o,y<N) (qe:o.length<=64) (WD:1<=o.length)
  (h:W.ownsRow B 3 1 v (Ma.ag o).length ((Ma.ag o).map (Value.int .i64))) :
  Calls Tryz.prog 110 #[v,.func (.func 111) #[] #[.pointer (some ⟨ub,0,none⟩)]] W fun e w'=>∃ l:List Nat,e=.returned (.tuple #[])/\l.Perm o/\l.Pairwise (fun a b=>ap q a<=ap q b)/\Rg.FI (fun z=>B<=z) w' v (Ma.ag l)/\Rg.Kp (fun z=>B<=z) W w':=by
 obtain ⟨h1,h2⟩:=h
 rcases h2 with ⟨_,h0⟩ | ⟨g,cap,cur,rfl,hg,wN,h3,h4,h5,h6⟩
 ·rw [Ma.ar] at h0; omega
 rw [Nat.mul_one] at h6;have aE:=(Array.getElem?_eq_some_iff.1 wN).1;have hH:=holds_of_blockI wN h6;rw [Ma.ar] at h3 ⊢
 have aO:∀ i (h:i<o.length),W.cell? ⟨g,i,none⟩=some (.int .i64 ((o[i]:Nat):Int))/\W.frozen? ⟨g,i,none⟩=false:=fun i hi=>by
  have jQ:i<(Ma.ag o).toArray.size:=by simpa [Ma.ar] using hi
  have:=hH i jQ;rw [Nat.zero_add,getElem!_pos _ i jQ] at this
  simpa [Ma.nO] using this
 refine (H5 gq hN hc (Nat.lt_of_lt_of_le vn hB) (by omega) (hu.mono fun z hz=>by omega) ho qe eZ aO aE).mono ?_;rintro e w' ⟨rfl,l,hp,hs,hl,hk⟩;refine ⟨l,rfl,hp,hs,?_,hk.iR fun z hz=>by omega⟩;have y7:l.length=o.length:=hp.length_eq
 have fV:((Ma.ag l).map (Value.int .i64)).length=o.length:=by rw [List.length_map,Ma.ar,y7]
 refine ⟨some ⟨g,0,none⟩,cap,by rw [fV],by rw [fV]; exact h3,h4,by rw [fV]; omega,fun _=>⟨g,0,rfl,Nat.lt_of_lt_of_le aE hk.size,hg,fun i hi=>?_⟩⟩
 have jQ:i<l.length:=by rw [fV] at hi; omega
 rw [Nat.zero_add,hl i jQ,List.getElem_map,Ma.nO]
end
section
open Go.Proofs.Ob
open Go.Proofs.Cm (Gd Gr ak ap)
attribute [local irreducible] Go.Calls Go.wpList
theorem Lj (cC:N<=12) (hH:Cm.bT N H) (cK:ak N H O R) {m:Nat} (hm:m<=N):bR O N m<=8916100448256:=by
 have h5:=BD cC (fun i hi=>hU hH cK (i:=i) hi) m hm;have h6:=Nat.pow_le_pow_right (n:=12) (by decide) (show m<=12 by omega)
 have e:(12:Nat) ^ 12=8916100448256:=by decide
 omega
end
section
open Go.Proofs.Ob
open Go.Proofs.Cm (Gd Gr ak ap lexLt bT St)
attribute [local irreducible] Go.Calls Go.wpList
theorem iJ {t:TypeId} {ps rs:Array TypeId} {b:Bool} (ht:Tryz.prog.underlying t=some (.func ps rs b)) {ad:Addr} (h:w.cell? ad=some v):(loadVar t ad).run Tryz.prog w=.ok v w:=by
 simp [loadVar,isAgg,run_underlying ht,load];simp [Sem.run,h]
end
end Go.Proofs.YtpedbljnhnoohaaGreat
namespace Go.Proofs.Rg
open Go Go.RowKit
section
variable {n:Nat} {P:Program} {Q:Exit->Act->World->Prop} {md:Region.Mode} {ops:Array Oper}
theorem Lk {id:Nat} {a:Act} {l:List Oper} (hm:P.follows .mixedOrders=true) (h:wpAnyIn Fence.wide n P .any l.toArray Q l.toArray.size (Array.replicate l.toArray.size false) a w.drew):(Code.region id l.toArray true).wp P Q a w :=
 (wpIn_wide (n:=n)).1 (wpIn_region_any hm h)
theorem jB {i m:Nat} {l:Array Bool} {a:Act} (h:wpOpIn Fence.wide n P ops Q i (wpAnyIn Fence.wide n P md ops Q m (l.setIfInBounds i true)) a w) (hr:Region.ready md ops l=[i]:=by kernel_rfl):wpAnyIn Fence.wide n P md ops Q (m+1) l a w :=
 ⟨fun e=>(by rw [hr] at e; cases e),fun j hj=>by
  rw [hr] at hj
  obtain rfl:j=i:=by simpa using hj
  exact h⟩
theorem Jk {i m:Nat} {l:Array Bool} {a:Act} (h:wpOpIn Fence.wide n P ops Q i (wpAnyIn Fence.wide n P md ops Q m (l.setIfInBounds i true)) a w) (h2:wpOpIn Fence.wide n P ops Q j (wpAnyIn Fence.wide n P md ops Q m (l.setIfInBounds j true)) a w) (hr:Region.ready md ops l=[i,j]:=by kernel_rfl):wpAnyIn Fence.wide n P md ops Q (m+1) l a w :=
 ⟨fun e=>(by rw [hr] at e; cases e),fun k hk=>by
  rw [hr] at hk
  rcases List.mem_cons.1 hk with rfl | hk
  ·exact h
  ·obtain rfl:k=j:=by simpa using hk
   exact h2⟩
theorem xG {l:Array Bool} {a:Act} (h:Q .normal a w) (hr:Region.ready md ops l=[]:=by kernel_rfl):wpAnyIn Fence.wide n P md ops Q 0 l a w:=⟨hr,h⟩
theorem lf {i:Nat} {o:Oper} {K:Act->World->Prop} {a:Act} (d:Option Tmp) (hi:ops[i]?=some o) (hd:o.dst=d) (hw:Region.wanted o (yielded ops a.tmps)=true) (hr:(execOp a.eval o).run P w=.ok (.value v) w') (h:K (a.put d v) w'):wpOpIn Fence.wide n P ops Q i K a w:=by
 subst hd;unfold wpOpIn;rw [hi];simp only [hw,if_true];refine ⟨fun _ _=>trivial,?_⟩;rw [show (Fence.wide).round=none from rfl,Oper.semAt_none,hr];exact h
theorem BJ {i:Nat} {o:Oper} {K:Act->World->Prop} {a:Act} (d:Option Tmp) (hi:ops[i]?=some o) (hd:o.dst=d) (hw:Region.wanted o (yielded ops a.tmps)=true) (f:FuncId) (args:Array Value) (hr:(execOp a.eval o).run P w=.ok (.enter f args) w) (h:Calls P f args w fun e w'=>∃ v,e=.returned v/\K (a.put d v) w'):wpOpIn Fence.wide n P ops Q i K a w:=by
 subst hd;unfold wpOpIn;rw [hi];simp only [hw,if_true];refine ⟨fun _ _=>trivial,?_⟩;rw [show (Fence.wide).round=none from rfl,Oper.semAt_none,hr];refine ⟨(fun hh=>by cases hh),(callsIn_wide.2 h).mono ?_⟩;rintro e w' ⟨v,rfl,hv⟩;exact hv
theorem tS {i m:Nat} {o:Oper} {K:Act->World->Prop} {a:Act} (d:Option Tmp) (hi:ops[i]?=some o) (hd:o.dst=d) (hw:Region.wanted o (yielded ops a.tmps)=true) (l:Nat) (args:Array Value) (hr:∀ r w',(Instr.yield l args).run P w=.ok r w'->(execOp a.eval o).run P w=.ok r w') (h:YieldAt Fence.wide m P l args w fun e w'=>∃ v,e=.returned v/\K (a.put d v) w') (hm:n - 1=m):wpOpIn Fence.wide n P ops Q i K a w:=by
 subst hd hm;obtain ⟨fn,tmps,asg,bd,hy,hR⟩:=h;unfold wpOpIn;rw [hi];simp only [hw,if_true];refine ⟨fun _ _=>trivial,?_⟩;rw [show (Fence.wide).round=none from rfl,Oper.semAt_none,hr _ _ hy];refine ⟨(fun hh=>by cases hh),hR.mono ?_⟩;rintro e w' ⟨v,rfl,hv⟩;exact hv
end
end Go.Proofs.Rg
namespace Go.Proofs.YtpedbljnhnoohaaGreat
open Go.RowKit
open Go.Proofs
open Go.Proofs.Ob
open Go.Proofs.Cm (Gd Gr ak ap lexLt bT St)
attribute [local irreducible] Go.Calls Go.wpList
theorem oL {o:Oper} {a:Act} {l:Nat} {x1:Value} (f x:Operand) (nV:Array TypeId) (ho:o.op=.call { callee:=.value f,args:=#[x],argTypes:=nV }) (hf:a.eval f=.func (.yield l) #[] #[]) (hx:a.eval x=x1):∀ r w',(Instr.yield l #[x1]).run Tryz.prog w=.ok r w'->(execOp a.eval o).run Tryz.prog w=.ok r w':=by
 intro r w' h;unfold execOp;simp [ho,hx,hf,resolve,invoke,Deferred.ofValue,h]
theorem Yq:Tryz.prog.follows .mixedOrders=true:=by kernel_rfl
structure rP (N:Nat) (O:List (List Nat)) (R:List (List (List Nat))) (F:Nat->Prop) (cb yb wb l:Nat) (ov rv:Value) (W:World):Prop where
 fc:F cb
 fy:F yb
 fw:F wb
 c0:W.cell? ⟨cb,0,none⟩=some (.int .i64 ((N:Nat):Int))
 c1:W.cell? ⟨cb,1,none⟩=some ov
 c2:W.cell? ⟨cb,2,none⟩=some rv
 y:W.cell? ⟨yb,0,none⟩=some (.func (.yield l) #[] #[])
 k:W.cell? ⟨wb,0,none⟩=some (.func (.func 108) #[] #[.pointer (some ⟨cb,0,none⟩),.pointer (some ⟨yb,0,none⟩),.pointer (some ⟨wb,0,none⟩)])
 o:Rg.aH F W ov (O.map Ma.ag)
 r:bf F W rv (R.map (List.map Ma.ag))
 lt:∀ z,F z->z<W.heap.size
section
variable {N:Nat} {O:List (List Nat)} {R:List (List (List Nat))} {F:Nat->Prop} {cb yb wb l:Nat} {ov rv:Value} {W W':World}
theorem oM {C:Nat->Prop} (hk:Rg.Kp C W W') {b k:Nat} (hb:b<W.heap.size) (hn:¬ C b):W'.cell? ⟨b,k,none⟩=W.cell? ⟨b,k,none⟩:=by
 unfold World.cell?; rw [hk.block b hb hn]
theorem rP.kp (h:rP N O R F cb yb wb l ov rv W) {C:Nat->Prop} (hk:Rg.Kp C W W') (hd:∀ z,F z->¬ C z):rP N O R F cb yb wb l ov rv W':=by
 have e:∀ {b k:Nat},F b->W'.cell? ⟨b,k,none⟩=W.cell? ⟨b,k,none⟩:=fun hb=>oM hk (h.lt _ hb) (hd _ hb);exact ⟨h.fc,h.fy,h.fw,(e h.fc).trans h.c0,(e h.fc).trans h.c1,(e h.fc).trans h.c2,(e h.fy).trans h.y,(e h.fw).trans h.k,h.o.kp hk hd,h.r.kp hk hd,fun z hz=>Nat.lt_of_lt_of_le (h.lt z hz) hk.size⟩
theorem rP.jj (h:rP N O R F cb yb wb l ov rv W) (hb:Below W.heap.size W W'):rP N O R F cb yb wb l ov rv W':=h.kp (C:=fun _=>False) (Rg.Kp.az hb) (fun _ _=>id)
theorem rP.mono (h:rP N O R F cb yb wb l ov rv W) {F':Nat->Prop} (hF:∀ z,F z->F' z) (aE:∀ z,F' z->z<W.heap.size):rP N O R F' cb yb wb l ov rv W :=
 ⟨hF _ h.fc,hF _ h.fy,hF _ h.fw,h.c0,h.c1,h.c2,h.y,h.k,h.o.mono hF,h.r.mono hF,aE⟩
theorem rP.ce (h:rP N O R F cb yb wb l ov rv W):bg W ov rv (O.map Ma.ag) (R.map (List.map Ma.ag)):=⟨h.o.rows,h.r.rows⟩
end
def UK (l:Nat) (LL:List (List Nat)) (J:Nat->(Nat->Prop)->World->Prop) (Jx:World->Prop):Prop :=
 ∀ (m t:Nat) (C:Nat->Prop) (W:World) (uv:Value),t<LL.length->J t C W->Rg.FI (fun z=>¬ C z) W uv (Ma.ag (LL.getD t []))->YieldAt Fence.wide m Tryz.prog l #[uv] W fun e W' =>
  (e=.returned (.bool true)/\∃ C':Nat->Prop,J (t+1) C' W'/\Rg.Kp C W W'/\∀ z,C' z->C z∨W.heap.size<=z)∨(e=.returned (.bool false)/\Jx W')
def N2 (J:Nat->(Nat->Prop)->World->Prop) (Jx:World->Prop) (t:Nat) (C:Nat->Prop) (W:World) (e:Ending) (W':World):Prop :=
 (e=.returned (.bool true)/\∃ C':Nat->Prop,J t C' W'/\Rg.Kp C W W'/\∀ z,C' z->C z∨W.heap.size<=z)∨(e=.returned (.bool false)/\Jx W')
theorem QW {l:List Int} (h:W.ownsRow B 3 1 v l.length (l.map (Value.int .i64))) (hl:l.length<=1000000):Rg.FI (fun z=>B<=z) W v l:=gG.fi ⟨h⟩ (by omega) (fun k h1 _=>h1)
theorem H6 (eZ:1<=N) (hN:N<=64) {cb yb wb l:Nat} {LL:List (List Nat)} {J:Nat->(Nat->Prop)->World->Prop} {Jx:World->Prop}
  (hY:UK l LL J Jx) (hJ:∀ t C W W',J t C W->Below W.heap.size W W'->J t C W') (hC:∀ t C W,J t C W->∀ z,C z->z<W.heap.size) {t:Nat} {uv:Value} {C:Nat->Prop} (ht:t<LL.length) (hq:LL.getD t []=q) (gq:Gd N q) (hW:rP N O R F cb yb wb l ov rv W) (hu:Rg.FI F W uv (Ma.ag q)) (hj:J t C W) (hd:∀ z,F z->¬ C z) :
  Calls Tryz.prog 108 (#[.int .i64 ((N:Nat):Int),uv]++#[.pointer (some ⟨cb,0,none⟩),.pointer (some ⟨yb,0,none⟩),.pointer (some ⟨wb,0,none⟩)]) W fun e W'=>N2 J Jx (t+1) C W e W':=by
 obtain ⟨n,ua,uc,hn,rfl,-⟩:=hu.len
 obtain rfl:n=N:=by rw [<- hn,Ma.ar,gq.2]
 clear hn;have HW:=U hW;have HY:=U hY;have HJ:=U hj;have HU:=U hu;have HD:=U hd;have HQ:=U hq;have A0:=U (show CL W cb 0 (.int .i64 ((n:Nat):Int)) from CL.mk hW.c0 (hW.lt _ hW.fc));clear hY hW hj hu hd hq
 go_enter Tryz.func108,Tryz.ntmps108
 have K:=U (Below.refl W.heap.size W);go_upto_region 0 with (fail);refine d3 ?_;refine d4 6 (hZ (v:=.slice ua n uc) _ _ rfl rfl rfl) ?_;go_frame;have aQ:CL (W.alloc (.cells #[.slice ua n uc] 27)) W.heap.size 0 (.slice ua n uc):=CL.mk (by rw [Rg.aI]; rfl) (by simp);have hb:=(Below.refl W.heap.size W).alloc (Nat.le_refl _) (.cells #[.slice ua n uc] 27);generalize W.alloc (.cells #[.slice ua n uc] 27)=w1 at *;replace A0:=U (A0.p.jj hb);replace K:=U (Rg.acc K.p hb);clear hb;have BX:=U aQ;refine d6 7 (.bool false) ?_;go_frame;go_upto_region 1 with (fail);refine d3 ?_;refine d5 15 (.int .i64 ((n:Nat):Int)) ?_;go_frame;refine d4 16 (af _ rfl rfl (gP _ _)) ?_;go_frame;refine d4 17 (g8 (.int .i64 ((n:Nat):Int)) ⟨cb,0,none⟩ (ah A0.p.cell)) ?_;go_frame;refine d4 18 (g9 (.bool true) .eql (h:=fA _ (decide_eq_true rfl))) ?_;go_frame
 clear aQ;go_upto_region 2 with (fail);refine Rg.Lk (n:=3) Yq ?_;have aq:Below w1.heap.size w1 w1.drew:=(Below.refl _ _).drew;replace K:=U (Rg.acc K.p aq);replace BX:=U (BX.p.jj aq);clear aq A0;generalize w1.drew=V at *;have N3:=U (HW.p.jj K.p);have H7:=U (HU.p.kp (Rg.Kp.az (M:=fun _=>False) K.p) (fun _ _=>id));have zi:=U (hJ _ _ _ _ HJ.p K.p);have hi:=H7.p.ints;have N4:=N3.p.y;have DE:=BX.p.cell
 have pB:=(mD (.slice ua n uc) (Ma.ag q) V hi (by rw [Ma.ar,gq.2]; exact eZ) (by rw [Ma.ar,gq.2]; omega)).mono (R':=fun e w'=>∃ v,e=.returned v/\w'.cell? ⟨yb,0,none⟩=some (.func (.yield l) #[] #[])/\YieldAt Fence.wide 2 Tryz.prog l #[v] w' (fun e W'=>N2 J Jx (t+1) C W e W')) (by
  rintro e w' ⟨v,rfl,fo,hb⟩;refine ⟨v,rfl,(N3.p.jj hb).y,YieldAt.mono (HY.p 2 t C w' v ht (hJ _ _ _ _ zi.p hb) ?_) ?_⟩
  ·rw [HQ.p]
   exact (QW fo (by rw [Ma.ar,gq.2]; omega)).mono fun z hz hc=>by
    have:=hC _ _ _ zi.p z hc;omega
  ·rintro e W3 (⟨rfl,C3,h1,h2,h3⟩ | h)
   ·refine .inl ⟨rfl,C3,h1,?_,fun z hz=>?_⟩
    ·exact (Rg.Kp.az (M:=C) (K.p.trans (hb.mono K.p.size))).trans h2 (fun _ _ h=>h)
    ·rcases h3 z hz with h4 | h4
     ·exact .inl h4
     ·exact .inr (Nat.le_trans (Nat.le_trans K.p.size hb.size) h4)
   ·exact .inr h)
 clear hi;refine Rg.Jk (i:=0) (j:=1) ?_ ?_
 ·skip
  refine Rg.lf (some 19) rfl rfl rfl (g8 (.func (.yield l) #[] #[]) ⟨yb,0,none⟩ (iJ Tryz.underlying118 N4)) ?_;go_frame;refine Rg.jB (i:=1) ?_;refine Rg.lf (some 20) rfl rfl rfl (g8 (.slice ua n uc) ⟨W.heap.size,0,none⟩ (Rg.ae _ _ Tryz.underlying27 DE)) ?_;go_frame;refine Rg.jB (i:=2) ?_;refine Rg.BJ (some 21) rfl rfl rfl _ _ (aF 75 _ _ rfl rfl (tB _ _)) ?_;refine pB.mono ?_;rintro e9 w9 ⟨v9,rfl,Ll,N5⟩;refine ⟨_,rfl,?_⟩;go_frame;refine Rg.jB (i:=3) ?_;refine Rg.tS (some 22) rfl rfl rfl l #[v9] (oL _ _ _ rfl rfl rfl) ?_ rfl;refine N5.mono ?_;rintro e8 w8 h8
  obtain ⟨bv,rfl⟩:∃ bv,e8=.returned (.bool bv):=by rcases h8 with ⟨rfl,_⟩ | ⟨rfl,_⟩ <;> exact ⟨_,rfl⟩
  refine ⟨_,rfl,?_⟩;go_frame;refine Rg.jB (i:=4) ?_;refine Rg.lf (some 7) rfl rfl rfl (c6 (.bool bv) _ rfl rfl) ?_;go_frame;refine Rg.xG ?_;clear pB N4 DE Ll zi H7 N3 K BX HW HY HJ HU HD HQ;go_wp2;go_ret;exact h8
 ·skip
  refine Rg.lf (some 20) rfl rfl rfl (g8 (.slice ua n uc) ⟨W.heap.size,0,none⟩ (Rg.ae _ _ Tryz.underlying27 DE)) ?_;go_frame;refine Rg.Jk (i:=0) (j:=2) ?_ ?_
  ·skip
   refine Rg.lf (some 19) rfl rfl rfl (g8 (.func (.yield l) #[] #[]) ⟨yb,0,none⟩ (iJ Tryz.underlying118 N4)) ?_;go_frame;refine Rg.jB (i:=2) ?_;refine Rg.BJ (some 21) rfl rfl rfl _ _ (aF 75 _ _ rfl rfl (tB _ _)) ?_;refine pB.mono ?_;rintro e9 w9 ⟨v9,rfl,Ll,N5⟩;refine ⟨_,rfl,?_⟩;go_frame;refine Rg.jB (i:=3) ?_;refine Rg.tS (some 22) rfl rfl rfl l #[v9] (oL _ _ _ rfl rfl rfl) ?_ rfl;refine N5.mono ?_;rintro e8 w8 h8
   obtain ⟨bv,rfl⟩:∃ bv,e8=.returned (.bool bv):=by rcases h8 with ⟨rfl,_⟩ | ⟨rfl,_⟩ <;> exact ⟨_,rfl⟩
   refine ⟨_,rfl,?_⟩;go_frame;refine Rg.jB (i:=4) ?_;refine Rg.lf (some 7) rfl rfl rfl (c6 (.bool bv) _ rfl rfl) ?_;go_frame;refine Rg.xG ?_;clear pB N4 DE Ll zi H7 N3 K BX HW HY HJ HU HD HQ;go_wp2;go_ret;exact h8
  ·skip
   refine Rg.BJ (some 21) rfl rfl rfl _ _ (aF 75 _ _ rfl rfl (tB _ _)) ?_;refine pB.mono ?_;rintro e9 w9 ⟨v9,rfl,Ll,N5⟩;refine ⟨_,rfl,?_⟩;go_frame;refine Rg.jB (i:=0) ?_;refine Rg.lf (some 19) rfl rfl rfl (g8 (.func (.yield l) #[] #[]) ⟨yb,0,none⟩ (iJ Tryz.underlying118 Ll)) ?_;go_frame;refine Rg.jB (i:=3) ?_;refine Rg.tS (some 22) rfl rfl rfl l #[v9] (oL _ _ _ rfl rfl rfl) ?_ rfl;refine N5.mono ?_;rintro e8 w8 h8
   obtain ⟨bv,rfl⟩:∃ bv,e8=.returned (.bool bv):=by rcases h8 with ⟨rfl,_⟩ | ⟨rfl,_⟩ <;> exact ⟨_,rfl⟩
   refine ⟨_,rfl,?_⟩;go_frame;refine Rg.jB (i:=4) ?_;refine Rg.lf (some 7) rfl rfl rfl (c6 (.bool bv) _ rfl rfl) ?_;go_frame;refine Rg.xG ?_;clear pB N4 DE Ll zi H7 N3 K BX HW HY HJ HU HD HQ;go_wp2;go_ret;exact h8

theorem UL (args:Array Value) (w:World):(callFunc 109 args).run Tryz.prog w=.ok (.enter 109 args) w:=by kernel_rfl
theorem UM (args:Array Value) (w:World):(callFunc 110 args).run Tryz.prog w=.ok (.enter 110 args) w:=by kernel_rfl
theorem UN (args:Array Value) (w:World):(callFunc 113 args).run Tryz.prog w=.ok (.enter 113 args) w:=by kernel_rfl
theorem tT {l:List Int} (h:Rg.FI F W v l):Rg.FI (fun z=>F z/\z<W.heap.size) W v l:=by
 obtain ⟨a,cap,h1,h2,h3,h4,h5⟩:=h;refine ⟨a,cap,h1,h2,h3,h4,fun h0=>?_⟩;obtain ⟨b,o,e1,e2,e3,e4⟩:=h5 h0;exact ⟨b,o,e1,e2,⟨e3,e2⟩,e4⟩
theorem Am {x:List Nat} (h:Rg.px w W v x):Rg.FI (fun z=>w.heap.size<=z) W v (Ma.ag x):=by
 obtain ⟨h1,h2⟩:=h;refine Rg.cB.of h1 fun b hb=>?_
 cases v with
 | slice a n c=>cases a with
  | none=>simp [Value.ownBlock] at hb
  | some a=>simp [Value.ownBlock] at hb; subst hb; exact h2 a n c rfl
 | _=>simp [Value.ownBlock] at hb
theorem xH {o:Oper} {a:Act} {x1 y1:Value} (F:FuncId) (f x y:Operand) (nV:Array TypeId) (ho:o.op=.call { callee:=.value f,args:=#[x,y],argTypes:=nV }) (hf:a.eval f=.func (.func F) #[] #[u1,u2,u3]) (hx:a.eval x=x1) (hy:a.eval y=y1)
  (hF:(callFunc F #[x1,y1,u1,u2,u3]).run Tryz.prog w=.ok (.enter F #[x1,y1,u1,u2,u3]) w):(execOp a.eval o).run Tryz.prog w=.ok (.enter F #[x1,y1,u1,u2,u3]) w:=by
 unfold execOp;simp [ho,hx,hy,hf,resolve,invoke,Deferred.ofValue,hF]
theorem N6 (args:Array Value) (w:World):(callFunc 108 args).run Tryz.prog w=.ok (.enter 108 args) w:=by kernel_rfl
theorem H8 (eZ:1<=N) (hN:N<=64) (hH:bT N H) (cK:ak N H O R) {cb yb wb l:Nat} {LL:List (List Nat)} {J:Nat->(Nat->Prop)->World->Prop} {Jx:World->Prop}
  (hY:UK l LL J Jx) (hJ:∀ t C W W',J t C W->Below W.heap.size W W'->J t C W') (hC:∀ t C W,J t C W->∀ z,C z->z<W.heap.size):∀ (m i t:Nat) (q:List Nat) (uv:Value) (F C:Nat->Prop) (w:World),i+m=N->t+bR O N m<=LL.length->(∀ r,r<bR O N m->LL.getD (t+r) []=oJ N O R m i q r)->H q ->
  rP N O R F cb yb wb l ov rv w->Rg.FI F w uv (Ma.ag q)->J t C w->(∀ z,F z->¬ C z) ->
  Calls Tryz.prog 108 (#[.int .i64 ((i:Nat):Int),uv]++#[.pointer (some ⟨cb,0,none⟩),.pointer (some ⟨yb,0,none⟩),.pointer (some ⟨wb,0,none⟩)]) w fun e W'=>N2 J Jx (t+bR O N m) C w e W':=by
 intro m
 induction m with
 | zero =>
  intro i t q uv F C w hi ht hr hq hW hu hj hd
  obtain rfl:i=N:=by omega
  exact H6 eZ hN hY hJ hC (by have:bR O i 0=1:=rfl; omega) (hr 0 Nat.zero_lt_one) (hH.gd q hq) hW hu hj hd
 | succ m ih =>
  intro i t q uv F C w hi ht hr hq hW hu hj hd;have gq:=hH.gd q hq
  have bF:i<N:=by omega
  obtain ⟨n,ua,uc,hn,rfl,-⟩:=hu.len
  obtain rfl:n=N:=by rw [<- hn,Ma.ar,gq.2]
  clear hn;obtain ⟨s,hs⟩:∃ s:Nat,Hid (bR O n m=s):=⟨_,U rfl⟩;obtain ⟨os,pD⟩:∃ l,Hid (O.getD i []=l):=⟨_,U rfl⟩;obtain ⟨rl,rq⟩:∃ l,Hid (R.getD i []=l):=⟨_,U rfl⟩;have N7:=U (qA hH cK bF gq);have Yr:=U (List.length_pos_of_mem (tR hH cK bF));have yO:=U (show (O.getD i []).length<=64 from Nat.le_trans (hU hH cK bF) (by omega));have DJ:=U (cK.len i bF);have HAS:=U (cK.eK i bF);have xi:=U (show bR O n (m+1)=(O.getD i []).length*s by rw [<- hs.p]; show (O.getD (n - (m+1)) []).length*_=_; rw [show n - (m+1)=i by omega]);obtain ⟨ob,oo,oc,rb,ro,rc,rfl,rfl,⟨ob2,DB,xC,tO⟩,⟨va,vc,Lm,By⟩⟩:=kZ cK hW.ce bF;rw [pD.p] at xC tO Lm By N7 Yr yO DJ HAS xi;rw [rq.p] at By DJ;have Ys:0<os.length:=Yr.p;have qe:os.length<=64:=yO.p;have A0:=U (show CL w cb 0 (.int .i64 ((n:Nat):Int)) from CL.mk hW.c0 (hW.lt _ hW.fc))
  have A1:=U (show CL w cb 1 (.slice (some ⟨ob,oo,none⟩) n oc) from CL.mk hW.c1 (hW.lt _ hW.fc));have A2:=U (show CL w cb 2 (.slice (some ⟨rb,ro,none⟩) n rc) from CL.mk hW.c2 (hW.lt _ hW.fc));have CO:=U xC;have NO:=U (dw.mk tO);have HW:=U hW;have HU:=U hu;have HJ:=U hj;have HD:=U hd;have HQ:=U hq;have HR:=U hr;have HT:=U ht;have HI:=U hi;have pA:=U bF;have GQ:=U gq;have IH:=U ih;have K:=U (Below.refl w.heap.size w);clear hr hq hW hu hj hd gq xC tO Lm By ih ht
  go_enter Tryz.func108,Tryz.ntmps108
  go_upto_region 0 with (fail);refine d3 ?_;refine d4 6 (hZ (v:=.slice ua n uc) _ _ rfl rfl rfl) ?_;go_frame;have aQ:CL (w.alloc (.cells #[.slice ua n uc] 27)) w.heap.size 0 (.slice ua n uc):=CL.mk (by rw [Rg.aI]; rfl) (by simp);have hb:=(Below.refl w.heap.size w).alloc (Nat.le_refl _) (.cells #[.slice ua n uc] 27);generalize w.alloc (.cells #[.slice ua n uc] 27)=w1 at *;replace A0:=U (A0.p.jj hb);replace A1:=U (A1.p.jj hb);replace A2:=U (A2.p.jj hb);replace CO:=U (CO.p.jj hb);replace NO:=U (NO.p.jj hb);replace K:=U (Rg.acc K.p hb);clear hb;have BX:=U aQ;refine d6 7 (.bool false) ?_;go_frame;clear aQ;go_upto_region 1 with (fail);refine d3 ?_;refine d5 15 (.int .i64 ((i:Nat):Int)) ?_;go_frame;refine d4 16 (af _ rfl rfl (gP _ _)) ?_;go_frame;refine d4 17 (g8 (.int .i64 ((n:Nat):Int)) ⟨cb,0,none⟩ (ah A0.p.cell)) ?_;go_frame
  refine d4 18 (g9 (.bool false) .eql (h:=fA _ f9)) ?_;go_frame;have KB:=U (Below.refl w1.heap.size w1);have Jl:w.heap.size<w1.heap.size:=BX.p.lt;have H7:=U (tT (HU.p.kp (Rg.Kp.az (M:=fun _=>False) K.p) (fun _ _=>id)));go_upto_region 3 with (fail);refine d3 ?_;refine d4 23 (af _ rfl rfl (gQ _ _)) ?_;go_frame;refine d4 24 (g8 (.slice (some ⟨ob,oo,none⟩) n oc) ⟨cb,1,none⟩ (Rg.ae _ _ Tryz.underlying22 ((Below.cell (p:=⟨cb,1,none⟩) KB.p A1.p.lt).trans A1.p.cell))) ?_;go_frame;refine d5 25 (.int .i64 ((i:Nat):Int)) ?_;go_frame;refine d4 26 (aB bU _ _ rfl ob (oo) (n) oc (i) rfl rfl pA.p) ?_;go_frame;refine d4 27 (g8 (.slice ob2 os.length DB) ⟨ob,oo+i,none⟩ (Rg.ae _ _ Tryz.underlying26 ((Below.cell (p:=⟨ob,oo+i,none⟩) KB.p CO.p.lt).trans CO.p.cell))) ?_;go_frame
  refine f7 28 (aF 109 _ _ rfl rfl (UL _ _)) ?_;refine (Ef _ (Ma.ag os) w1 (NO.p.jj KB.p).i (by rw [Ma.ar]; exact Ys) (by rw [Ma.ar]; omega)).mono ?_;rintro e1 w2 ⟨Uk,rfl,fo,hb⟩;have OW:=U fo;clear fo;refine ⟨_,rfl,?_⟩;go_frame;replace KB:=U (Rg.acc KB.p hb);clear hb;refine d6 8 (Uk) ?_;go_frame;go_upto_region 4 with (fail);refine d3 ?_;refine d5 29 (Uk) ?_;go_frame;refine d4 30 (dJ _ _ rfl rfl) ?_;go_frame;refine f7 31 (aw 110 _ _ _ rfl rfl rfl (UM _ _)) ?_;refine (Li GQ.p eZ hN ((BX.p.jj KB.p).cell) Jl KB.p.size ((H7.p.kp (Rg.Kp.az (M:=fun _=>False) KB.p) (fun _ _=>id)).mono fun z hz=>hz.2) N7.p.lt qe Ys OW.p).mono ?_;rintro e1 w3 ⟨lo,rfl,om,DS,H9,bZ⟩;refine ⟨_,rfl,?_⟩;go_frame;replace KB:=U (Rg.Kp.jj KB.p bZ (fun _ h=>h));clear bZ
  clear OW;have y7:lo.length=os.length:=om.length_eq;have Yt:=U om;have M_:=U (H3 GQ.p (fun y hy=>N7.p.lt y (om.mem_iff.1 hy)) (om.nodup_iff.2 N7.p.nd) DS);have QY:=U (hJ _ _ _ _ HJ.p (K.p.trans (KB.p.mono K.p.size)));have K3:=U (K.p.trans (KB.p.mono K.p.size));have Yu:=U K3.p.size
  have WK:=U ((HW.p.jj K3.p).mono (F':=fun z=>F z∨(w.heap.size<=z/\z<w3.heap.size)) (fun z hz=>.inl hz) (fun z hz=>by
   rcases hz with hz | hz
   ·have:=HW.p.lt z hz; have:=Yu.p; omega
   ·exact hz.2))
  have Yv:=U ((HU.p.kp (Rg.Kp.az (M:=fun _=>False) K3.p) (fun _ _=>id)).mono (F':=fun z=>F z∨(w.heap.size<=z/\z<w3.heap.size)) (fun z hz=>.inl hz));have QZ:=U ((tT H9).mono (F':=fun z=>F z∨(w.heap.size<=z/\z<w3.heap.size)) (fun z hz=>.inr ⟨Nat.le_trans (Nat.le_of_lt Jl) hz.1,hz.2⟩));have N8:=U (BX.p.jj KB.p)
  have Ln:=U (show ∀ z,(F z∨(w.heap.size<=z/\z<w3.heap.size))->¬ C z from fun z hz hc=>by
   rcases hz with hz | hz
   ·exact HD.p z hz hc
   ·have:=hC _ _ _ HJ.p z hc; omega)
  obtain ⟨n9,Yw,Yx,Yy,Yz,-⟩:=H9.len;rw [Ma.ar] at Yy;subst Yy Yz;clear om DS H9 KB K A0 A1 A2 CO NO BX H7 HW HU HJ HD;go_upto_region 5 with (fail);refine d3 ?_;refine d5 32 (.slice Yw lo.length Yx) ?_;go_frame;refine d4 33 (i3 Tryz.underlying26) ?_;go_frame;refine d5 34 (.int .i64 ((0:Nat):Int)) ?_;go_frame;have KQ:=U (show ∃ C':Nat->Prop,J (t+0*s) C' w3/\Rg.Kp C w3 w3/\∀ z,C' z->C z∨w3.heap.size<=z from ⟨C,by rw [Nat.zero_mul]; exact QY.p,Rg.Kp.refl _ _,fun z hz=>.inl hz⟩);clear QY;go_wp2
  go_loopw [34] (fun iv wr=>∃ d:Nat,iv=.int .i64 ((d:Nat):Int)/\d<=lo.length/\Hid (∃ C':Nat->Prop,J (t+d*s) C' wr/\Rg.Kp C w3 wr/\∀ z,C' z->C z∨w3.heap.size<=z)) (fun iv _=>lo.length - (intOf iv).toNat)
  case atStart=>exact ⟨0,rfl,Nat.zero_le _,KQ⟩
  case round =>
   clear KQ;obtain ⟨d,rfl,hdl,KQ⟩:=hrel;generalize wr=wA at *;obtain ⟨C1,Dz,ir,cJ⟩:=KQ.p;have zi:=U Dz;have tz:=U ir;have zj:=U cJ;clear KQ Dz ir cJ
   by_cases aE:d<lo.length
   case neg =>
    obtain rfl:d=lo.length:=by omega
    have HX:=U (show N2 J Jx (t+bR O n (m+1)) C w (.returned (.bool true)) wA from .inl ⟨rfl,C1,by rw [xi.p,<- y7]; exact zi.p,(Rg.Kp.az (M:=C) K3.p).trans tz.p (fun _ _ h=>h),fun z hz=>by
     rcases zj.p z hz with h1 | h1
     ·exact .inl h1
     ·exact .inr (Nat.le_trans Yu.p h1)⟩)
    clear zi tz zj WK Yv QZ N8 Ln K3;go_upto_region 6 with (fail);refine d3 ?_;refine d4 35 (g9 (.bool false) .lss (h:=aP _ f9)) ?_;go_frame;go_upto_region 13 with (fail);refine d3 ?_;refine d6 7 (.bool true) ?_;go_frame;go_wp2;go_ret;exact HX.p
   case pos =>
    have xI:=U (WK.p.kp tz.p Ln.p);have xj:=Yv.p.kp tz.p Ln.p;have SV:=QZ.p.kp tz.p Ln.p;have HU4:=U xj
    obtain ⟨b9,o9,rfl,YA,YB⟩:∃ b o,Yw=some ⟨b,o,none⟩/\b<wA.heap.size/\wA.cell? ⟨b,o+d,none⟩=some (.int .i64 ((lo[d]:Nat):Int)):=by
     obtain ⟨a,cap,e1,_,_,_,h5⟩:=SV;obtain ⟨b,o,rfl,h6,_,h7⟩:=h5 (by rw [List.length_map,Ma.ar]; omega);simp only [Value.slice.injEq] at e1;refine ⟨b,o,e1.1,h6,?_⟩;have:=h7 d (by rw [List.length_map,Ma.ar]; exact aE);rw [List.getElem_map,Ma.nO] at this;exact this
    have CP:=U (CL.mk YB YA);clear YA YB SV;obtain ⟨N9,YC,UO⟩:=Ez N7.p Yt.p M_.p aE;obtain ⟨pt,YD⟩:∃ x,Hid (lo[d]=x):=⟨_,U rfl⟩;obtain ⟨jx,nM⟩:∃ x,Hid (os.idxOf pt=x):=⟨_,U rfl⟩;rw [YD.p] at CP N9 YC UO;rw [nM.p] at N9 YC UO;have YE:=U N9;have HXP:=U UO;have HPI:=U (show pt∈os from Yt.p.mem_iff.1 (YD.p▸List.getElem_mem aE));have Dt:=U (show zf O R i q d=rl.getD jx [] by unfold zf; rw [pD.p,rq.p,HXP.p]);have Q0:=U (xF cK pA.p (k:=jx) (by rw [pD.p]; exact YE.p)).1;rw [rq.p] at Q0;obtain ⟨ob9,oo9,ju,rb9,ro9,h_,e1,e2,⟨ob3,H_,xC,tO⟩,⟨va8,YG,Lm,By⟩⟩:=kZ cK xI.p.ce pA.p;simp only [Value.slice.injEq,Option.some.injEq,Addr.mk.injEq,and_true,true_and] at e1 e2;obtain ⟨⟨rfl,rfl⟩,rfl⟩:=e1;obtain ⟨⟨rfl,rfl⟩,rfl⟩:=e2;rw [pD.p] at xC tO Lm By
    rw [rq.p] at By;obtain ⟨vb,vo,_,_,e1,cX,cJ,cY⟩:=kh By (i:=jx) (by rw [List.length_map,DJ.p]; exact N9);subst e1
    have e5:(rl.map Ma.ag)[jx]'(by rw [List.length_map,DJ.p]; exact N9)=Ma.ag (rl.getD jx []):=by rw [List.getElem_map,List.getD_eq_getElem?_getD,List.getElem?_eq_getElem]; rfl
    rw [e5] at cJ cY;obtain ⟨y,hy⟩:∃ y,Hid (rl.getD jx []=y):=⟨_,U rfl⟩;rw [hy.p] at cJ cY Q0 Dt;have GY:=U (hH.gd y Q0.p.1);obtain ⟨ya,yc,dO,-⟩:=cY.shape
    rename_i va7 vc7
    have CO:=U xC;have NO:=U (dw.mk tO);have CR:=U Lm;have CY:=U (CL.mk cJ cX);have NY:=U (dw.mk cY);have NQ:=U (dw.mk HU4.p.ints);have A0:=U (show CL wA cb 0 (.int .i64 ((n:Nat):Int)) from CL.mk xI.p.c0 (xI.p.lt _ xI.p.fc));have A1:=U (show CL wA cb 1 (.slice (some ⟨ob,oo,none⟩) n oc) from CL.mk xI.p.c1 (xI.p.lt _ xI.p.fc));have A2:=U (show CL wA cb 2 (.slice (some ⟨rb,ro,none⟩) n rc) from CL.mk xI.p.c2 (xI.p.lt _ xI.p.fc));have zk:=U (show CL wA w.heap.size 0 (.slice ua n uc) from CL.mk ((oM tz.p N8.p.lt (Ln.p _ (.inr ⟨Nat.le_refl _,N8.p.lt⟩))).trans N8.p.cell) (Nat.lt_of_lt_of_le N8.p.lt tz.p.size));have KA:=U (Below.refl wA.heap.size wA);clear xC tO Lm By cX cJ cY e5 dO xj;go_upto_region 6 with (fail);refine d3 ?_;refine d4 35 (g9 (.bool true) .lss (h:=aP _ f8)) ?_;go_frame
    go_upto_region 7 with (fail);refine d3 ?_;refine d4 36 (aB bK _ _ rfl b9 (o9) (lo.length) Yx (d) rfl rfl (by omega)) ?_;go_frame;refine d4 37 (g8 (.int .i64 ((pt:Nat):Int)) ⟨b9,o9+d,none⟩ (ah CP.p.cell)) ?_;go_frame;refine d6 10 (.int .i64 ((pt:Nat):Int)) ?_;go_frame;go_upto_region 8 with (fail);refine d3 ?_;refine d4 39 (af _ rfl rfl (gQ _ _)) ?_;go_frame;refine d4 40 (g8 (.slice (some ⟨ob,oo,none⟩) n oc) ⟨cb,1,none⟩ (Rg.ae _ _ Tryz.underlying22 A1.p.cell)) ?_;go_frame;refine d5 41 (.int .i64 ((i:Nat):Int)) ?_;go_frame;refine d4 42 (aB bU _ _ rfl ob (oo) (n) oc (i) rfl rfl pA.p) ?_;go_frame;refine d4 43 (g8 (.slice ob3 os.length H_) ⟨ob,oo+i,none⟩ (Rg.ae _ _ Tryz.underlying26 CO.p.cell)) ?_;go_frame;refine d5 44 (.int .i64 ((pt:Nat):Int)) ?_;go_frame
    refine f7 45 (aw 112 _ _ _ rfl rfl rfl (G4 _ _)) ?_;refine (Nj NO.p.i HAS.p (by have:=yO.p; omega) HPI.p nM).mono ?_;rintro e1 Lo ⟨rfl,hb⟩;refine ⟨_,rfl,?_⟩;go_frame;replace A0:=U (A0.p.jj hb);replace A1:=U (A1.p.jj hb);replace A2:=U (A2.p.jj hb);replace zk:=U (zk.p.jj hb);replace CO:=U (CO.p.jj hb);replace NO:=U (NO.p.jj hb);replace CR:=U (CR.p.jj hb);replace CY:=U (CY.p.jj hb);replace NY:=U (NY.p.jj hb);replace NQ:=U (NQ.p.jj hb);replace CP:=U (CP.p.jj hb);replace KA:=U (Rg.acc KA.p hb);clear hb;refine d5 38 (.tuple #[.int .i64 ((jx:Nat):Int),.bool true]) ?_;go_frame;refine d4 46 (i6 (.int .i64 ((jx:Nat):Int))) ?_;go_frame;refine d4 47 (i6 (.bool true)) ?_;go_frame;refine d6 11 (.int .i64 ((jx:Nat):Int)) ?_;go_frame;refine d6 12 (.bool true) ?_;go_frame
    go_upto_region 9 with (fail);have aq:Below Lo.heap.size Lo Lo.drew:=(Below.refl _ _).drew;replace A0:=U (A0.p.jj aq);replace A1:=U (A1.p.jj aq);replace A2:=U (A2.p.jj aq);replace zk:=U (zk.p.jj aq);replace CO:=U (CO.p.jj aq);replace NO:=U (NO.p.jj aq);replace CR:=U (CR.p.jj aq);replace CY:=U (CY.p.jj aq);replace NY:=U (NY.p.jj aq);replace NQ:=U (NQ.p.jj aq);replace CP:=U (CP.p.jj aq);replace KA:=U (Rg.acc KA.p aq);clear aq;refine Rg.Any.begin (S:=Rg.aG 14 (fun _=>True) (fun W=>Below Lo.drew.heap.size Lo.drew W)) mix ?_;generalize Lo.drew=EA at *;have hS:∀ (l:Array Bool) W,Below EA.heap.size EA W->Rg.aG 14 (fun _=>True) (fun W=>Below EA.heap.size EA W) l W:=fun l W h=>⟨.inr trivial,h⟩;have hI:Below EA.heap.size EA EA:=Below.refl _ _;refine d7 0 14 (.pointer (some ⟨cb,2,none⟩)) 49 rfl rfl (.inl ⟨rfl,fun w _=>af _ rfl rfl (wQ _ _)⟩) (hS _ _ hI) ?_;go_frame
    refine d7 1 14 (.slice (some ⟨rb,ro,none⟩) n rc) 50 rfl rfl (i9 ⟨cb,2,none⟩ (fun W hW=>Rg.ae _ _ Tryz.underlying23 ((Below.cell (p:=⟨cb,2,none⟩) hW A2.p.lt).trans A2.p.cell))) (hS _ _ hI) ?_;go_frame;refine d8 2 14 (.int .i64 ((i:Nat):Int)) 51 (hS _ _ hI) ?_;go_frame;refine d7 3 14 (.pointer (some ⟨rb,ro+i,none⟩)) 52 rfl rfl (Rg.aA ke _ _ rfl rfl rb (ro) (n) rc (i) rfl rfl pA.p) (hS _ _ hI) ?_;go_frame;refine d7 4 14 (.slice (some ⟨vb,vo,none⟩) os.length YG) 53 rfl rfl (i9 ⟨rb,ro+i,none⟩ (fun W hW=>Rg.ae _ _ Tryz.underlying41 ((Below.cell (p:=⟨rb,ro+i,none⟩) hW CR.p.lt).trans CR.p.cell))) (hS _ _ hI) ?_;go_frame;refine d8 5 14 (.int .i64 ((jx:Nat):Int)) 54 (hS _ _ hI) ?_;go_frame;refine d7 6 14 (.pointer (some ⟨vb,vo+jx,none⟩)) 55 rfl rfl (Rg.aA bP _ _ rfl rfl vb (vo) (os.length) YG (jx) rfl rfl YE.p) (hS _ _ hI) ?_;go_frame
    refine d7 7 14 (.slice va7 (Ma.ag y).length vc7) 56 rfl rfl (i9 ⟨vb,vo+jx,none⟩ (fun W hW=>Rg.ae _ _ Tryz.underlying27 ((Below.cell (p:=⟨vb,vo+jx,none⟩) hW CY.p.lt).trans CY.p.cell))) (hS _ _ hI) ?_;go_frame;refine d7 8 14 ((.slice ua n uc)) 57 rfl rfl (i9 ⟨w.heap.size,0,none⟩ (fun W hW=>Rg.ae _ _ Tryz.underlying27 ((Below.cell (p:=⟨w.heap.size,0,none⟩) hW zk.p.lt).trans zk.p.cell))) (hS _ _ hI) ?_;go_frame;refine Rg.Any.one (i:=9) (by kernel_rfl) (Rg.Any.ask (some 58) rfl rfl rfl _ _ (aw 113 _ _ _ rfl rfl rfl (UN _ _)) ?_);refine (C_ _ _ y q EA NY.p.i NQ.p.i GY.p.1 GQ.p.1 (by rw [GY.p.2,GQ.p.2]) (by rw [GY.p.2]; exact eZ) (by rw [GY.p.2]; exact hN)).mono ?_;rintro e1 N_ ⟨mv,rfl,kM,hb⟩;have UQ:=U ((Am kM).mono (F':=fun z=>wA.heap.size<=z) (fun z hz=>Nat.le_trans KA.p.size hz))
    have aJ:=Rg.acc hI hb;clear hb hI;refine ⟨_,rfl,(hS _ _ aJ),?_⟩;go_frame;have NM:=U (dw.mk kM.1);refine d8 10 14 (.tuple #[mv,.int .i64 0]) 48 (hS _ _ aJ) ?_;go_frame;refine d7 11 14 (mv) 59 rfl rfl (.inl ⟨rfl,fun w _=>aX (v:=mv) _ _ rfl rfl rfl⟩) (hS _ _ aJ) ?_;go_frame;refine d7 12 14 (.int .i64 0) 60 rfl rfl (.inl ⟨rfl,fun w _=>aX (v:=.int .i64 0) _ _ rfl rfl rfl⟩) (hS _ _ aJ) ?_;go_frame;refine d7 13 14 (mv) 13 rfl rfl (.inl ⟨rfl,fun w _=>Rg.cw (v:=mv) _ rfl rfl⟩) (hS _ _ aJ) ?_;go_frame;refine i8 14 14 rfl rfl (c6 (.int .i64 0) _ rfl rfl) (hS _ _ aJ) ?_;go_frame;refine Rg.Any.done (by kernel_rfl) ?_ _;replace A0:=U (A0.p.jj aJ);replace A1:=U (A1.p.jj aJ);replace A2:=U (A2.p.jj aJ);replace zk:=U (zk.p.jj aJ);replace CO:=U (CO.p.jj aJ);replace NO:=U (NO.p.jj aJ)
    replace CR:=U (CR.p.jj aJ);replace CY:=U (CY.p.jj aJ);replace NY:=U (NY.p.jj aJ);replace NQ:=U (NQ.p.jj aJ);replace CP:=U (CP.p.jj aJ);replace KA:=U (Rg.acc KA.p aJ);clear hS aJ;clear kM;have KC:=U (show Rg.Kp C1 wA N_ from Rg.Kp.az KA.p);have Oa:=U (xI.p.jj KA.p);have UR:=U (hJ _ _ _ _ zi.p KA.p)
    have US:=U (show ∀ z,(F z∨(w.heap.size<=z/\z<w3.heap.size))->¬ C1 z from fun z hz hc=>by
     rcases zj.p z hc with h1 | h1
     ·exact Ln.p z hz h1
     ·have:=WK.p.lt z hz; omega)
    have UT:=U ((tT (UQ.p)).mono (F':=fun z=>(F z∨(w.heap.size<=z/\z<w3.heap.size))∨(wA.heap.size<=z/\z<N_.heap.size)) (fun z hz=>.inr hz))
    have UU:=U (Oa.p.mono (F':=fun z=>(F z∨(w.heap.size<=z/\z<w3.heap.size))∨(wA.heap.size<=z/\z<N_.heap.size)) (fun z hz=>.inl hz) (fun z hz=>by
     rcases hz with hz | hz
     ·exact Oa.p.lt z hz
     ·exact hz.2))
    have UW:=U (show ∀ z,((F z∨(w.heap.size<=z/\z<w3.heap.size))∨(wA.heap.size<=z/\z<N_.heap.size))->¬ C1 z from fun z hz hc=>by
     rcases hz with hz | hz
     ·exact US.p z hz hc
     ·have:=hC _ _ _ zi.p z hc; omega)
    have hds:d*s+s<=bR O n (m+1):=by
     rw [xi.p,<- y7]
     have:d*s+s=(d+1)*s:=by rw [Nat.succ_mul]
     rw [this];exact Nat.mul_le_mul_right s aE
    have fP:=IH.p (i+1) (t+d*s) (Ma.aj y q) mv _ C1 N_ (by have:=HI.p; omega) (by rw [hs.p]; have:=HT.p; omega) (fun r hr=>by
     rw [hs.p] at hr;rw [<- Dt.p,<- NZ (by rw [hs.p]; exact hr),hs.p,Nat.add_assoc]
     exact HR.p _ (by omega)) (hH.mul _ _ Q0.p.1 HQ.p) UU.p UT.p UR.p UW.p
    rw [hs.p] at fP;have dU:=Oa.p.k;go_upto_region 10 with (fail);refine d3 ?_;refine d4 61 (g8 (.func (.func 108) #[] #[.pointer (some ⟨cb,0,none⟩),.pointer (some ⟨yb,0,none⟩),.pointer (some ⟨wb,0,none⟩)]) ⟨wb,0,none⟩ (iJ Tryz.underlying154 dU)) ?_;go_frame;refine d5 62 (.int .i64 ((i:Nat):Int)) ?_;go_frame;refine d4 63 (g9 (.int .i64 ((i+1:Nat):Int)) .add (h:=bA _ (by omega) (by omega))) ?_;go_frame;refine d5 64 (mv) ?_;go_frame;refine f7 65 (xH 108 _ _ _ _ rfl rfl rfl rfl (N6 _ _)) ?_;refine fP.mono ?_
    rintro e8 w8 (⟨rfl,C8,Q4,Q5,Q6⟩ | ⟨rfl,Q7⟩)
    ·refine ⟨_,rfl,?_⟩
     go_frame;refine d4 66 (bm _ _ true rfl rfl) ?_;go_frame
     have HX:=U (show ∃ C':Nat->Prop,J (t+(d+1)*s) C' w8/\Rg.Kp C w3 w8/\∀ z,C' z->C z∨w3.heap.size<=z from ⟨C8,by rw [Nat.succ_mul,<- Nat.add_assoc]; exact Q4,(tz.p.trans (KC.p.trans Q5 (fun _ _ h=>h)) (fun k hk hc=>(zj.p k hc).resolve_right (by omega))),fun z hz=>by
      rcases Q6 z hz with h1 | h1
      ·exact zj.p z h1
      ·exact .inr (Nat.le_trans tz.p.size (Nat.le_trans KC.p.size h1))⟩)
     clear fP dU Q4 Q5 Q6 UU Oa UT UR US UW KC KA A0 A1 A2 zk CO NO CR CY NY NQ CP NM UQ;go_wp2
     go_roundw
     case rel=>exact ⟨d+1,by go_num,aE,HX⟩
     case measure=>simp [intOf]; omega
    ·refine ⟨_,rfl,?_⟩
     go_frame;refine d4 66 (bm _ _ false rfl rfl) ?_;go_frame;have HX:=U (show N2 J Jx (t+bR O n (m+1)) C w (.returned (.bool false)) w8 from .inr ⟨rfl,Q7⟩);clear fP dU Q7 UU Oa UT UR US UW KC KA A0 A1 A2 zk CO NO CR CY NY NQ CP NM UQ;go_wp2;go_ret;exact HX.p

theorem UX (args:Array Value) (w:World):(callFunc 114 args).run Tryz.prog w=.ok (.enter 114 args) w:=by kernel_rfl
theorem EB {P:Program} {t:TypeId} {y:Nat} (hs:(P.info? t).map (fun i=>(i.zero,i.size,i.bytes))=some (some z,1,y)) {b o:Nat} {F:Fn} {x1 x2:Array Value} (h:w.cell? ⟨b,o,none⟩=some u) (hf:w.frozen? ⟨b,o,none⟩=false) :
  (storeVar t ⟨b,o,none⟩ (.func F x1 x2)).run P w=.ok () (w.setCell ⟨b,o,none⟩ (.func F x1 x2)):=by
 obtain ⟨i0,hi,cN,bs,dI⟩:=info_parts hs
 have h0:(⟨b,o,none⟩:Addr).add 0=⟨b,o,none⟩:=by simp [Addr.add]
 simp [storeVar,sizeOf,typeInfo,hi,bs,Value.cells,storeCells,store,h0];simp [Sem.run,h,hf]
theorem xJ:(Tryz.prog.info? 154).map (fun i=>(i.zero,i.size,i.bytes))=some (some .nilFunc,1,8):=by kernel_rfl
theorem zl {o:Oper} {a:Act} (ho:o.op=.alloc 154):(execOp a.eval o).run Tryz.prog w=.ok (.value (.pointer (some ⟨w.heap.size,0,none⟩))) (w.alloc (.cells #[.nilFunc] 154)):=by
 obtain ⟨i0,hi,cN,bs,dI⟩:=info_parts xJ;unfold execOp;simp only [ho]
 kernel_rfl
theorem vw {o:Oper} {a:Act} (F:FuncId) (x y z:Operand) (ho:o.op=.makeFunc (.func F) #[] #[x,y,z]) {t:Value} (hx:a.eval x=v) (hy:a.eval y=u) (hz:a.eval z=t):(execOp a.eval o).run Tryz.prog w=.ok (.value (.func (.func F) #[] #[v,u,t])) w:=by
 unfold execOp;simp [ho,hx,hy,hz,Instr.makeFunc]
theorem EC (eZ:1<=N) (hN:N<=64) (hH:bT N H) (cK:ak N H O R) {cb l:Nat} {J:Nat->(Nat->Prop)->World->Prop} {Jx:World->Prop}
  (hY:UK l (du N O R) J Jx) (hJ:∀ t C W W',J t C W->Below W.heap.size W W'->J t C W') (hC:∀ t C W,J t C W->∀ z,C z->z<W.heap.size) {C:Nat->Prop} (fc:F cb) (h0:w.cell? ⟨cb,0,none⟩=some (.int .i64 ((N:Nat):Int))) (h1:w.cell? ⟨cb,1,none⟩=some ov) (h2:w.cell? ⟨cb,2,none⟩=some rv) (ho:Rg.aH F w ov (O.map Ma.ag)) (hr:bf F w rv (R.map (List.map Ma.ag))) (aE:∀ z,F z->z<w.heap.size) (hd:∀ z,F z->¬ C z) (hj:J 0 C w) :
  Calls Tryz.prog 107 #[.func (.yield l) #[] #[],.pointer (some ⟨cb,0,none⟩)] w fun e W'=>(∃ v,e=.returned v)/\((∃ C':Nat->Prop,J (du N O R).length C' W'/\Rg.Kp C w W'/\∀ z,C' z->C z∨w.heap.size<=z)∨Jx W'):=by
 have A0:=U (show CL w cb 0 (.int .i64 ((N:Nat):Int)) from CL.mk h0 (aE _ fc));have A1:=U (show CL w cb 1 ov from CL.mk h1 (aE _ fc));have A2:=U (show CL w cb 2 rv from CL.mk h2 (aE _ fc));have YH:=A0;have YI:=A1;have YJ:=A2;have HO:=U ho;have HR:=U hr;have HL:=U aE;have HD:=U hd;have HJ:=U hj;have HF:=U fc;have YK:=U hY;have K:=U (Below.refl w.heap.size w);clear h0 h1 h2 ho hr aE hd hj fc hY
 go_enter Tryz.func107,Tryz.ntmps107
 go_upto_region 0 with (fail);refine d3 ?_;refine d4 2 (hZ (v:=.func (.yield l) #[] #[]) _ _ rfl rfl rfl) ?_;go_frame;have aQ:CL (w.alloc (.cells #[.func (.yield l) #[] #[]] 118)) w.heap.size 0 (.func (.yield l) #[] #[]):=CL.mk (by rw [Rg.aI]; rfl) (by simp);have hb:=(Below.refl w.heap.size w).alloc (Nat.le_refl _) (.cells #[.func (.yield l) #[] #[]] 118);generalize w.alloc (.cells #[.func (.yield l) #[] #[]] 118)=w1 at *;replace A0:=U (A0.p.jj hb);replace A1:=U (A1.p.jj hb);replace A2:=U (A2.p.jj hb);replace K:=U (Rg.acc K.p hb);clear hb;have BY:=U aQ;clear aQ;have YL:w.heap.size<w1.heap.size:=BY.p.lt;go_upto_region 1 with (fail);refine d3 ?_;refine d4 3 (zl rfl) ?_;go_frame;have aQ:CW (w1.alloc (.cells #[.nilFunc] 154)) w1.heap.size .nilFunc:=⟨by rw [Rg.aI]; rfl,cp w1 _ _ 0 0,by simp⟩
 have hb:=(Below.refl w1.heap.size w1).alloc (Nat.le_refl _) (.cells #[.nilFunc] 154);generalize w1.alloc (.cells #[.nilFunc] 154)=w2 at *;replace A0:=U (A0.p.jj hb);replace A1:=U (A1.p.jj hb);replace A2:=U (A2.p.jj hb);replace BY:=U (BY.p.jj hb);replace K:=U (Rg.acc K.p hb);clear hb;have BW:=U aQ;clear aQ;go_upto_region 2 with (fail);refine d3 ?_;refine d4 6 (vw (v:=.pointer (some ⟨cb,0,none⟩)) (u:=.pointer (some ⟨w.heap.size,0,none⟩)) (t:=.pointer (some ⟨w1.heap.size,0,none⟩)) _ _ _ _ rfl rfl rfl rfl) ?_;go_frame;refine Rg.aD none rfl rfl (Rg.ai _ _ _ rfl _ rfl _ rfl (EB xJ BW.p.c BW.p.f)) ?_;go_frame;obtain ⟨W3,Lp⟩:∃ X,w2.setCell ⟨w1.heap.size,0,none⟩ (.func (.func 108) #[] #[.pointer (some ⟨cb,0,none⟩),.pointer (some ⟨w.heap.size,0,none⟩),.pointer (some ⟨w1.heap.size,0,none⟩)])=X:=⟨_,rfl⟩
 have BA:Below w1.heap.size w2 W3:=by rw [<- Lp]; exact (Below.refl _ _).setCell (p:=⟨w1.heap.size,0,none⟩) (Nat.le_refl _) _
 have dU:W3.cell? ⟨w1.heap.size,0,none⟩=some (.func (.func 108) #[] #[.pointer (some ⟨cb,0,none⟩),.pointer (some ⟨w.heap.size,0,none⟩),.pointer (some ⟨w1.heap.size,0,none⟩)]):=by rw [<- Lp]; exact World.cell?_setCell_same _ _ _ BW.p.c
 have KB:=U (show Below w.heap.size w W3 from by rw [<- Lp]; exact K.p.setCell (p:=⟨w1.heap.size,0,none⟩) (Nat.le_of_lt YL) _);have Oc:=U (show CL W3 w.heap.size 0 (.func (.yield l) #[] #[]) from CL.mk (by rw [<- Lp,World.cell?_setCell_other _ _ _ _ (by intro e; simp only [Addr.mk.injEq] at e; have:=BY.p.lt; have:=BA.size; omega)]; exact BY.p.cell) (by have:=BY.p.lt; have:=BA.size; omega));have rJ:=U (show CL W3 w1.heap.size 0 (.func (.func 108) #[] #[.pointer (some ⟨cb,0,none⟩),.pointer (some ⟨w.heap.size,0,none⟩),.pointer (some ⟨w1.heap.size,0,none⟩)]) from CL.mk dU (by have:=BW.p.lt; have:=BA.size; omega));have A0:=U (show CL W3 cb 0 (.int .i64 ((N:Nat):Int)) from (U YH.p).p.jj KB.p);have QY:=U (hJ _ _ _ _ HJ.p KB.p);have QZ:=U (HO.p.kp (Rg.Kp.az (M:=fun _=>False) KB.p) (fun _ _=>id));have Nw:=U (HR.p.kp (Rg.Kp.az (M:=fun _=>False) KB.p) (fun _ _=>id))
 have A1:=U (YI.p.jj KB.p);have A2:=U (YJ.p.jj KB.p);rw [Lp];clear Lp dU BA K BY BW;have HS3:=U KB.p.size;go_upto_region 3 with (fail);refine d3 ?_;refine d4 8 (af _ rfl rfl (gP _ _)) ?_;go_frame;refine d4 9 (g8 (.int .i64 ((N:Nat):Int)) ⟨cb,0,none⟩ (ah A0.p.cell)) ?_;go_frame;refine f7 10 (aF 114 _ _ rfl rfl (UX _ _)) ?_;refine (CC N W3 eZ hN).mono ?_;rintro e1 w3 ⟨Od,rfl,hov,hb⟩;have YM:=U (tT (Am hov));refine ⟨_,rfl,?_⟩;go_frame;replace A0:=U (A0.p.jj hb);replace A1:=U (A1.p.jj hb);replace A2:=U (A2.p.jj hb);replace Oc:=U (Oc.p.jj hb);replace rJ:=U (rJ.p.jj hb);replace KB:=U (Rg.acc KB.p hb);clear hb;refine d5 7 (.tuple #[Od,.int .i64 0]) ?_;go_frame;refine d4 11 (i6 (Od)) ?_;go_frame;refine d4 12 (i6 (.int .i64 0)) ?_;go_frame
 refine d6 4 (Od) ?_;go_frame;refine d6 5 (.int .i64 0) ?_;go_frame
 have y8:=U (show ∀ r,r<bR O N N->(du N O R).getD (0+r) []=oJ N O R N 0 (Ma.bh N) r from fun r hr=>by
  unfold du;rw [Nat.zero_add,List.getD_eq_getElem?_getD,List.getElem?_map,List.getElem?_range hr]
  rfl)
 have hlen:(du N O R).length=bR O N N:=by unfold du; simp
 have WK:=U (show rP N O R (fun z=>F z∨(w.heap.size<=z/\z<w3.heap.size)) cb w.heap.size w1.heap.size l ov rv w3 from
  ⟨.inl HF.p,.inr ⟨Nat.le_refl _,Oc.p.lt⟩,.inr ⟨Nat.le_of_lt YL,rJ.p.lt⟩,A0.p.cell,A1.p.cell,A2.p.cell,Oc.p.cell,rJ.p.cell,(HO.p.kp (Rg.Kp.az (M:=fun _=>False) KB.p) (fun _ _=>id)).mono (fun _ h=>.inl h),(HR.p.kp (Rg.Kp.az (M:=fun _=>False) KB.p) (fun _ _=>id)).mono (fun _ h=>.inl h),fun z hz=>by
   rcases hz with hz | hz
   ·have:=HL.p z hz; have:=KB.p.size; omega
   ·exact hz.2⟩)
 have YO:=U (hJ _ _ _ _ HJ.p KB.p);have lY:=U (YM.p.mono (F':=fun z=>F z∨(w.heap.size<=z/\z<w3.heap.size)) (fun z hz=>.inr ⟨Nat.le_trans HS3.p hz.1,hz.2⟩))
 have tQ:=U (show ∀ z,(F z∨(w.heap.size<=z/\z<w3.heap.size))->¬ C z from fun z hz hc=>by
  rcases hz with hz | hz
  ·exact HD.p z hz hc
  ·have:=hC _ _ _ HJ.p z hc; omega)
 have fP:=H8 eZ hN hH cK YK.p hJ hC N 0 0 (Ma.bh N) Od _ C w3 (Nat.zero_add _) (by rw [hlen,Nat.zero_add]; exact Nat.le_refl _) y8.p hH.one WK.p lY.p YO.p tQ.p;rw [Nat.zero_add,<- hlen] at fP;have dU:=WK.p.k;go_upto_region 4 with (fail);refine d3 ?_;refine d4 13 (g8 (.func (.func 108) #[] #[.pointer (some ⟨cb,0,none⟩),.pointer (some ⟨w.heap.size,0,none⟩),.pointer (some ⟨w1.heap.size,0,none⟩)]) ⟨w1.heap.size,0,none⟩ (iJ Tryz.underlying154 dU)) ?_;go_frame;refine d5 14 (Od) ?_;go_frame;refine f7 15 (xH 108 _ _ _ _ rfl rfl rfl rfl (N6 _ _)) ?_;refine fP.mono ?_;rintro e8 w8 h8
 have HX:=U (show (∃ C':Nat->Prop,J (du N O R).length C' w8/\Rg.Kp C w w8/\∀ z,C' z->C z∨w.heap.size<=z)∨Jx w8 from by
  rcases h8 with ⟨_,C8,Q4,Q5,Q6⟩ | ⟨_,Q7⟩
  ·exact .inl ⟨C8,Q4,(Rg.Kp.az (M:=C) KB.p).trans Q5 (fun _ _ h=>h),fun z hz=>(Q6 z hz).imp id (fun h1=>Nat.le_trans KB.p.size h1)⟩
  ·exact .inr Q7)
 obtain ⟨bv,rfl⟩:∃ bv,e8=.returned (.bool bv):=by rcases h8 with ⟨rfl,_⟩ | ⟨rfl,_⟩ <;> exact ⟨_,rfl⟩
 refine ⟨_,rfl,?_⟩;go_frame;clear fP dU h8 WK lY tQ YO y8 QY QZ Nw A0 A1 A2 YH YI YJ Oc rJ YM KB YK HO HR HL HD HJ HF;go_wp2
 go_end0
 exact ⟨⟨_,rfl⟩,HX.p⟩
end Go.Proofs.YtpedbljnhnoohaaGreat
namespace Go.Proofs.RF
open Go Go.RowKit
def tU (fn:FuncId) (tmps:Array Value) (ps:Array Tmp) (assign body:Code) (D:Nat) (st:LoopState) (pe:Option Code):Loop :=
 { state:=st,pending:=pe,fn,tmps,params:=ps,assign,body,defers:=D }
def At (L:Nat) (r:Loop) (W:World):Prop:=W.heap[L]?=some (.loop r)
theorem At.put {r r':Loop} (h:At L r W):At L r' (W.putObj L (.loop r')) :=
 World.putObj_heap_same (Array.getElem?_eq_some_iff.1 h).1
theorem At.size {L:Nat} {r:Loop} {W:World} (h:At L r W):L<W.heap.size:=(Array.getElem?_eq_some_iff.1 h).1
theorem At.cell {L:Nat} {r r':Loop} {W:World} (h:At L r W) (a:Addr):(W.putObj L (.loop r')).cell? a=W.cell? a:=by
 unfold World.cell?
 by_cases e:a.block=L
 ·rw [e,World.putObj_heap_same h.size,show W.heap[L]?=_ from h]
 ·rw [World.putObj_heap_other e]
theorem At.frozen {L:Nat} {r r':Loop} {W:World} (h:At L r W) (a:Addr):(W.putObj L (.loop r')).frozen? a=W.frozen? a:=by
 unfold World.frozen?
 by_cases e:a.block=L
 ·rw [e,World.putObj_heap_same h.size,show W.heap[L]?=_ from h]
 ·rw [World.putObj_heap_other e]
theorem At.jj {r:Loop} (h:At L r W) (hB:B<=L) (o:Obj):Below B W (W.putObj L o) :=
 have _:=h
 ⟨rfl,rfl,rfl,by simp,fun k hk=>World.putObj_heap_other (by omega)⟩
theorem At.keep {r:Loop} (h:At L r W) (hk:W'.heap[L]?=W.heap[L]?):At L r W':=hk.trans h
theorem At.az {r:Loop} (h:At L r W) (hb:Below B W W') (hL:L<B):At L r W':=(hb.block L hL).trans h
theorem At.mF {r:Loop} (h:At L r W) (hb:Below W.heap.size W W'):At L r W':=(hb.block L h.size).trans h
theorem At.alloc {L:Nat} {r:Loop} {W:World} (h:At L r W) (o:Obj):At L r (W.alloc o):=(Below.heap_alloc W o L h.size).trans h
theorem At.drew {L:Nat} {r:Loop} {W:World} (h:At L r W):At L r W.drew:=h
theorem At.setCell {L:Nat} {r:Loop} {W:World} (h:At L r W) (a:Addr) (v:Value):At L r (W.setCell a v) :=
 (KeepsOthers.setCell W a v).same L _ h rfl
theorem ef.put {r:Loop} (h:ef D W) (hl:At L r W) (o:Obj):ef D (W.putObj L o):=by
 have hne:D≠L:=by
  intro e; subst e;have:=(show W.heap[D]?=_ from h).symm.trans hl;simp at this
 exact (World.putObj_heap_other hne).trans h
theorem outer {P:Program} {g:Operand} {ps:Array Tmp} {assign body:Code} {Q:Exit->Act->World->Prop} {a:Act}
  {gf:Nat} {lb:Array Value} (hg:a.eval g=.func (.func gf) #[] lb) (eg:∀ args w,(callFunc gf args).run P w=.ok (.enter gf args) w)
  (h:∀ (fn:FuncId) (rec:LoopState->Option Code->Loop) (W1:World),rec=tU fn a.tmps ps assign body w.heap.size ->
   W1=(w.alloc (.deferred (some []))).alloc (.loop (rec .ready none)) ->
   At (w.heap.size+1) (rec .ready none) W1->ef w.heap.size W1->Below w.heap.size w W1 ->
   CallsIn Fence.wide (n - 1) P gf (#[.func (.yield (w.heap.size+1)) #[] #[]]++lb) W1 (fun e W2=>(∃ v,e=.returned v) /\
    ((At (w.heap.size+1) (rec .ready none) W2 /\
      Q .normal { a with defers:={ target:=.collected w.heap.size,args:=#[] } :: a.defers } (W2.putObj (w.heap.size+1) (.loop (rec .exhausted none)))) ∨
     (∃ c,At (w.heap.size+1) (rec .done (some c)) W2 /\
      c.wpIn Fence.wide n P Q { a with defers:={ target:=.collected w.heap.size,args:=#[] } :: a.defers } (W2.putObj (w.heap.size+1) (.loop (rec .exhausted (some c)))))))) :
  (Code.rangeFunc g ps assign body).wpIn Fence.wide n P Q a w:=by
 refine wpIn_rangeFunc ?_;intro fn _;have hro:Fence.wide.round=none:=rfl;rw [hro];obtain ⟨rec,fP⟩:∃ rec,rec=tU fn a.tmps ps assign body w.heap.size:=⟨_,rfl⟩;obtain ⟨W1,Ia⟩:∃ W1,(w.alloc (.deferred (some []))).alloc (.loop (rec .ready none))=W1:=⟨_,rfl⟩
 have UY:At (w.heap.size+1) (rec .ready none) W1:=by
  rw [<- Ia]; have:=World.alloc_heap_new (w.alloc (.deferred (some []))) (.loop (rec .ready none)); rwa [World.size_alloc] at this
 have hK1:ef w.heap.size W1:=by
  rw [<- Ia]; exact (Below.heap_alloc _ _ _ (by simp)).trans (World.alloc_heap_new w _)
 have cX:Below w.heap.size w W1:=by
  rw [<- Ia]; exact ((Below.refl _ w).alloc (Nat.le_refl _) _).alloc (by simp) _
 refine ⟨w.heap.size+1,[{ target:=.collected w.heap.size,args:=#[] }],W1,{ target:=.fn (.func gf) lb,args:=#[.func (.yield (w.heap.size+1)) #[] #[]] },W1,gf,
  #[.func (.yield (w.heap.size+1)) #[] #[]]++lb,W1,?_,?_,?_,?_,fun h=>by simp [Fence.wide] at h,?_⟩
 ·rw [<- Ia,fP]; exact run_enterLoop_outer _ _ _ _ _
 ·simp only [resolve,hg]
  simp [go_sem]
 ·intro f' UZ; trivial
 ·simp [invoke,go_sem,eg]
 ·refine (h fn rec W1 fP Ia.symm UY hK1 cX).mono ?_
  rintro e W2 ⟨⟨v,rfl⟩,(⟨hl,hq⟩ | ⟨c,hl,hq⟩)⟩
  ·exact ⟨none,_,by have:=run_endLoop (P:=P) hl (by rw [fP]; simp [tU]); rw [fP] at this; exact this,by rw [fP] at hq; exact hq⟩
  ·exact ⟨some c,_,by have:=run_endLoop (P:=P) hl (by rw [fP]; simp [tU]); rw [fP] at this; exact this,by rw [fP] at hq; exact hq⟩
def Lq (L:Nat) (rec:LoopState->Option Code->Loop) (R:Ending->World->Prop):Exit->Act->World->Prop
 | .normal,_,W=>At L (rec .busy none) W/\R (.returned (.bool true)) (W.putObj L (.loop (rec .ready none)))
 | .ret,_,W=>At L (rec .busy none) W/\R (.returned (.bool false)) (W.putObj L (.loop (rec .done (some .ret))))
 | .exit id,_,W=>At L (rec .busy none) W/\R (.returned (.bool false)) (W.putObj L (.loop (rec .done (some (.exit id)))))
 | .goto t,_,W=>At L (rec .busy none) W/\R (.returned (.bool false)) (W.putObj L (.loop (rec .done (some (.goto t)))))
 | .panic _,_,_=>False
 | .outgrown,_,_=>False
theorem round {P:Program} {fn:FuncId} {tmps:Array Value} {ps:Array Tmp} {assign body:Code} {args:Array Value} {R:Ending->World->Prop}
  {rec:LoopState->Option Code->Loop} (fP:rec=tU fn tmps ps assign body D)
  (hL:At L (rec .ready none) W) (hs:args.size=ps.size)
  (h:assign.wpIn (Fence.wide.inRound L) n P (Exit.then (fun lV Oe=>At L (rec .ready none) Oe /\
    body.wpIn (Fence.wide.inRound L) n P (Lq L rec R) lV (Oe.putObj L (.loop (rec .busy none)))) (fun _ _ _=>False))
   { tmps:=(ps.zip args).foldl (fun t (p,v)=>t.setIfInBounds p v) tmps,defers:=[] } W) :
  YieldAt Fence.wide n P L args W R:=by
 subst fP;refine ⟨fn,_,assign,body,run_yield hL hs,roundIn_of_wpIn trivial (wpIn_mono h ?_)⟩;rintro e lV Oe hq
 cases e with
 | normal =>
  obtain ⟨h1,h2⟩:=hq;refine ⟨_,run_beginRound h1 rfl,wpIn_mono h2 ?_⟩;rintro e aai aaj hp
  cases e with
  | normal=>exact ⟨_,_,run_endRound (P:=P) none hp.1,hp.2⟩
  | ret=>exact ⟨_,_,run_endRound (P:=P) (some .ret) hp.1,hp.2⟩
  | exit id=>exact ⟨_,_,run_endRound (P:=P) (some (.exit id)) hp.1,hp.2⟩
  | goto t=>exact ⟨_,_,run_endRound (P:=P) (some (.goto t)) hp.1,hp.2⟩
  | panic ch=>exact hp.elim
  | outgrown=>exact hp.elim
 | ret=>exact hq.elim
 | exit id=>exact hq.elim
 | goto t=>exact hq.elim
 | panic ch=>exact hq.elim
 | outgrown=>exact hq.elim
theorem Jn {P:Program} {g:Operand} {ps:Array Tmp} {assign body:Code} {Q:Exit->Act->World->Prop} {a:Act}
  {gf:Nat} {lb:Array Value} (hg:a.eval g=.func (.func gf) #[] lb) (eg:∀ args w,(callFunc gf args).run P w=.ok (.enter gf args) w)
  (h:∀ (fn:FuncId) (rec:LoopState->Option Code->Loop) (W1:World),rec=tU fn a.tmps ps assign body w.heap.size ->
   W1=(w.alloc (.deferred (some []))).alloc (.loop (rec .ready none)) ->
   At (w.heap.size+1) (rec .ready none) W1->ef w.heap.size W1->Below w.heap.size w W1 ->
   CallsIn Fence.wide 0 P gf (#[.func (.yield (w.heap.size+1)) #[] #[]]++lb) W1 (fun e W2=>(∃ v,e=.returned v) /\
    ((At (w.heap.size+1) (rec .ready none) W2 /\
      Q .normal { a with defers:=mark w.heap.size :: a.defers } (W2.putObj (w.heap.size+1) (.loop (rec .exhausted none)))) ∨
     (∃ c,At (w.heap.size+1) (rec .done (some c)) W2 /\
      c.wp P Q { a with defers:=mark w.heap.size :: a.defers } (W2.putObj (w.heap.size+1) (.loop (rec .exhausted (some c)))))))) :
  (Code.rangeFunc g ps assign body).wp P Q a w:=by
 refine wpIn_wide.1 (outer (n:=1) hg eg fun fn rec W1 h1 h2 h3 h4 h5=>(h fn rec W1 h1 h2 h3 h4 h5).mono ?_)
 rintro e W2 ⟨hv,(⟨hl,hq⟩ | ⟨c,hl,hq⟩)⟩
 ·exact ⟨hv,.inl ⟨hl,hq⟩⟩
 ·exact ⟨hv,.inr ⟨c,hl,wpIn_wide.2 hq⟩⟩
structure iK (W W':World):Prop where
 cell:∀ a,W'.cell? a=W.cell? a
 frozen:∀ a,W'.frozen? a=W.frozen? a
 size:W.heap.size<=W'.heap.size
 blk:∀ (g:Nat) (cur:Array Value) (e:TypeId) (fz:Nat × Nat),W.heap[g]?=some (.cells cur e fz)->W'.heap[g]?=some (.cells cur e fz)
theorem At.same {r r':Loop} (h:At L r W):iK W (W.putObj L (.loop r')) :=
 ⟨fun a=>h.cell a,fun a=>h.frozen a,by simp,fun g cur e fz hg=>by
  have hne:g≠L:=by
   intro e1; subst e1;have:=hg.symm.trans h;simp at this
  exact (World.putObj_heap_other (by omega)).trans hg⟩
theorem pd (o:Obj):Go.Proofs.Rg.Kp (fun z=>z=L) W (W.putObj L o):=⟨rfl,rfl,rfl,by simp,fun k _ hn=>World.putObj_heap_other (fun e=>hn e)⟩
end Go.Proofs.RF
namespace Go.Proofs.YtpedbljnhnoohaaGreat
open Go.RowKit
open Go.Proofs
section
open Go.Proofs.Ob
open Go.Proofs.Cm (Gd Gr ak ap lexLt bT St)
attribute [local irreducible] Go.Calls Go.wpList
theorem FI.same {l:List Int} (h:Rg.FI F W v l) (hs:RF.iK W W'):Rg.FI F W' v l:=eh hs.cell hs.size h
def Q8 (I:Nat->(Nat->Prop)->World->Prop) (Ix:Code->World->Prop) (t:Nat) (C:Nat->Prop) (W:World):Exit->Act->World->Prop
 | .normal,_,W'=>∃ C':Nat->Prop,I (t+1) C' W'/\Rg.Kp C W W'/\∀ z,C' z->C z∨W.heap.size<=z
 | .ret,_,W'=>Ix .ret W'/\Rg.Kp C W W'
 | .exit id,_,W'=>Ix (.exit id) W'/\Rg.Kp C W W'
 | .goto g,_,W'=>Ix (.goto g) W'/\Rg.Kp C W W'
 | .panic _,_,_=>False
 | .outgrown,_,_=>False
theorem U0:∀ (args:Array Value) (w:World),(callFunc 107 args).run Tryz.prog w=.ok (.enter 107 args) w:=fun _ _=>by kernel_rfl
theorem xK {C C':Nat->Prop} (h:Rg.Kp C W W') (hC:∀ z,C z->C' z):Rg.Kp C' W W':=h.iR hC
theorem xL {g:Operand} {ps:Array Go.Tmp} {assign body:Code} {Q:Exit->Act->World->Prop} {a:Act} (eZ:1<=N) (hN:N<=64) (hH:bT N H) (cK:ak N H O R) {cb:Nat}
  (hg:a.eval g=.func (.func 107) #[] #[.pointer (some ⟨cb,0,none⟩)]) (DS:ps.size=1) {C0:Nat->Prop} (fc:F cb) (h0:w.cell? ⟨cb,0,none⟩=some (.int .i64 ((N:Nat):Int))) (h1:w.cell? ⟨cb,1,none⟩=some ov) (h2:w.cell? ⟨cb,2,none⟩=some rv) (ho:Rg.aH F w ov (O.map Ma.ag)) (hr:bf F w rv (R.map (List.map Ma.ag))) (aE:∀ z,F z->z<w.heap.size) (hd:∀ z,F z->¬ C0 z)
  (I:Nat->(Nat->Prop)->World->Prop) (Ix:Code->World->Prop) (hI:∀ t C W W',I t C W->Below W.heap.size W W'->I t C W') (U1:∀ t C W W',I t C W->RF.iK W W'->I t C W') (Q9:∀ c W W',Ix c W->RF.iK W W'->Ix c W')
  (U2:∀ t C W,I t C W->∀ z,C z->z<W.heap.size/\z≠w.heap.size/\z≠w.heap.size+1) (mi:I 0 C0 w) (lV:Value->Act)
  (oy:∀ (n l:Nat) (x:Value) (W:World) (K:Act->World->Prop),K (lV x) W->assign.wpIn (Fence.wide.inRound l) n Tryz.prog (Exit.then K (fun _ _ _=>False)) { tmps:=(ps.zip #[x]).foldl (fun t (p,v)=>t.setIfInBounds p v) a.tmps,defers:=[] } W)
  (wZ:∀ (n l t:Nat) (C:Nat->Prop) (x:Value) (W:World),I t C W->t<(du N O R).length->Rg.FI (fun z=>¬ C z) W x (Ma.ag ((du N O R).getD t []))->w.heap.size+2<=W.heap.size->body.wpIn (Fence.wide.inRound l) n Tryz.prog (Q8 I Ix t C W) (lV x) W)
  (w_:∀ (C:Nat->Prop) (W:World),I (du N O R).length C W->RF.ef w.heap.size W->Rg.Kp C0 w W->Q .normal { a with defers:=RF.mark w.heap.size :: a.defers } W)
  (xd:∀ (c:Code) (W:World),Ix c W->RF.ef w.heap.size W->Rg.Kp C0 w W->c.wp Tryz.prog Q { a with defers:=RF.mark w.heap.size :: a.defers } W) :
  (Code.rangeFunc g ps assign body).wp Tryz.prog Q a w:=by
 refine RF.Jn hg U0 fun fn rec W1 fP Ia hL hD hb=>callsIn_wide.2 ?_
 have dR:w.heap.size+2=W1.heap.size:=by rw [Ia]; simp
 have yF:I 0 C0 W1:=hI _ _ _ _ mi hb;have mK:Rg.Kp (fun _=>False) w W1:=Rg.Kp.az hb
 refine (EC (l:=w.heap.size+1) eZ hN hH cK
  (J:=fun t C W=>∃ C1:Nat->Prop,I t C1 W/\(∀ z,C z↔C1 z∨z=w.heap.size+1)/\RF.At (w.heap.size+1) (rec .ready none) W/\RF.ef w.heap.size W/\w.heap.size+2<=W.heap.size/\Rg.Kp C0 w W/\(∀ z,C1 z->C0 z∨w.heap.size<=z))
  (Jx:=fun W=>∃ c,Ix c W/\RF.At (w.heap.size+1) (rec .done (some c)) W/\RF.ef w.heap.size W/\Rg.Kp C0 w W)
  ?_ ?_ ?_ (F:=F) (C:=fun z=>C0 z∨z=w.heap.size+1) fc ((oM mK (aE _ fc) id).trans h0) ((oM mK (aE _ fc) id).trans h1) ((oM mK (aE _ fc) id).trans h2) (ho.kp mK (fun _ _=>id)) (hr.kp mK (fun _ _=>id)) (fun z hz=>by have:=aE z hz; omega) (fun z hz hc=>by
   rcases hc with hc | hc
   ·exact hd z hz hc
   ·have:=aE z hz; omega) ⟨C0,yF,fun _=>Iff.rfl,hL,hD,by omega,xK mK (fun _ h=>False.elim h),fun z h=>.inl h⟩).mono ?_
 ·
  rintro m t C W uv ht ⟨C1,hi,zn,hl,hk,hs,uT,dK⟩ hu;refine RF.round fP hl (by rw [DS]; rfl) (oy m _ uv W _ ⟨hl,?_⟩);have dG:=hl.put (r':=rec .busy none);have Of:=hl.same (r':=rec .busy none);have cO:RF.ef w.heap.size (W.putObj (w.heap.size+1) (.loop (rec .busy none))):=hk.put hl _;have jQ:=U1 _ _ _ _ hi Of;have tN:=FI.same (hu.mono (F':=fun z=>¬ C1 z) (fun z hz hc=>hz ((zn z).2 (.inl hc)))) Of;refine wpIn_mono (wZ m _ t C1 uv _ jQ ht tN (by simpa using hs)) ?_;have hLn:¬ C1 (w.heap.size+1):=fun hc=>(U2 _ _ _ hi _ hc).2.2 rfl;have hDn:¬ C1 w.heap.size:=fun hc=>(U2 _ _ _ hi _ hc).2.1 rfl
  have fin:∀ (W3:World),Rg.Kp C1 (W.putObj (w.heap.size+1) (.loop (rec .busy none))) W3->RF.At (w.heap.size+1) (rec .busy none) W3/\RF.ef w.heap.size W3:=fun W3 iu =>
   ⟨(iu.block _ dG.size hLn).trans dG,(iu.block _ cO.size hDn).trans cO⟩
  have qy:∀ (W3:World),Rg.Kp C1 (W.putObj (w.heap.size+1) (.loop (rec .busy none))) W3->∀ o,Rg.Kp C0 w (W3.putObj (w.heap.size+1) o):=fun W3 iu o =>
   ((uT.trans (RF.pd _) (fun z hz hc=>by omega)).trans iu (fun z hz hc=>(dK z hc).resolve_right (by omega))).trans (RF.pd _) (fun z hz hc=>by omega)
  rintro e a3 W3 hp
  cases e with
  | normal =>
   obtain ⟨C',hi3,iu,Lr⟩:=hp;obtain ⟨jl,vp⟩:=fin W3 iu;refine ⟨jl,.inl ⟨rfl,fun z=>C' z∨z=w.heap.size+1,⟨C',U1 _ _ _ _ hi3 jl.same,fun _=>Iff.rfl,jl.put,vp.put jl _,by have:=iu.size; simp at this ⊢; omega,qy W3 iu _,fun z hz=>(Lr z hz).elim (fun h=>dK z h) (fun h=>.inr (by simp at h; omega))⟩,?_,fun z hz=>?_⟩⟩
   ·refine ((xK (RF.pd _) (fun z hz=>(zn z).2 (.inr hz))).trans (xK iu (fun z hz=>(zn z).2 (.inl hz))) (fun _ _ h=>h)).trans (xK (RF.pd _) (fun z hz=>(zn z).2 (.inr hz))) (fun _ _ h=>h)
   ·rcases hz with hz | hz
    ·rcases Lr z hz with h | h
     ·exact .inl ((zn z).2 (.inl h))
     ·exact .inr (by simpa using h)
    ·exact .inl ((zn z).2 (.inr hz))
  | ret =>
   obtain ⟨Og,iu⟩:=hp;obtain ⟨jl,vp⟩:=fin W3 iu;exact ⟨jl,.inr ⟨rfl,.ret,Q9 _ _ _ Og jl.same,jl.put,vp.put jl _,qy W3 iu _⟩⟩
  | exit id =>
   obtain ⟨Og,iu⟩:=hp;obtain ⟨jl,vp⟩:=fin W3 iu;exact ⟨jl,.inr ⟨rfl,.exit id,Q9 _ _ _ Og jl.same,jl.put,vp.put jl _,qy W3 iu _⟩⟩
  | goto id =>
   obtain ⟨Og,iu⟩:=hp;obtain ⟨jl,vp⟩:=fin W3 iu;exact ⟨jl,.inr ⟨rfl,.goto id,Q9 _ _ _ Og jl.same,jl.put,vp.put jl _,qy W3 iu _⟩⟩
  | panic ch=>exact hp.elim
  | outgrown=>exact hp.elim
 ·rintro t C W W' ⟨C1,hi,zn,hl,hk,hs,uT,dK⟩ Ib
  exact ⟨C1,hI _ _ _ _ hi Ib,zn,hl.mF Ib,hk.mF Ib,Nat.le_trans hs Ib.size,uT.trans (Rg.Kp.az Ib) (fun _ _ h=>False.elim h),dK⟩
 ·rintro t C W ⟨C1,hi,zn,hl,_,hs,_⟩ z hz
  rcases (zn z).1 hz with h | h
  ·exact (U2 _ _ _ hi z h).1
  ·omega
 ·rintro e W2 ⟨hv,(⟨C',⟨C1,hi,_,hl,hk,_⟩,bZ,_⟩ | ⟨c,hx,hl,hk,uT⟩)⟩
  ·refine ⟨hv,.inl ⟨hl,w_ C1 _ (U1 _ _ _ _ hi hl.same) (hk.put hl _) ?_⟩⟩
   have qy:Rg.Kp C0 w W2:=(xK mK (fun _ h=>h.elim)).trans bZ (fun z hz hc=>hc.resolve_right (by omega));exact qy.trans (RF.pd _) (fun z hz hc=>by omega)
  ·exact ⟨hv,.inr ⟨c,hl,xd c _ (Q9 _ _ _ hx hl.same) (hk.put hl _) (uT.trans (RF.pd _) (fun z hz hc=>by omega))⟩⟩

theorem U3 (args:Array Value) (w:World):(callFunc 137 args).run Tryz.prog w=.ok (.enter 137 args) w:=by kernel_rfl
theorem Ic (n:Int) (ov rv:Value) (w:World) :
  Calls Tryz.prog 79 #[.agg #[.int .i64 n,ov,rv]] w fun e w'=>e=.returned (.func (.func 107) #[] #[.pointer (some ⟨w.heap.size,0,none⟩)])/\(CL w' w.heap.size 0 (.int .i64 n)/\CL w' w.heap.size 1 ov/\CL w' w.heap.size 2 rv)/\Below w.heap.size w w':=by
 go_enter Tryz.func79,Tryz.ntmps79
 have aQ:=gR w (.int .i64 n) ov rv;go_upto_region 0 with (fail);refine d3 ?_;refine d4 1 (Rg.bq _ _ rfl rfl) ?_;go_frame;refine d6 2 (.nilFunc) ?_;go_frame;have hb:Below w.heap.size w (w.alloc (.cells #[.int .i64 n,ov,rv] 25)):=(Below.refl _ _).alloc (Nat.le_refl _) _;generalize w.alloc (.cells #[.int .i64 n,ov,rv] 25)=w1 at *;have H:=U aQ;have K:=U hb;clear aQ hb;go_wp2;go_ret;exact ⟨rfl,H.p,K.p⟩
theorem BK (hg:∀ s∈gs,Gd N s) (bQ:1<=N) (cC:N<=12) (cK:ak N (Cm.Gr N (·∈gs)) O R) (h:bg w ov rv (O.map Ma.ag) (R.map (List.map Ma.ag))) :
  Calls Tryz.prog 106 #[.agg #[.int .i64 ((N:Nat):Int),ov,rv]] w fun e w'=>e=.returned (.int .i64 (if bR O N N<=5040 then 0 else 5))/\Below w.heap.size w w':=by
 have CE:=U h;have K:=U (Below.refl w.heap.size w);obtain ⟨oa,oc,rfl,-⟩:=h.1.shape;obtain ⟨ra,rc,rfl⟩:=h.2.shape;obtain ⟨on,jT⟩:∃ n,Hid ((O.map Ma.ag).length=n):=⟨_,U rfl⟩;obtain ⟨rn,ks⟩:∃ n,Hid ((R.map (List.map Ma.ag)).length=n):=⟨_,U rfl⟩;rw [jT.p,ks.p] at CE;rw [jT.p,ks.p];obtain ⟨sz,dR⟩:∃ n,Hid (bR O N N=n):=⟨_,U rfl⟩;rw [dR.p];have HB:=U (show sz<=8916100448256 by rw [<- dR.p]; exact Lj cC (Gr.dC hg) cK (Nat.le_refl _));have hsb:sz<=8916100448256:=HB.p;clear h
 go_enter Tryz.func106,Tryz.ntmps106
 go_upto_region 0 with (fail);refine d3 ?_;have aQ:=gR w (.int .i64 ((N:Nat):Int)) (.slice oa on oc) (.slice ra rn rc);refine d4 1 (Rg.bq _ _ rfl rfl) ?_;go_frame;have hb:=(Below.refl w.heap.size w).alloc (Nat.le_refl _) (.cells #[.int .i64 ((N:Nat):Int),.slice oa on oc,.slice ra rn rc] 25);generalize w.alloc (.cells #[.int .i64 ((N:Nat):Int),.slice oa on oc,.slice ra rn rc] 25)=w1 at *;replace CE:=U (CE.p.jj hb);replace K:=U (Rg.acc K.p hb);clear hb;have A0:=U aQ.1;have A1:=U aQ.2.1;have A2:=U aQ.2.2;clear aQ;refine d6 2 (.int .i64 ((0:Nat):Int)) ?_;go_frame;go_upto_region 1 with (fail);refine d3 ?_;refine d4 6 (g8 ((.agg #[.int .i64 ((N:Nat):Int),.slice oa on oc,.slice ra rn rc])) ⟨w.heap.size,0,none⟩ (aM A0.p.cell A1.p.cell A2.p.cell)) ?_;go_frame;refine f7 7 (aF 137 _ _ rfl rfl (U3 _ _)) ?_
 refine (Ew hg bQ cC cK CE.p).mono ?_;rintro e1 w2 ⟨rfl,hb⟩;refine ⟨_,rfl,?_⟩;go_frame;replace CE:=U (CE.p.jj hb);replace A0:=U (A0.p.jj hb);replace A1:=U (A1.p.jj hb);replace A2:=U (A2.p.jj hb);replace K:=U (Rg.acc K.p hb);clear hb;refine d5 5 (.tuple #[.int .i64 ((bR O N N:Nat):Int),.int .i64 0]) ?_;go_frame;refine d4 8 (i6 (.int .i64 ((bR O N N:Nat):Int))) ?_;go_frame;refine d4 9 (i6 (.int .i64 0)) ?_;go_frame;refine d6 3 (.int .i64 ((bR O N N:Nat):Int)) ?_;go_frame;refine d6 4 (.int .i64 0) ?_;go_frame;rw [dR.p]
 by_cases h5:sz<=5040
 case pos =>
  skip
  go_upto_region 2 with (fail);refine d3 ?_;refine d5 10 (.int .i64 0) ?_;go_frame;refine d4 11 (g9 (.bool false) .neq (h:=aU _ f9)) ?_;go_frame;refine d5 12 (.bool false) ?_;go_frame;refine d9 13 (a7 (.int .i64 ((sz:Nat):Int)) _ rfl rfl) ?_;go_frame;refine d9 14 (g9 (.bool false) .gtr (h:=dV _ f9)) ?_;go_frame;refine d4 15 (i4 (.bool false)) ?_;go_frame;go_upto_region 4 with (fail);refine d3 ?_;refine d6 2 (.int .i64 ((0:Nat):Int)) ?_;go_frame;go_wp2;go_ret;exact ⟨rfl,K.p⟩
 case neg =>
  skip
  go_upto_region 2 with (fail);refine d3 ?_;refine d5 10 (.int .i64 0) ?_;go_frame;refine d4 11 (g9 (.bool false) .neq (h:=aU _ f9)) ?_;go_frame;refine d5 12 (.bool false) ?_;go_frame;refine d9 13 (a7 (.int .i64 ((sz:Nat):Int)) _ rfl rfl) ?_;go_frame;refine d9 14 (g9 (.bool true) .gtr (h:=dV _ f8)) ?_;go_frame;refine d4 15 (i4 (.bool true)) ?_;go_frame;go_upto_region 3 with (fail);refine d3 ?_;refine d6 2 (.int .i64 ((5:Nat):Int)) ?_;go_frame;go_wp2;go_ret;exact ⟨rfl,K.p⟩

theorem U4 (args:Array Value) (w:World):(callFunc 142 args).run Tryz.prog w=.ok (.enter 142 args) w:=by kernel_rfl
theorem U5 (args:Array Value) (w:World):(callFunc 203 args).run Tryz.prog w=.ok (.enter 203 args) w:=by kernel_rfl
theorem Oh (args:Array Value) (w:World):(callFunc 143 args).run Tryz.prog w=.ok (.enter 143 args) w:=by kernel_rfl
def eG (x g:List Nat):List Nat:=Ma.aj (Ma.aj (Ma.aS g) x) g
theorem rQ (eZ:1<=N) (hN:N<=64) (v1 v2:Value) (x g:List Nat) (w:World) (h:Rg.NP w v1 x) (h':Rg.NP w v2 g) (gx:Gd N x) (gg:Gd N g) :
  Calls Tryz.prog 202 #[v1,v2] w fun e w'=>∃ v,e=.returned (.tuple #[v,.int .i64 0])/\Rg.px w w' v (eG x g)/\Below w.heap.size w w':=by
 have NX:=U (dw.mk h);have NG:=U (dw.mk h');have hz:=U (zO gx.1 gg.1 (by rw [gx.2]; exact eZ) (by rw [gx.2]; exact hN) (gx.2.trans gg.2.symm));obtain ⟨xa,xc,rfl,_⟩:=h.shape;obtain ⟨ga,gc,rfl,_⟩:=h'.shape;have U6:=U gx;have xM:=U gg;have gY:=Rg.Rows.two 27 h h';have YP:=U gY;have K:=U (Below.refl w.heap.size w);clear h h' gx gg gY
 go_enter Tryz.func202,Tryz.ntmps202
 go_upto_region 0 with (fail);refine d3 ?_;refine d6 4 (.slice none 0 0) ?_;go_frame;refine d6 5 (.int .i64 ((0:Nat):Int)) ?_;go_frame;go_upto_region 1 with (fail);refine d3 ?_;refine d5 7 (.slice xa x.length xc) ?_;go_frame;refine d5 8 (.slice ga g.length gc) ?_;go_frame;refine d4 9 (qR (u1:=.slice xa x.length xc) (u2:=.slice ga g.length gc) _ _ rfl rfl rfl (qQ w _ _ ⟨_,_,_,rfl⟩ ⟨_,_,_,rfl⟩)) ?_;go_frame;have hb:=(Below.refl w.heap.size w).alloc (Nat.le_refl _) (.cells #[.slice xa x.length xc,.slice ga g.length gc] 27);generalize w.alloc (.cells #[.slice xa x.length xc,.slice ga g.length gc] 27)=w1 at *;replace NX:=U (NX.p.jj hb);replace NG:=U (NG.p.jj hb);replace K:=U (Rg.acc K.p hb);clear hb;refine f7 10 (aF 142 _ _ rfl rfl (U4 _ _)) ?_;refine (zL YP.p (Nat.le_succ 1) hz (Below.refl w1.heap.size w1)).mono ?_
 rintro e1 w2 ⟨rfl,hb⟩;refine ⟨_,rfl,?_⟩;go_frame;replace NX:=U (NX.p.jj hb);replace NG:=U (NG.p.jj hb);replace K:=U (Rg.acc K.p hb);clear hb;refine d6 6 (.int .i64 0) ?_;go_frame;clear YP hz;go_upto_region 2 with (fail);refine d3 ?_;refine d5 11 (.int .i64 0) ?_;go_frame;refine d4 12 (g9 (.bool false) .neq (h:=aU _ (decide_eq_false (by decide)))) ?_;go_frame;go_upto_region 4 with (fail);refine d3 ?_;refine d5 14 (.slice ga g.length gc) ?_;go_frame;refine f7 15 (aF 203 _ _ rfl rfl (U5 _ _)) ?_;refine (AH _ g w2 NG.p.i xM.p.1 (by rw [xM.p.2]; omega) (by rw [xM.p.2]; exact eZ)).mono ?_;rintro e1 w3 ⟨iv,rfl,nA,hb⟩;refine ⟨_,rfl,?_⟩;go_frame;replace NX:=U (NX.p.jj hb);replace NG:=U (NG.p.jj hb);replace K:=U (Rg.acc K.p hb);clear hb;have zp:=U (dw.mk nA.1);refine d5 16 (.slice xa x.length xc) ?_;go_frame
 refine f7 17 (aw 143 _ _ _ rfl rfl rfl (Oh _ _)) ?_;refine (my _ _ (Ma.aS g) x w3 zp.p.i NX.p.i (fun z hz=>by rw [U6.p.2]; exact o_ (Cm.aN xM.p) hz) (by rw [Ma.cM,xM.p.2]; omega) (by rw [Ma.cM,xM.p.2]; exact eZ) (by rw [U6.p.2]; exact eZ)).mono ?_;rintro e1 w4 ⟨mv,rfl,kM,hb⟩;refine ⟨_,rfl,?_⟩;go_frame;replace NX:=U (NX.p.jj hb);replace NG:=U (NG.p.jj hb);replace zp:=U (zp.p.jj hb);replace K:=U (Rg.acc K.p hb);clear hb;have ED:=U (dw.mk kM.1);refine d5 18 (.slice ga g.length gc) ?_;go_frame;refine f7 19 (aw 143 _ _ _ rfl rfl rfl (Oh _ _)) ?_;refine (my _ _ (Ma.aj (Ma.aS g) x) g w4 ED.p.i NG.p.i (fun z hz=>by rw [xM.p.2]; exact o_ (Cm.aV (Cm.aN xM.p) U6.p) hz) (by rw [Ma.cu,Ma.cM,xM.p.2]; omega) (by rw [Ma.cu,Ma.cM,xM.p.2]; exact eZ) (by rw [xM.p.2]; exact eZ)).mono ?_
 rintro e1 w5 ⟨cv,rfl,hcv,hb⟩;have HFC:=U (hcv.2.mono K.p.size);refine ⟨_,rfl,?_⟩;go_frame;replace NX:=U (NX.p.jj hb);replace NG:=U (NG.p.jj hb);replace zp:=U (zp.p.jj hb);replace ED:=U (ED.p.jj hb);replace K:=U (Rg.acc K.p hb);clear hb;have NC9:=U (dw.mk hcv.1);refine d6 4 (cv) ?_;go_frame;refine d6 5 (.int .i64 ((0:Nat):Int)) ?_;go_frame;clear nA kM hcv;go_wp2
 go_ret2
 exact ⟨_,rfl,⟨NC9.p.i,HFC.p⟩,K.p⟩
theorem rR (hN:N<=64) (lv gv:Value) (s g:List Nat) (w:World) (h:Rg.Ints w lv (Ma.ag s)) (hs:∀ y∈s,y<N) (hl:s.length<=100000) (h':Rg.NP w gv g) (gg:Gd N g) :
  Calls Tryz.prog 205 #[lv,gv] w fun e w'=>∃ v,e=.returned v/\gG w.heap.size w' v (Ma.ag (s.map (ap g)))/\Below w.heap.size w w':=by
 obtain ⟨n,la,lc,hn,rfl,-⟩:=h.len;rw [Ma.ar] at hn;subst hn;obtain ⟨n,ga,gc,hn,rfl,-⟩:=Rg.Ints.len h';rw [Ma.ar,gg.2] at hn;subst hn;have NS:=U (dw.mk h);have NG:=U (dw.mk h');have HS:=U hs;have GG:=U gg;have K:=U (Below.refl w.heap.size w);clear h h' hs gg
 go_enter Tryz.func205,Tryz.ntmps205
 go_upto_region 0 with (fail);refine d3 ?_;refine d6 4 (.slice none 0 0) ?_;go_frame;go_upto_region 1 with (fail);refine d3 ?_;refine d6 5 (.slice none 0 0) ?_;go_frame;go_upto_region 2 with (fail);refine d3 ?_;refine d5 8 (.slice la s.length lc) ?_;go_frame;refine d4 9 (i3 Tryz.underlying26) ?_;go_frame;refine d5 10 (.int .i64 ((0:Nat):Int)) ?_;go_frame;have RO:=U (gG.nil w.heap.size w);go_wp2
 go_loopw [5,10] (fun ov iv wr=>∃ k:Nat,iv=.int .i64 ((k:Nat):Int)/\k<=s.length/\Hid (gG w.heap.size wr ov (Ma.ag ((s.take k).map (ap g))))/\Hid (Below w.heap.size w wr)) (fun _ iv _=>s.length - (intOf iv).toNat)
 case atStart=>exact ⟨0,rfl,Nat.zero_le _,RO,K⟩
 case round =>
  clear RO;obtain ⟨k,rfl,hk,RO,KR⟩:=hrel;generalize wr=wA at *;replace NS:=U (NS.p.jj KR.p);replace NG:=U (NG.p.jj KR.p);obtain ⟨oa,oc,dO⟩:=RO.p.shape;rw [Ma.ar,List.length_map,List.length_take,Nat.min_eq_left hk] at dO;subst dO
  by_cases aE:k<s.length
  case neg =>
   obtain rfl:k=s.length:=by omega
   go_upto_region 3 with (fail);refine d3 ?_;refine d4 11 (g9 (.bool false) .lss (h:=aP _ f9)) ?_;go_frame;go_upto_region 7 with (fail);refine d3 ?_;refine d5 22 (.slice oa s.length oc) ?_;go_frame;refine d6 4 (.slice oa s.length oc) ?_;go_frame;have HX:=U (show gG w.heap.size wA (.slice oa s.length oc) (Ma.ag (s.map (ap g))) by have:=RO.p; rwa [List.take_length] at this);clear RO NS NG;go_wp2;go_ret;exact ⟨_,rfl,HX.p,KR.p⟩
  case pos =>
   have mK:k<100000:=by omega
   obtain ⟨lb,lo,_,e1,Nq⟩:=NS.p.at (M:=s) rfl (by omega);simp only [Value.slice.injEq,true_and] at e1;obtain ⟨rfl,rfl⟩:=e1;obtain ⟨gb,Q_,_,e1,Dq⟩:=NG.p.at (M:=g) GG.p.2 (by have:=HS.p _ (List.getElem_mem aE); omega);simp only [Value.slice.injEq,true_and] at e1;obtain ⟨rfl,rfl⟩:=e1;obtain ⟨x,hx⟩:∃ x,Hid (s[k]=x):=⟨_,U rfl⟩;have KN:=U (show x<N from hx.p▸HS.p _ (List.getElem_mem aE))
   have CS:=U (show CL wA lb (lo+k) (.int .i64 ((x:Nat):Int)) by
    have:=Nq k aE
    rwa [List.getD_eq_getElem?_getD,List.getElem?_eq_getElem aE,Option.getD_some,hx.p] at this)
   obtain ⟨y,hy⟩:∃ y,Hid (ap g x=y):=⟨_,U rfl⟩;have CG:=U (show CL wA gb (Q_+x) (.int .i64 ((y:Nat):Int)) from hy.p▸Dq x KN.p);clear Nq Dq;go_upto_region 3 with (fail);refine d3 ?_;refine d4 11 (g9 (.bool true) .lss (h:=aP _ f8)) ?_;go_frame;go_upto_region 4 with (fail);refine d3 ?_;refine d4 12 (aB bK _ _ rfl lb (lo) (s.length) lc (k) rfl rfl (by omega)) ?_;go_frame;refine d4 13 (g8 (.int .i64 ((x:Nat):Int)) ⟨lb,lo+k,none⟩ (ah CS.p.cell)) ?_;go_frame;refine d6 7 (.int .i64 ((x:Nat):Int)) ?_;go_frame;have Ie:=U (show (Ma.ag ((s.take k).map (ap g))).length=k by rw [Ma.ar,List.length_map,List.length_take,Nat.min_eq_left hk]);go_upto_region 5 with (fail);refine d3 ?_;refine d5 14 (.slice oa k oc) ?_;go_frame;refine d5 15 (.slice (some ⟨gb,Q_,none⟩) N gc) ?_;go_frame;refine d5 16 (.int .i64 ((x:Nat):Int)) ?_;go_frame
   refine d4 17 (aB cj _ _ rfl gb (Q_) (N) gc (x) rfl rfl KN.p) ?_;go_frame;refine d4 18 (g8 (.int .i64 ((y:Nat):Int)) ⟨gb,Q_+x,none⟩ (ah CG.p.cell)) ?_;go_frame;refine d4 19 (Rg.aC _ _ _ rfl (.int .i64 ((y:Nat):Int)) rfl (rK wA _)) ?_;go_frame;obtain ⟨a9,c9,X9,r1,r2,r3⟩:=RO.p.push KR.p.size ((y:Nat):Int) (by rw [Ie.p]; omega) 26;rw [Ie.p] at r1 r2;refine d4 20 (Rg.bu _ _ _ rfl rfl rfl r1) ?_;go_frame;refine d6 5 (.slice a9 (k+1) c9) ?_;go_frame
   have MT:=U (show gG w.heap.size X9 (.slice a9 (k+1) c9) (Ma.ag ((s.take (k+1)).map (ap g))) by
    rw [List.take_succ_eq_append_getElem aE,hx.p,List.map_append,List.map_singleton,hy.p];unfold Ma.ag;rw [List.map_append]
    exact r2)
   have KX:=U (r3 (Nat.le_refl _) KR.p);clear r1 r2 r3 RO KR NS NG CS CG Ie;go_wp2
   go_roundw
   case rel=>exact ⟨k+1,by go_num,aE,MT,KX⟩
   case measure=>simp [intOf]; omega

theorem Oi (args:Array Value) (w:World):(callFunc 202 args).run Tryz.prog w=.ok (.enter 202 args) w:=by kernel_rfl
theorem Ig (args:Array Value) (w:World):(callFunc 205 args).run Tryz.prog w=.ok (.enter 205 args) w:=by kernel_rfl
theorem YQ (b:Nat) (w:World):(Instr.fieldAt 76 (.pointer (some ⟨b,0,none⟩)) 0).run Tryz.prog w=.ok (.pointer (some ⟨b,0,none⟩)) w:=by kernel_rfl
theorem YR (b:Nat) (w:World):(Instr.fieldAt 76 (.pointer (some ⟨b,0,none⟩)) 1).run Tryz.prog w=.ok (.pointer (some ⟨b,1,none⟩)) w:=by kernel_rfl
theorem SY (b:Nat) (w:World):(Instr.fieldAt 83 (.pointer (some ⟨b,0,none⟩)) 0).run Tryz.prog w=.ok (.pointer (some ⟨b,0,none⟩)) w:=by kernel_rfl
theorem S0 (b:Nat) (w:World):(Instr.fieldAt 83 (.pointer (some ⟨b,0,none⟩)) 1).run Tryz.prog w=.ok (.pointer (some ⟨b,1,none⟩)) w:=by kernel_rfl
theorem YS (b:Nat) (w:World):(Instr.fieldAt 86 (.pointer (some ⟨b,0,none⟩)) 0).run Tryz.prog w=.ok (.pointer (some ⟨b,0,none⟩)) w:=by kernel_rfl
theorem YT (b:Nat) (w:World):(Instr.fieldAt 86 (.pointer (some ⟨b,0,none⟩)) 1).run Tryz.prog w=.ok (.pointer (some ⟨b,1,none⟩)) w:=by kernel_rfl
theorem YU (b:Nat) (w:World):(Instr.fieldAt 99 (.pointer (some ⟨b,0,none⟩)) 0).run Tryz.prog w=.ok (.pointer (some ⟨b,0,none⟩)) w:=by kernel_rfl
theorem YW (b:Nat) (w:World):(Instr.fieldAt 99 (.pointer (some ⟨b,0,none⟩)) 1).run Tryz.prog w=.ok (.pointer (some ⟨b,1,none⟩)) w:=by kernel_rfl
structure ThU (N:Nat) (tv:Value) (Pb:List Nat->Bool) (Fk:Nat->Prop) (A:World->Prop):Prop where
 m : ∃ F recv, (∀ gv W, (callMethod tv "cayley/search.maps" #[gv]).run Tryz.prog W = .ok (.enter F #[recv, gv]) W) /\
  ∀ W gv g,A W->Rg.NP W gv g->Gd N g->Calls Tryz.prog F #[recv,gv] W fun e W'=>e=.returned (.bool (Pb g))/\Below W.heap.size W W'
 same:∀ W W',A W->RF.iK W W'->A W'
 kp:∀ C W W',A W->Rg.Kp C W W'->(∀ z,Fk z->¬ C z)->A W'
theorem Ih (w:World) (x y:Value) (t:TypeId):CL (w.alloc (.cells #[x,y] t)) w.heap.size 0 x/\CL (w.alloc (.cells #[x,y] t)) w.heap.size 1 y :=
 ⟨CL.mk (by rw [Rg.aI]; rfl) (by simp),CL.mk (by rw [Rg.aI]; rfl) (by simp)⟩
theorem EE (eZ:1<=N) (hN:N<=64) (xv yv gv:Value) (x y g:List Nat) (w:World) (hx:Rg.NP w xv x) (hy:Rg.NP w yv y) (hg:Rg.NP w gv g) (gx:Gd N x) (gg:Gd N g) :
  Calls Tryz.prog 201 #[.agg #[xv,yv],gv] w fun e w'=>e=.returned (.bool (decide (eG x g=y)))/\Below w.heap.size w w':=by
 obtain ⟨n,xa,xc,hn,rfl,-⟩:=Rg.Ints.len hx;rw [Ma.ar,gx.2] at hn;subst hn;obtain ⟨n,ya,yc,hn,rfl,-⟩:=Rg.Ints.len hy;rw [Ma.ar] at hn;subst hn;obtain ⟨n,ga,gc,hn,rfl,-⟩:=Rg.Ints.len hg;rw [Ma.ar,gg.2] at hn;subst hn;have NX:=U (dw.mk hx);have NY:=U (dw.mk hy);have NG:=U (dw.mk hg);have GX:=U gx;have GG:=U gg;have K:=U (Below.refl w.heap.size w);clear hx hy hg gx gg
 go_enter Tryz.func201,Tryz.ntmps201
 go_upto_region 0 with (fail);refine d3 ?_;have aQ:=Ih w (.slice xa N xc) (.slice ya y.length yc) 76;refine d4 2 (Rg.bq _ _ rfl rfl) ?_;go_frame;have hb:=(Below.refl w.heap.size w).alloc (Nat.le_refl _) (.cells #[.slice xa N xc,.slice ya y.length yc] 76);generalize w.alloc (.cells #[.slice xa N xc,.slice ya y.length yc] 76)=w1 at *;replace NX:=U (NX.p.jj hb);replace NY:=U (NY.p.jj hb);replace NG:=U (NG.p.jj hb);replace K:=U (Rg.acc K.p hb);clear hb;have B0:=U aQ.1;have B1:=U aQ.2;clear aQ;refine d6 4 (.bool false) ?_;go_frame;go_upto_region 1 with (fail);refine d3 ?_;refine d4 8 (af _ rfl rfl (YQ _ _)) ?_;go_frame;refine d4 9 (g8 (.slice xa N xc) ⟨w.heap.size,0,none⟩ (Rg.ae _ _ Tryz.underlying27 B0.p.cell)) ?_;go_frame;refine d5 10 (.slice ga N gc) ?_;go_frame;refine f7 11 (aw 202 _ _ _ rfl rfl rfl (Oi _ _)) ?_
 refine (rQ eZ hN _ _ x g w1 NX.p.i NG.p.i GX.p GG.p).mono ?_;rintro e1 w2 ⟨cv,rfl,hcv,hb⟩;refine ⟨_,rfl,?_⟩;go_frame;replace NX:=U (NX.p.jj hb);replace NY:=U (NY.p.jj hb);replace NG:=U (NG.p.jj hb);replace B0:=U (B0.p.jj hb);replace B1:=U (B1.p.jj hb);replace K:=U (Rg.acc K.p hb);clear hb;have NC:=U (dw.mk hcv.1);refine d5 7 (.tuple #[cv,.int .i64 0]) ?_;go_frame;refine d4 12 (i6 (cv)) ?_;go_frame;refine d4 13 (i6 (.int .i64 0)) ?_;go_frame;refine d6 5 (cv) ?_;go_frame;refine d6 6 (.int .i64 0) ?_;go_frame;clear hcv;go_upto_region 2 with (fail);refine d3 ?_;refine d5 14 (cv) ?_;go_frame;refine d4 15 (af _ rfl rfl (YR _ _)) ?_;go_frame;refine d4 16 (g8 (.slice ya y.length yc) ⟨w.heap.size,1,none⟩ (Rg.ae _ _ Tryz.underlying27 B1.p.cell)) ?_;go_frame;refine f7 17 (aw 131 _ _ _ rfl rfl rfl (M0 _ _)) ?_
 refine (rf _ _ (Ma.ag (eG x g)) (Ma.ag y) w2 NC.p.i NY.p.i).mono ?_;rintro e1 w3 ⟨rfl,hb⟩;refine ⟨_,rfl,?_⟩;go_frame;replace NX:=U (NX.p.jj hb);replace NY:=U (NY.p.jj hb);replace NG:=U (NG.p.jj hb);replace B0:=U (B0.p.jj hb);replace B1:=U (B1.p.jj hb);replace NC:=U (NC.p.jj hb);replace K:=U (Rg.acc K.p hb);clear hb;refine d4 4 (Rg.cw (v:=(.bool (decide (Ma.ag (eG x g)=Ma.ag y)))) _ rfl rfl) ?_;go_frame
 have HE:=U (show decide (Ma.ag (eG x g)=Ma.ag y)=decide (eG x g=y) by
  by_cases e:eG x g=y
  ·rw [e]; simp
  ·rw [decide_eq_false e,decide_eq_false (fun e2=>e (Ma.fl e2))])
 rw [HE.p];clear HE;go_wp2;go_ret;exact ⟨rfl,K.p⟩
theorem EF (hN:N<=64) (sv tv gv:Value) (s t g:List Nat) (w:World) (hs:Rg.NP w sv s) (ht:Rg.NP w tv t) (hg:Rg.NP w gv g) (jt:∀ y∈s,y<N) (hl:s.length<=100000) (gg:Gd N g) :
  Calls Tryz.prog 206 #[.agg #[sv,tv],gv] w fun e w'=>e=.returned (.bool (decide (s.map (ap g)=t)))/\Below w.heap.size w w':=by
 obtain ⟨n,xa,xc,hn,rfl,-⟩:=Rg.Ints.len hs;obtain ⟨n2,ya,yc,cC,rfl,-⟩:=Rg.Ints.len ht;obtain ⟨n3,ga,gc,EG,rfl,-⟩:=Rg.Ints.len hg;have NX:=U (dw.mk hs);have NY:=U (dw.mk ht);have NG:=U (dw.mk hg);have HL:=U hl;have GG:=U gg;have K:=U (Below.refl w.heap.size w);clear hs ht hg gg hn cC EG hl
 go_enter Tryz.func206,Tryz.ntmps206
 go_upto_region 0 with (fail);refine d3 ?_;have aQ:=Ih w (.slice xa n xc) (.slice ya n2 yc) 86;refine d4 2 (Rg.bq _ _ rfl rfl) ?_;go_frame;have hb:=(Below.refl w.heap.size w).alloc (Nat.le_refl _) (.cells #[.slice xa n xc,.slice ya n2 yc] 86);generalize w.alloc (.cells #[.slice xa n xc,.slice ya n2 yc] 86)=w1 at *;replace NX:=U (NX.p.jj hb);replace NY:=U (NY.p.jj hb);replace NG:=U (NG.p.jj hb);replace K:=U (Rg.acc K.p hb);clear hb;have B0:=U aQ.1;have B1:=U aQ.2;clear aQ;refine d6 4 (.bool false) ?_;go_frame;go_upto_region 1 with (fail);have aq:Below w1.heap.size w1 w1.drew:=(Below.refl _ _).drew;replace NX:=U (NX.p.jj aq);replace NY:=U (NY.p.jj aq);replace NG:=U (NG.p.jj aq);replace B0:=U (B0.p.jj aq);replace B1:=U (B1.p.jj aq);replace K:=U (Rg.acc K.p aq);clear aq;refine Rg.Any.begin (S:=Rg.aG 7 (fun _=>True) (fun W=>Below w1.drew.heap.size w1.drew W)) mix ?_
 generalize w1.drew=w2 at *;have hS:∀ (l:Array Bool) W,Below w2.heap.size w2 W->Rg.aG 7 (fun _=>True) (fun W=>Below w2.heap.size w2 W) l W:=fun l W h=>⟨.inr trivial,h⟩;have hI:Below w2.heap.size w2 w2:=Below.refl _ _;refine d7 0 7 (.pointer (some ⟨w.heap.size,0,none⟩)) 5 rfl rfl (.inl ⟨rfl,fun w _=>af _ rfl rfl (YS _ _)⟩) (hS _ _ hI) ?_;go_frame;refine d7 1 7 (.slice xa n xc) 6 rfl rfl (i9 ⟨w.heap.size,0,none⟩ (fun W hW=>Rg.ae _ _ Tryz.underlying26 ((Below.cell (p:=⟨w.heap.size,0,none⟩) hW B0.p.lt).trans B0.p.cell))) (hS _ _ hI) ?_;go_frame;refine d8 2 7 (.slice ga n3 gc) 7 (hS _ _ hI) ?_;go_frame;refine d7 4 7 (.pointer (some ⟨w.heap.size,1,none⟩)) 9 rfl rfl (.inl ⟨rfl,fun w _=>af _ rfl rfl (YT _ _)⟩) (hS _ _ hI) ?_;go_frame;refine d7 5 7 (.slice ya n2 yc) 10 rfl rfl (i9 ⟨w.heap.size,1,none⟩ (fun W hW=>Rg.ae _ _ Tryz.underlying26 ((Below.cell (p:=⟨w.heap.size,1,none⟩) hW B1.p.lt).trans B1.p.cell))) (hS _ _ hI) ?_;go_frame
 refine Rg.Any.one (i:=3) (by kernel_rfl) (Rg.Any.ask (some 8) rfl rfl rfl _ _ (aw 205 _ _ _ rfl rfl rfl (Ig _ _)) ?_);refine (rR hN _ _ s g w2 NX.p.i jt HL.p NG.p.i GG.p).mono ?_;rintro e1 w3 ⟨iv,rfl,nA,hb⟩;have bF:=nA.fi (by rw [Ma.ar,List.length_map]; have:=HL.p; omega) (G:=fun _=>True) (fun _ _ _=>trivial);have aJ:=Rg.acc hI hb;clear hb hI;refine ⟨_,rfl,(hS _ _ aJ),?_⟩;go_frame;have NM:=U (dw.mk bF.ints);refine Rg.Any.one (i:=6) (by kernel_rfl) (Rg.Any.ask (some 11) rfl rfl rfl _ _ (aw 126 _ _ _ rfl rfl rfl (Bd _ _)) ?_);refine (kX _ _ (Ma.ag (s.map (ap g))) (Ma.ag t) w3 NM.p.i (NY.p.jj aJ).i).mono ?_;rintro e1 w4 ⟨rfl,hb⟩;have a_:=Rg.acc aJ hb;have bL:=hb;clear hb aJ;refine ⟨_,rfl,(hS _ _ a_),?_⟩;go_frame;refine Rg.Any.one (i:=7) (by kernel_rfl) (Rg.Any.run (some 4) rfl rfl rfl (Rg.cw (v:=(.bool (decide (Ma.ag (s.map (ap g))=Ma.ag t)))) _ rfl rfl) (hS _ _ a_) ?_)
 go_frame;refine Rg.Any.done (by kernel_rfl) ?_ _;replace NX:=U (NX.p.jj a_);replace NY:=U (NY.p.jj a_);replace NG:=U (NG.p.jj a_);replace B0:=U (B0.p.jj a_);replace B1:=U (B1.p.jj a_);replace NM:=U (NM.p.jj bL);replace K:=U (Rg.acc K.p a_);clear hS a_ bL
 have HE:=U (show decide (Ma.ag (s.map (ap g))=Ma.ag t)=decide (s.map (ap g)=t) by
  by_cases e:s.map (ap g)=t
  ·rw [e]; simp
  ·rw [decide_eq_false e,decide_eq_false (fun e2=>e (Ma.fl e2))])
 rw [HE.p];clear HE;go_wp2;go_ret;exact ⟨rfl,K.p⟩
end
section
attribute [local irreducible] Go.Calls
theorem Ls (a:Option Addr) (c:Nat) (w:World):Calls Tryz.prog 167 #[.slice a 0 c,.int .i64 0,.int .i64 0] w fun e w'=>e=.returned (.tuple #[])/\w'=w:=by
 go_enter Tryz.func167,Tryz.ntmps167
 go_wp2
 go_loopw [6] (fun iv wr=>iv=.int .i64 1/\wr=w) (fun _ _=>0)
 case atStart=>exact ⟨rfl,rfl⟩
 case round =>
  obtain ⟨rfl,rfl⟩:=hrel;go_wp2
  go_end0
  exact ⟨rfl,rfl⟩
theorem Lt (a:Option Addr) (c:Nat) (k:Int) (w:World):Calls Tryz.prog 150 #[.slice a 0 c,.int .i64 0,.int .i64 0,.int .i64 k] w fun e w'=>e=.returned (.tuple #[])/\w'=w:=by
 go_enter Tryz.func150,Tryz.ntmps150
 go_wp2
 go_loopw [1,2] (fun x y wr=>x=.int .i64 0/\y=.int .i64 0/\wr=w) (fun _ _ _=>0)
 case atStart=>exact ⟨rfl,rfl,rfl⟩
 case round =>
  obtain ⟨rfl,rfl,rfl⟩:=hrel
  go_wp2_with (go_at_call 167; refine (Ls a c _).mono ?_; rintro e w' ⟨rfl,rfl⟩)
  refine bodyPost_ret (results_none rfl _ _ _) rfl ?_;exact ⟨rfl,rfl⟩
theorem EH (w:World):Calls Tryz.prog 161 #[.int .u64 0] w fun e w'=>(∃ k,e=.returned (.int .i64 k))/\w'=w:=by
 go_enter Tryz.func161,Tryz.ntmps161
 go_wp2;go_ret;exact ⟨⟨_,rfl⟩,rfl⟩
theorem Lu (w:World):Calls Tryz.prog 139 #[.int .u64 0] w fun e w'=>(∃ k,e=.returned (.int .i64 k))/\w'=w:=by
 go_enter Tryz.func139,Tryz.ntmps139
 go_wp2_with (go_at_call 161; refine (EH _).mono ?_; rintro e w' ⟨⟨k,rfl⟩,rfl⟩)
 go_ret;exact ⟨⟨_,rfl⟩,rfl⟩
theorem Ii (w:World):Calls Tryz.prog 123 #[.slice none 0 0] w fun e w'=>e=.returned (.tuple #[])/\w'=w:=by
 go_enter Tryz.func123,Tryz.ntmps123
 go_wp2_with (first | (go_at_call 139; refine (Lu _).mono ?_; rintro e w' ⟨⟨k,rfl⟩,rfl⟩) | (go_at_call 150; refine (Lt none 0 _ _).mono ?_; rintro e w' ⟨rfl,rfl⟩))
 go_end0
 exact ⟨rfl,rfl⟩
theorem U7:∀ (args:Array Value) (w:World),(callFunc 124 args).run Tryz.prog w=.ok (.enter 124 args) w:=fun _ _=>by kernel_rfl
theorem Ij (l fb:Nat) (w:World) (h:w.cell? ⟨fb,0,none⟩=some (.slice none 0 0)) :
  Calls Tryz.prog 124 #[.func (.yield l) #[] #[],.pointer (some ⟨fb,0,none⟩)] w fun e w'=>(∃ v,e=.returned v)/\w'=w:=by
 go_enter Tryz.func124,Tryz.ntmps124
 go_wp2
 go_loopw [7] (fun iv wr=>iv=.int .i64 0/\wr=w) (fun _ _=>0)
 case atStart=>exact ⟨rfl,rfl⟩
 case round =>
  obtain ⟨rfl,rfl⟩:=hrel;go_wp2
  go_end0
  exact ⟨⟨_,rfl⟩,rfl⟩
end
section
open Go.Proofs.Ob
open Go.Proofs.Cm (Gd Gr ak ap lexLt bT St)
attribute [local irreducible] Go.Calls Go.wpList
theorem vy (fb:Nat) (w:World) (hf:CL w fb 0 (.slice none 0 0)) :
  Calls Tryz.prog 149 #[.slice none 0 0,.func (.func 124) #[] #[.pointer (some ⟨fb,0,none⟩)]] w fun e w'=>e=.returned (.slice none 0 0)/\Below w.heap.size w w':=by
 have FB:=U hf;have K:=U (Below.refl w.heap.size w);clear hf;refine RF.fX Tryz.func149 rfl ?_;simp only [Tryz.ntmps149,List.size_toArray,List.length_cons,List.length_nil,Nat.reduceAdd,Nat.reduceSub,Array.replicate_succ,Array.replicate_zero,List.push_toArray,List.append_toArray,List.nil_append,List.cons_append];go_upto_region 0 with (fail);refine d3 ?_;have aQ:=CW.new w (.slice none 0 0) 26;refine d4 2 (hZ (v:=.slice none 0 0) _ _ rfl rfl rfl) ?_;go_frame;have hb:=(Below.refl w.heap.size w).alloc (Nat.le_refl _) (.cells #[.slice none 0 0] 26);generalize w.alloc (.cells #[.slice none 0 0] 26)=w1 at *;replace FB:=U (FB.p.jj hb);replace K:=U (Rg.acc K.p hb);clear hb;have BX:=U aQ;refine d6 4 (.slice none 0 0) ?_;go_frame;go_upto_region 1 with (fail);refine d3 ?_;refine d5 6 ((.func (.func 124) #[] #[.pointer (some ⟨fb,0,none⟩)])) ?_;go_frame
 clear aQ;have Jl:=K.p.size;go_wp2;refine RF.Jn rfl U7 fun fn rec W2 fP hW hL hD hb=>callsIn_wide.2 ?_;refine (Ij _ fb W2 (FB.p.jj hb).cell).mono ?_;rintro e W3 ⟨hv,rfl⟩;refine ⟨hv,.inl ⟨hL,?_⟩⟩;have dG:Below w1.heap.size w1 (W3.putObj (w1.heap.size+1) (.loop (rec .exhausted none))):=hb.trans (hL.jj (Nat.le_succ _) _);have HDF:=U (hD.put hL (.loop (rec .exhausted none)));replace K:=U (Rg.acc K.p dG);replace BX:=U (BX.p.jj dG);clear dG hb hL hD hv hW fP FB;generalize W3.putObj (w1.heap.size+1) (.loop (rec .exhausted none))=W4 at *;go_upto_region 4 with (fail);refine d3 ?_;refine d4 12 (g8 (.slice none 0 0) ⟨w.heap.size,0,none⟩ (Rg.ae _ _ Tryz.underlying26 BX.p.c)) ?_;go_frame;refine d6 4 (.slice none 0 0) ?_;go_frame;go_wp2;exact RF.leaves w.heap.size [_] _ (by simp) (by intro D gH; simp at gH; subst gH; exact ⟨HDF.p,Jl⟩) (fun W' l1 l2 _=>⟨_,results_tmp rfl _ _ _,rfl,K.p.trans l1⟩)
theorem zq (fb:Nat) (w:World) (hf:CL w fb 0 (.slice none 0 0)) :
  Calls Tryz.prog 122 #[.func (.func 124) #[] #[.pointer (some ⟨fb,0,none⟩)]] w fun e w'=>e=.returned (.slice none 0 0)/\Below w.heap.size w w':=by
 have FB:=U hf;have K:=U (Below.refl w.heap.size w);clear hf
 go_enter Tryz.func122,Tryz.ntmps122
 go_upto_region 0 with (fail);refine d3 ?_;refine d6 2 (.slice none 0 0) ?_;go_frame;go_upto_region 1 with (fail);refine d3 ?_;refine d5 3 ((.func (.func 124) #[] #[.pointer (some ⟨fb,0,none⟩)])) ?_;go_frame;refine f7 4 (aw 149 _ _ _ rfl rfl rfl (MN _ _)) ?_;refine (vy fb w FB.p).mono ?_;rintro e1 w1 ⟨rfl,hb⟩;refine ⟨_,rfl,?_⟩;go_frame;replace FB:=U (FB.p.jj hb);replace K:=U (Rg.acc K.p hb);clear hb;refine d6 2 (.slice none 0 0) ?_;go_frame;go_wp2;go_ret;exact ⟨rfl,K.p⟩
theorem BL (fb:Nat) (w:World) (hf:CL w fb 0 (.slice none 0 0)) :
  Calls Tryz.prog 93 #[.func (.func 124) #[] #[.pointer (some ⟨fb,0,none⟩)]] w fun e w'=>e=.returned (.slice none 0 0)/\Below w.heap.size w w':=by
 have FB:=U hf;have K:=U (Below.refl w.heap.size w);clear hf
 go_enter Tryz.func93,Tryz.ntmps93
 go_upto_region 0 with (fail);refine d3 ?_;refine d6 2 (.slice none 0 0) ?_;go_frame;go_upto_region 1 with (fail);refine d3 ?_;refine d5 4 ((.func (.func 124) #[] #[.pointer (some ⟨fb,0,none⟩)])) ?_;go_frame;refine f7 5 (aF 122 _ _ rfl rfl (MO _ _)) ?_;refine (zq fb w FB.p).mono ?_;rintro e1 w1 ⟨rfl,hb⟩;refine ⟨_,rfl,?_⟩;go_frame;replace FB:=U (FB.p.jj hb);replace K:=U (Rg.acc K.p hb);clear hb;refine d6 3 (.slice none 0 0) ?_;go_frame;go_upto_region 2 with (fail);refine d3 ?_;refine d5 6 (.slice none 0 0) ?_;go_frame;refine f7 7 (aF 123 _ _ rfl rfl (MP _ _)) ?_;refine ((Ii w1).mono (R':=fun e w'=>e=.returned (.tuple #[])/\Below w1.heap.size w1 w') (fun e w' h=>⟨h.1,h.2▸Below.refl _ _⟩)).mono ?_;rintro e1 w2 ⟨rfl,hb⟩;refine ⟨_,rfl,?_⟩;go_frame;replace FB:=U (FB.p.jj hb);replace K:=U (Rg.acc K.p hb)
 clear hb;go_wp2;go_ret;exact ⟨rfl,K.p⟩
theorem EJ (la:Option Addr) (lc:Nat) (gv:Value) (w:World) :
  Calls Tryz.prog 205 #[.slice la 0 lc,gv] w fun e w'=>e=.returned (.slice none 0 0)/\Below w.heap.size w w':=by
 go_enter Tryz.func205,Tryz.ntmps205
 go_wp2
 go_loopw [5,10] (fun ov iv wr=>ov=.slice none 0 0/\iv=.int .i64 0/\wr=w) (fun _ _ _=>0)
 case atStart=>exact ⟨rfl,rfl,rfl⟩
 case round =>
  obtain ⟨rfl,rfl,rfl⟩:=hrel;go_wp2;go_ret;exact ⟨rfl,Below.refl _ _⟩
theorem Ik {l:List Int} (h:gG B W v l) (h1:1<=l.length) (hl:l.length<=1000000):g_ W.heap.size W v l:=by
 obtain ⟨a,cap,e1,_,_,_,h5⟩:=h.fi (by omega) (G:=fun _=>True) (fun _ _ _=>trivial);obtain ⟨b,o,rfl,hb,_,hc⟩:=h5 (by rw [List.length_map]; omega);rw [List.length_map] at e1;refine ⟨b,o,cap,e1,hb,fun j hj=>?_⟩;have:=hc j (by rw [List.length_map]; exact hj);rw [List.getElem_map] at this;rw [this,List.getElem?_eq_getElem hj];rfl
theorem EK (hN:N<=64) (sv tv gv:Value) (s t g:List Nat) (w:World) (hs:Rg.NP w sv s) (ht:Rg.NP w tv t) (hg:Rg.NP w gv g) (jt:∀ y∈s,y<N) (hl:s.length<=100000) (gg:Gd N g) :
  Calls Tryz.prog 204 #[.agg #[sv,tv],gv] w fun e w'=>e=.returned (.bool (decide (Ob.eK (Ma.ag (s.map (ap g)))=Ma.ag t)))/\Below w.heap.size w w':=by
 obtain ⟨n,xa,xc,hn,rfl,-⟩:=Rg.Ints.len hs;obtain ⟨n2,ya,yc,cC,rfl,-⟩:=Rg.Ints.len ht;obtain ⟨n3,ga,gc,EG,rfl,-⟩:=Rg.Ints.len hg;have NX:=U (dw.mk hs);have NY:=U (dw.mk ht);have NG:=U (dw.mk hg);have HL:=U hl;have GG:=U gg;have K:=U (Below.refl w.heap.size w);rw [Ma.ar] at hn;have HN:=U hn;obtain ⟨A,hA⟩:∃ z,Hid (Ob.eK (Ma.ag (s.map (ap g)))=z):=⟨_,U rfl⟩;rw [hA.p];clear hs ht hg gg cC EG hl hn
 go_enter Tryz.func204,Tryz.ntmps204
 go_upto_region 0 with (fail);refine d3 ?_;have aQ:=Ih w (.slice xa n xc) (.slice ya n2 yc) 83;refine d4 2 (Rg.bq _ _ rfl rfl) ?_;go_frame;have hb:=(Below.refl w.heap.size w).alloc (Nat.le_refl _) (.cells #[.slice xa n xc,.slice ya n2 yc] 83);generalize w.alloc (.cells #[.slice xa n xc,.slice ya n2 yc] 83)=w1 at *;replace NX:=U (NX.p.jj hb);replace NY:=U (NY.p.jj hb);replace NG:=U (NG.p.jj hb);replace K:=U (Rg.acc K.p hb);clear hb;have B0:=U aQ.1;have B1:=U aQ.2;clear aQ;refine d6 4 (.bool false) ?_;go_frame
 by_cases h0:s=[]
 case pos =>
  obtain rfl:n=0:=by rw [<- HN.p,h0]; rfl
  obtain rfl:A=[]:=by rw [<- hA.p,h0]; rfl
  go_upto_region 1 with (fail);have aq:Below w1.heap.size w1 w1.drew:=(Below.refl _ _).drew;replace NX:=U (NX.p.jj aq);replace NY:=U (NY.p.jj aq);replace NG:=U (NG.p.jj aq);replace B0:=U (B0.p.jj aq);replace B1:=U (B1.p.jj aq);replace K:=U (Rg.acc K.p aq);clear aq;refine Rg.Any.begin (S:=Rg.aG 9 (fun _=>True) (fun W=>Below w1.drew.heap.size w1.drew W)) mix ?_;generalize w1.drew=w2 at *;have hS:∀ (l:Array Bool) W,Below w2.heap.size w2 W->Rg.aG 9 (fun _=>True) (fun W=>Below w2.heap.size w2 W) l W:=fun l W h=>⟨.inr trivial,h⟩;have hI:Below w2.heap.size w2 w2:=Below.refl _ _;refine d7 0 9 (.pointer (some ⟨w.heap.size,0,none⟩)) 5 rfl rfl (.inl ⟨rfl,fun w _=>af _ rfl rfl (SY _ _)⟩) (hS _ _ hI) ?_;go_frame;refine d7 1 9 (.slice xa 0 xc) 6 rfl rfl (i9 ⟨w.heap.size,0,none⟩ (fun W hW=>Rg.ae _ _ Tryz.underlying26 ((Below.cell (p:=⟨w.heap.size,0,none⟩) hW B0.p.lt).trans B0.p.cell))) (hS _ _ hI) ?_;go_frame
  refine d8 2 9 (.slice ga n3 gc) 7 (hS _ _ hI) ?_;go_frame;refine d7 6 9 (.pointer (some ⟨w.heap.size,1,none⟩)) 11 rfl rfl (.inl ⟨rfl,fun w _=>af _ rfl rfl (S0 _ _)⟩) (hS _ _ hI) ?_;go_frame;refine d7 7 9 (.slice ya n2 yc) 12 rfl rfl (i9 ⟨w.heap.size,1,none⟩ (fun W hW=>Rg.ae _ _ Tryz.underlying26 ((Below.cell (p:=⟨w.heap.size,1,none⟩) hW B1.p.lt).trans B1.p.cell))) (hS _ _ hI) ?_;go_frame;refine Rg.Any.one (i:=3) (by kernel_rfl) (Rg.Any.ask (some 8) rfl rfl rfl _ _ (aw 205 _ _ _ rfl rfl rfl (Ig _ _)) ?_);refine (EJ xa xc _ w2).mono ?_;rintro e1 w3 ⟨rfl,hb⟩;have aJ:=Rg.acc hI hb;clear hb hI;refine ⟨_,rfl,(hS _ _ aJ),?_⟩;go_frame;refine Rg.Any.one (i:=4) (by kernel_rfl) (Rg.Any.ask (some 9) rfl rfl rfl _ _ (aF 94 _ _ rfl rfl (Gz _ _)) ?_);refine (oq none 0 0 w3).mono ?_;rintro e1 w4 ⟨fb,rfl,lA,hb⟩
  have a_:=Rg.acc aJ hb;have bL:=hb;clear hb aJ;refine ⟨_,rfl,(hS _ _ a_),?_⟩;go_frame;have FB:=U lA;refine Rg.Any.one (i:=5) (by kernel_rfl) (Rg.Any.ask (some 10) rfl rfl rfl _ _ (aF 93 _ _ rfl rfl (GA _ _)) ?_);refine (BL fb w4 FB.p).mono ?_;rintro e1 w5 ⟨rfl,hb⟩;have dE:=Rg.acc bL hb;have aZ:=Rg.acc a_ hb;have dt:=hb;clear hb bL a_;refine ⟨_,rfl,(hS _ _ aZ),?_⟩;go_frame;refine Rg.Any.one (i:=8) (by kernel_rfl) (Rg.Any.ask (some 13) rfl rfl rfl _ _ (aw 126 _ _ _ rfl rfl rfl (Bd _ _)) ?_);refine (kX _ _ [] (Ma.ag t) w5 (K0 _) (NY.p.jj aZ).i).mono ?_;rintro e1 w6 ⟨rfl,hb⟩;have jq:=Rg.acc dt hb;have kE:=Rg.acc dE hb;have dW:=Rg.acc aZ hb;have qB:=hb;clear hb dt dE aZ;refine ⟨_,rfl,(hS _ _ dW),?_⟩;go_frame;refine i8 9 4 rfl rfl (Rg.cw (v:=(.bool (decide (([]:List Int)=Ma.ag t)))) _ rfl rfl) (hS _ _ dW) ?_;go_frame
  refine Rg.Any.done (by kernel_rfl) ?_ _;replace NX:=U (NX.p.jj dW);replace NY:=U (NY.p.jj dW);replace NG:=U (NG.p.jj dW);replace B0:=U (B0.p.jj dW);replace B1:=U (B1.p.jj dW);replace FB:=U (FB.p.jj jq);replace K:=U (Rg.acc K.p dW);clear hS jq kE dW qB;clear lA;go_wp2;go_ret;exact ⟨rfl,K.p⟩
 case neg =>
  have HP:=U (show 1<=(Ma.ag (s.map (ap g))).length by rw [Ma.ar,List.length_map]; exact List.length_pos_iff.2 h0);have HQ:=U (show (Ma.ag (s.map (ap g))).length<=1000000 by rw [Ma.ar,List.length_map]; have:=HL.p; omega);go_upto_region 1 with (fail);have aq:Below w1.heap.size w1 w1.drew:=(Below.refl _ _).drew;replace NX:=U (NX.p.jj aq);replace NY:=U (NY.p.jj aq);replace NG:=U (NG.p.jj aq);replace B0:=U (B0.p.jj aq);replace B1:=U (B1.p.jj aq);replace K:=U (Rg.acc K.p aq);clear aq;refine Rg.Any.begin (S:=Rg.aG 9 (fun _=>True) (fun W=>Below w1.drew.heap.size w1.drew W)) mix ?_;generalize w1.drew=eY at *;have hS:∀ (l:Array Bool) W,Below eY.heap.size eY W->Rg.aG 9 (fun _=>True) (fun W=>Below eY.heap.size eY W) l W:=fun l W h=>⟨.inr trivial,h⟩;have hI:Below eY.heap.size eY eY:=Below.refl _ _
  refine d7 0 9 (.pointer (some ⟨w.heap.size,0,none⟩)) 5 rfl rfl (.inl ⟨rfl,fun w _=>af _ rfl rfl (SY _ _)⟩) (hS _ _ hI) ?_;go_frame;refine d7 1 9 (.slice xa n xc) 6 rfl rfl (i9 ⟨w.heap.size,0,none⟩ (fun W hW=>Rg.ae _ _ Tryz.underlying26 ((Below.cell (p:=⟨w.heap.size,0,none⟩) hW B0.p.lt).trans B0.p.cell))) (hS _ _ hI) ?_;go_frame;refine d8 2 9 (.slice ga n3 gc) 7 (hS _ _ hI) ?_;go_frame;refine d7 6 9 (.pointer (some ⟨w.heap.size,1,none⟩)) 11 rfl rfl (.inl ⟨rfl,fun w _=>af _ rfl rfl (S0 _ _)⟩) (hS _ _ hI) ?_;go_frame;refine d7 7 9 (.slice ya n2 yc) 12 rfl rfl (i9 ⟨w.heap.size,1,none⟩ (fun W hW=>Rg.ae _ _ Tryz.underlying26 ((Below.cell (p:=⟨w.heap.size,1,none⟩) hW B1.p.lt).trans B1.p.cell))) (hS _ _ hI) ?_;go_frame;refine Rg.Any.one (i:=3) (by kernel_rfl) (Rg.Any.ask (some 8) rfl rfl rfl _ _ (aw 205 _ _ _ rfl rfl rfl (Ig _ _)) ?_)
  refine (rR hN _ _ s g eY NX.p.i jt HL.p NG.p.i GG.p).mono ?_;rintro e1 nz ⟨iv,rfl,nA,hb⟩;obtain ⟨ia,ic,dO⟩:=nA.shape;subst dO;have mR:=Rg.acc hI hb;clear hb hI;refine ⟨_,rfl,(hS _ _ mR),?_⟩;go_frame;have RO:=U nA;refine Rg.Any.one (i:=4) (by kernel_rfl) (Rg.Any.ask (some 9) rfl rfl rfl _ _ (aF 94 _ _ rfl rfl (Gz _ _)) ?_);refine (oq _ _ _ nz).mono ?_;rintro e1 U8 ⟨fb,rfl,lA,hb⟩;have mS:=Rg.acc mR hb;have mT:=hb;clear hb mR;refine ⟨_,rfl,(hS _ _ mS),?_⟩;go_frame;have FB:=U lA;refine Rg.Any.one (i:=5) (by kernel_rfl) (Rg.Any.ask (some 10) rfl rfl rfl _ _ (aF 93 _ _ rfl rfl (GA _ _)) ?_);refine (ux fb _ (Ma.ag (s.map (ap g))) HP.p HQ.p U8 FB.p.lt FB.p.cell (Ik (RO.p.jj mT) HP.p HQ.p)).mono ?_;rintro e1 YX ⟨zv,rfl,YY,hb⟩;have oN:=Rg.acc mT hb
  have lF:=Rg.acc mS hb;have oO:=hb;clear hb mT mS;refine ⟨_,rfl,(hS _ _ lF),?_⟩;go_frame;have RZ:=U (gG.mk (by rw [kR]; exact YY));refine Rg.Any.one (i:=8) (by kernel_rfl) (Rg.Any.ask (some 13) rfl rfl rfl _ _ (aw 126 _ _ _ rfl rfl rfl (Bd _ _)) ?_);refine (kX _ _ (Ob.eK (Ma.ag (s.map (ap g)))) (Ma.ag t) YX ((RZ.p.fi (by rw [kR]; have:=HQ.p; omega) (G:=fun _=>True) (fun _ _ _=>trivial)).ints) (NY.p.jj lF).i).mono ?_;rintro e1 w26 ⟨rfl,hb⟩;have oP:=Rg.acc oO hb;have oQ:=Rg.acc oN hb;have ig:=Rg.acc lF hb;have oR:=hb;clear hb oO oN lF;refine ⟨_,rfl,(hS _ _ ig),?_⟩;go_frame;refine Rg.Any.one (i:=9) (by kernel_rfl) (Rg.Any.run (some 4) rfl rfl rfl (Rg.cw (v:=(.bool (decide (Ob.eK (Ma.ag (s.map (ap g)))=Ma.ag t)))) _ rfl rfl) (hS _ _ ig) ?_)
  go_frame;refine Rg.Any.done (by kernel_rfl) ?_ _;replace NX:=U (NX.p.jj ig);replace NY:=U (NY.p.jj ig);replace NG:=U (NG.p.jj ig);replace B0:=U (B0.p.jj ig);replace B1:=U (B1.p.jj ig);replace RO:=U (RO.p.jj oQ);replace FB:=U (FB.p.jj oP);replace RZ:=U (RZ.p.jj oR);replace K:=U (Rg.acc K.p ig);clear hS oP oQ ig oR;clear nA lA YY;go_wp2;go_ret;exact ⟨by rw [<- hA.p]; rfl,K.p⟩

theorem Il (args:Array Value) (w:World):(callFunc 67 args).run Tryz.prog w=.ok (.enter 67 args) w:=by kernel_rfl
theorem EL {b:Nat} {x y:Value} (h0:w.cell? ⟨b,1,none⟩=some x) (h1:w.cell? ⟨b,2,none⟩=some y) (h2:w.cell? ⟨b,3,none⟩=some z):(loadVar 25 ⟨b,1,none⟩).run Tryz.prog w=.ok (.agg #[x,y,z]) w:=by
 obtain ⟨i0,hi,cN,bs,dI⟩:=info_parts fH
 have pY:(⟨b,1,none⟩:Addr).add 0=⟨b,1,none⟩:=by simp [Addr.add]
 have mr:(⟨b,1,none⟩:Addr).add 1=⟨b,2,none⟩:=by simp [Addr.add]
 have lS:(⟨b,1,none⟩:Addr).add 2=⟨b,3,none⟩:=by simp [Addr.add]
 have hg:(isAgg 25).run Tryz.prog w=.ok true w:=by kernel_rfl
 simp [loadVar,hg,sizeOf,typeInfo,hi,bs,loadCells,loadCellsFrom,load,pY,mr,lS];simp [Sem.run,h0,h1,h2]
theorem BM (w:World) (x y z u:Value) (t:TypeId):CL (w.alloc (.cells #[x,y,z,u] t)) w.heap.size 0 x/\CL (w.alloc (.cells #[x,y,z,u] t)) w.heap.size 1 y/\CL (w.alloc (.cells #[x,y,z,u] t)) w.heap.size 2 z/\CL (w.alloc (.cells #[x,y,z,u] t)) w.heap.size 3 u :=
 ⟨CL.mk (by rw [Rg.aI]; rfl) (by simp),CL.mk (by rw [Rg.aI]; rfl) (by simp),CL.mk (by rw [Rg.aI]; rfl) (by simp),CL.mk (by rw [Rg.aI]; rfl) (by simp)⟩
theorem EM (eZ:1<=N) (hN:N<=64) (lv ov rv gv:Value) (gens:List (List Nat)) (n:Int) (OO:List (List Int)) (RR:List (List (List Int))) (g:List Nat) (w:World) (hl:Rg.Rows w lv (gens.map Ma.ag)) (eJ:∀ x∈gens,Gd N x) (hc:bg w ov rv OO RR) (hg:Rg.NP w gv g) (gg:Gd N g) :
  Calls Tryz.prog 207 #[.agg #[lv,.int .i64 n,ov,rv],gv] w fun e w'=>e=.returned (.bool (gens.all fun x=>pF n OO RR (Ma.ag (eG x g))))/\Below w.heap.size w w':=by
 obtain ⟨la,lc,rfl,_,vg,-,-⟩:=hl.shape;rw [List.length_map] at hl vg ⊢;obtain ⟨oa,oc,rfl,-⟩:=hc.1.shape;obtain ⟨ra,rc,rfl⟩:=hc.2.shape;obtain ⟨n3,ga,gc,EG,rfl,-⟩:=Rg.Ints.len hg;have HL:=U (jX.mk hl);have CE:=U hc;have NG:=U (dw.mk hg);have GG:=U gg;have HG:=U eJ;have K:=U (Below.refl w.heap.size w);obtain ⟨pb,rS⟩:∃ b,Hid ((gens.all fun x=>pF n OO RR (Ma.ag (eG x g)))=b):=⟨_,U rfl⟩;rw [rS.p];clear hl hc hg gg EG eJ
 go_enter Tryz.func207,Tryz.ntmps207
 go_upto_region 0 with (fail);refine d3 ?_;have aQ:=BM w (.slice la gens.length lc) (.int .i64 n) (.slice oa OO.length oc) (.slice ra RR.length rc) 99;refine d4 2 (Rg.bq _ _ rfl rfl) ?_;go_frame;have hb:=(Below.refl w.heap.size w).alloc (Nat.le_refl _) (.cells #[.slice la gens.length lc,.int .i64 n,.slice oa OO.length oc,.slice ra RR.length rc] 99);generalize w.alloc (.cells #[.slice la gens.length lc,.int .i64 n,.slice oa OO.length oc,.slice ra RR.length rc] 99)=w1 at *;replace HL:=U (HL.p.jj hb);replace CE:=U (CE.p.jj hb);replace NG:=U (NG.p.jj hb);replace K:=U (Rg.acc K.p hb);clear hb;have B0:=U aQ.1;have B1:=U aQ.2.1;have B2:=U aQ.2.2.1;have B3:=U aQ.2.2.2;clear aQ;refine d6 4 (.bool false) ?_;go_frame;go_upto_region 1 with (fail);refine d3 ?_;refine d4 11 (af _ rfl rfl (YU _ _)) ?_;go_frame;refine d4 12 (g8 (.slice la gens.length lc) ⟨w.heap.size,0,none⟩ (Rg.ae _ _ Tryz.underlying41 B0.p.cell)) ?_;go_frame
 refine d4 13 (i3 Tryz.underlying41) ?_;go_frame;refine d5 14 (.int .i64 ((0:Nat):Int)) ?_;go_frame;go_wp2
 go_loopw [14] (fun iv wr=>∃ k:Nat,iv=.int .i64 ((k:Nat):Int)/\k<=gens.length/\Hid (∀ i (h:i<gens.length),i<k->pF n OO RR (Ma.ag (eG gens[i] g))=true)/\Hid (Below w.heap.size w wr)/\Hid (Rg.Rows wr (.slice la gens.length lc) (gens.map Ma.ag))/\Hid (bg wr (.slice oa OO.length oc) (.slice ra RR.length rc) OO RR)/\Hid (dw wr (.slice ga n3 gc) (Ma.ag g))/\Hid (CL wr w.heap.size 1 (.int .i64 n)/\CL wr w.heap.size 2 (.slice oa OO.length oc)/\CL wr w.heap.size 3 (.slice ra RR.length rc))) (fun iv _=>gens.length - (intOf iv).toNat)
 case atStart=>exact ⟨0,rfl,Nat.zero_le _,U (fun i h h0=>absurd h0 (Nat.not_lt_zero _)),K,U HL.p.r,CE,NG,U ⟨B1.p,B2.p,B3.p⟩⟩
 case round =>
  clear K HL CE NG B0 B1 B2 B3;obtain ⟨k,rfl,hk,HA,K,Ra,CE,NG,HB⟩:=hrel;generalize wr=wA at *;have HL:=U (jX.mk Ra.p);have B1:=U HB.p.1;have B2:=U HB.p.2.1;have B3:=U HB.p.2.2;clear Ra HB
  by_cases aE:k<gens.length
  case neg =>
   obtain rfl:k=gens.length:=by omega
   have HX:=U (show true=pb by
    rw [<- rS.p]
    symm
    rw [List.all_eq_true];intro x hx;obtain ⟨i,hi,rfl⟩:=List.getElem_of_mem hx
    exact HA.p i hi hi)
   go_upto_region 2 with (fail);refine d3 ?_;refine d4 15 (g9 (.bool false) .lss (h:=aP _ f9)) ?_;go_frame;go_upto_region 9 with (fail);refine d3 ?_;refine d6 4 (.bool true) ?_;go_frame;go_wp2;go_ret;exact ⟨Rg.ja HX.p,K.p⟩
  case pos =>
   obtain ⟨lb,lo,_,_,e1,cX,cJ,cY⟩:=kh HL.p.r (i:=k) (by rw [List.length_map]; exact aE);subst e1;obtain ⟨x,hx⟩:∃ x,Hid (gens[k]=x):=⟨_,U rfl⟩;have GX:=U (show Gd N x from hx.p▸HG.p _ (List.getElem_mem aE));rw [List.getElem_map,hx.p] at cJ cY;obtain ⟨xa,xc,dO,-⟩:=cY.shape
   rename_i U9 U_
   have CX:=U (CL.mk cJ cX);have NX:=U (dw.mk cY);clear cX cJ cY dO;obtain ⟨ib,EN⟩:∃ b,Hid (pF n OO RR (Ma.ag (eG x g))=b):=⟨_,U rfl⟩;go_upto_region 2 with (fail);refine d3 ?_;refine d4 15 (g9 (.bool true) .lss (h:=aP _ f8)) ?_;go_frame;go_upto_region 3 with (fail);refine d3 ?_;refine d4 16 (aB bP _ _ rfl lb (lo) (gens.length) lc (k) rfl rfl (by omega)) ?_;go_frame;refine d4 17 (g8 (.slice U9 (Ma.ag x).length U_) ⟨lb,lo+k,none⟩ (Rg.ae _ _ Tryz.underlying27 CX.p.cell)) ?_;go_frame;refine d6 6 (.slice U9 (Ma.ag x).length U_) ?_;go_frame;go_upto_region 4 with (fail);refine d3 ?_;refine d5 19 (.slice U9 (Ma.ag x).length U_) ?_;go_frame;refine d5 20 (.slice ga n3 gc) ?_;go_frame;refine f7 21 (aw 202 _ _ _ rfl rfl rfl (Oi _ _)) ?_;refine (rQ eZ hN _ _ x g wA NX.p.i NG.p.i GX.p GG.p).mono ?_
   rintro e1 eY ⟨cv,rfl,hcv,hb⟩;refine ⟨_,rfl,?_⟩;go_frame;replace HL:=U (HL.p.jj hb);replace CE:=U (CE.p.jj hb);replace NG:=U (NG.p.jj hb);replace B1:=U (B1.p.jj hb);replace B2:=U (B2.p.jj hb);replace B3:=U (B3.p.jj hb);replace CX:=U (CX.p.jj hb);replace NX:=U (NX.p.jj hb);replace K:=U (Rg.acc K.p hb);clear hb;have NC:=U (dw.mk hcv.1);refine d5 18 (.tuple #[cv,.int .i64 0]) ?_;go_frame;refine d4 22 (i6 (cv)) ?_;go_frame;refine d4 23 (i6 (.int .i64 0)) ?_;go_frame;refine d6 7 (cv) ?_;go_frame;refine d6 8 (.int .i64 0) ?_;go_frame;clear hcv;go_upto_region 5 with (fail);refine d3 ?_;refine d4 25 (af _ rfl rfl (YW _ _)) ?_;go_frame;refine d4 26 (g8 ((.agg #[.int .i64 n,.slice oa OO.length oc,.slice ra RR.length rc])) ⟨w.heap.size,1,none⟩ (EL B1.p.cell B2.p.cell B3.p.cell)) ?_;go_frame
   refine d5 27 (cv) ?_;go_frame;refine f7 28 (aw 67 _ _ _ rfl rfl rfl (Il _ _)) ?_;refine (tK CE.p NC.p.i).mono ?_;rintro e1 nz ⟨rfl,hb⟩;refine ⟨_,rfl,?_⟩;go_frame;replace HL:=U (HL.p.jj hb);replace CE:=U (CE.p.jj hb);replace NG:=U (NG.p.jj hb);replace B1:=U (B1.p.jj hb);replace B2:=U (B2.p.jj hb);replace B3:=U (B3.p.jj hb);replace CX:=U (CX.p.jj hb);replace NX:=U (NX.p.jj hb);replace NC:=U (NC.p.jj hb);replace K:=U (Rg.acc K.p hb);clear hb;refine d4 24 (Rg.cI (v:=.tuple #[(.bool (pF n OO RR (Ma.ag (eG x g)))),.int .i64 (e_ n OO RR (Ma.ag (eG x g)))]) _ rfl rfl) ?_;go_frame;refine d4 29 (i6 ((.bool (pF n OO RR (Ma.ag (eG x g)))))) ?_;go_frame;refine d4 30 (i6 (.int .i64 (e_ n OO RR (Ma.ag (eG x g))))) ?_;go_frame;refine d4 9 (Rg.cw (v:=(.bool (pF n OO RR (Ma.ag (eG x g))))) _ rfl rfl) ?_;go_frame
   refine d6 10 (.int .i64 (e_ n OO RR (Ma.ag (eG x g)))) ?_;go_frame;rw [EN.p]
   by_cases BO:ib=true
   case pos =>
    subst BO;go_upto_region 6 with (fail);refine d3 ?_;refine d5 31 (.bool true) ?_;go_frame;refine d4 32 (bm _ _ true rfl rfl) ?_;go_frame;go_upto_region 8 with (fail);refine d3 ?_;refine d4 33 (g9 (.int .i64 (((k+1):Nat):Int)) .add (h:=bA _ (by omega) (by omega))) ?_;go_frame;refine d5 14 (.int .i64 (((k+1):Nat):Int)) ?_;go_frame
    have mB:=U (show ∀ i (h:i<gens.length),i<k+1->pF n OO RR (Ma.ag (eG gens[i] g))=true from fun i h hi=>by
     by_cases e:i=k
     ·subst e; rw [hx.p]; exact EN.p
     ·exact HA.p i h (by omega))
    have Ra:=U HL.p.r;have HB:=U (⟨B1.p,B2.p,B3.p⟩:CL _ _ _ _/\CL _ _ _ _/\CL _ _ _ _);clear HA HL CX NX NC;go_wp2
    go_roundw
    case rel=>exact ⟨k+1,by go_num,aE,mB,K,Ra,CE,NG,HB⟩
    case measure=>simp [intOf]; omega
   case neg =>
    obtain rfl:ib=false:=by cases ib <;> simp at BO ⊢
    go_upto_region 6 with (fail);refine d3 ?_;refine d5 31 (.bool false) ?_;go_frame;refine d4 32 (bm _ _ false rfl rfl) ?_;go_frame;go_upto_region 7 with (fail);refine d3 ?_;refine d6 4 (.bool false) ?_;go_frame
    have HX:=U (show false=pb by
     rw [<- rS.p]
     symm
     rw [List.all_eq_false]
     exact ⟨x,hx.p▸List.getElem_mem aE,by rw [EN.p]; decide⟩)
    go_wp2;go_ret;exact ⟨Rg.ja HX.p,K.p⟩

theorem Va (args:Array Value) (w:World):(callFunc 134 args).run Tryz.prog w=.ok (.enter 134 args) w:=by kernel_rfl
abbrev fj:=Int × List (List Int) × List (List (List Int))
structure nN (b:Nat) (CS:List fj) (W:World):Prop where
 lt:b<W.heap.size
 at_:∀ i (h:i<CS.length),∃ oa on oc ra rn rc,W.cell? ⟨b,i*3,none⟩=some (.int .i64 CS[i].1)/\W.cell? ⟨b,i*3+1,none⟩=some (.slice oa on oc)/\W.cell? ⟨b,i*3+2,none⟩=some (.slice ra rn rc)/\bg W (.slice oa on oc) (.slice ra rn rc) CS[i].2.1 CS[i].2.2
theorem nN.jj {b:Nat} {CS:List fj} {W W':World} (h:nN b CS W) (hb:Below W.heap.size W W'):nN b CS W' :=
 ⟨Nat.lt_of_lt_of_le h.lt hb.size,fun i hi=>by
  obtain ⟨oa,on,oc,ra,rn,rc,h0,h1,h2,h3⟩:=h.at_ i hi
  exact ⟨oa,on,oc,ra,rn,rc,(hb.cell (p:=⟨b,i*3,none⟩) h.lt).trans h0,(hb.cell (p:=⟨b,i*3+1,none⟩) h.lt).trans h1,(hb.cell (p:=⟨b,i*3+2,none⟩) h.lt).trans h2,h3.jj hb⟩⟩
theorem jI {b o:Nat} {x y:Value} (h0:w.cell? ⟨b,o,none⟩=some x) (h1:w.cell? ⟨b,o+1,none⟩=some y) (h2:w.cell? ⟨b,o+2,none⟩=some z):(loadVar 25 ⟨b,o,none⟩).run Tryz.prog w=.ok (.agg #[x,y,z]) w:=by
 obtain ⟨i0,hi,cN,bs,dI⟩:=info_parts fH
 have pY:(⟨b,o,none⟩:Addr).add 0=⟨b,o,none⟩:=by simp [Addr.add]
 have mr:(⟨b,o,none⟩:Addr).add 1=⟨b,o+1,none⟩:=by simp [Addr.add]
 have lS:(⟨b,o,none⟩:Addr).add 2=⟨b,o+2,none⟩:=by simp [Addr.add]
 have hg:(isAgg 25).run Tryz.prog w=.ok true w:=by kernel_rfl
 simp [loadVar,hg,sizeOf,typeInfo,hi,bs,loadCells,loadCellsFrom,load,pY,mr,lS];simp [Sem.run,h0,h1,h2]
theorem l9:(Tryz.prog.info? 25).map (·.size)=some 3:=by kernel_rfl
theorem Lw (n m:Int) (ov rv:Value) (nb:Nat) (w:World) (h:w.cell? ⟨nb,0,none⟩=some (.int .i64 n)) (nJ:nb<w.heap.size) :
  Calls Tryz.prog 101 #[.agg #[.int .i64 m,ov,rv],.pointer (some ⟨nb,0,none⟩)] w fun e w'=>e=.returned (.bool (decide (m≠n)))/\Below w.heap.size w w':=by
 have N0:=U (CL.mk h nJ);have K:=U (Below.refl w.heap.size w);obtain ⟨bb,nw⟩:∃ b,Hid (decide (m≠n)=b):=⟨_,U rfl⟩;rw [nw.p];clear h nJ
 go_enter Tryz.func101,Tryz.ntmps101
 go_upto_region 0 with (fail);refine d3 ?_;have aQ:=gR w (.int .i64 m) (ov) (rv);refine d4 2 (Rg.bq _ _ rfl rfl) ?_;go_frame;have hb:=(Below.refl w.heap.size w).alloc (Nat.le_refl _) (.cells #[.int .i64 m,ov,rv] 25);generalize w.alloc (.cells #[.int .i64 m,ov,rv] 25)=w1 at *;replace N0:=U (N0.p.jj hb);replace K:=U (Rg.acc K.p hb);clear hb;have A0:=U aQ.1;have A1:=U aQ.2.1;have A2:=U aQ.2.2;clear aQ;refine d6 3 (.bool false) ?_;go_frame;go_upto_region 1 with (fail);refine d3 ?_;refine d4 4 (af _ rfl rfl (gP _ _)) ?_;go_frame;refine d4 5 (g8 (.int .i64 m) ⟨w.heap.size,0,none⟩ (ah A0.p.cell)) ?_;go_frame;refine d4 6 (g8 (.int .i64 n) ⟨nb,0,none⟩ (ah N0.p.cell)) ?_;go_frame;refine d4 7 (g9 (.bool bb) .neq (h:=aU _ nw.p)) ?_;go_frame;refine d6 3 (.bool bb) ?_;go_frame;go_wp2
 go_ret;exact ⟨rfl,K.p⟩
theorem Ao (n:Int) (pv:Value) (pl:List Int) (nb:Nat) (w:World) (h:w.cell? ⟨nb,0,none⟩=some (.int .i64 n)) (nJ:nb<w.heap.size) (hp:Rg.Ints w pv pl) :
  Calls Tryz.prog 103 #[pv,.pointer (some ⟨nb,0,none⟩)] w fun e w'=>e=.returned (.bool (decide ((pl.length:Int)≠n)))/\Below w.heap.size w w':=by
 obtain ⟨m,pa,pc,hm,rfl,-⟩:=hp.len;rw [hm];have N0:=U (CL.mk h nJ);have K:=U (Below.refl w.heap.size w);obtain ⟨bb,nw⟩:∃ b,Hid (decide (((m:Nat):Int)≠n)=b):=⟨_,U rfl⟩;rw [nw.p];clear h nJ hp hm
 go_enter Tryz.func103,Tryz.ntmps103
 go_upto_region 0 with (fail);refine d3 ?_;refine d6 3 (.bool false) ?_;go_frame;go_upto_region 1 with (fail);refine d3 ?_;refine d5 4 (.slice pa m pc) ?_;go_frame;refine d4 5 (i3 Tryz.underlying27) ?_;go_frame;refine d4 6 (g8 (.int .i64 n) ⟨nb,0,none⟩ (ah N0.p.cell)) ?_;go_frame;refine d4 7 (g9 (.bool bb) .neq (h:=aU _ nw.p)) ?_;go_frame;refine d6 3 (.bool bb) ?_;go_frame;go_wp2;go_ret;exact ⟨rfl,K.p⟩
def gS (n:Int) (p:Int):Bool:=decide (p<0) || decide (n<=p)
theorem pg (n x:Int) (nb:Nat) (w:World) (h:w.cell? ⟨nb,0,none⟩=some (.int .i64 n)) (nJ:nb<w.heap.size) :
  Calls Tryz.prog 104 #[.int .i64 x,.pointer (some ⟨nb,0,none⟩)] w fun e w'=>e=.returned (.bool (gS n x))/\Below w.heap.size w w':=by
 have N0:=U (CL.mk h nJ);have K:=U (Below.refl w.heap.size w);obtain ⟨b2,dG⟩:∃ b,Hid (decide (n<=x)=b):=⟨_,U rfl⟩;clear h nJ
 by_cases h0:x<0
 case pos =>
  have HE:=U (show gS n x=true by unfold gS; rw [decide_eq_true h0]; rfl);rw [HE.p]
  go_enter Tryz.func104,Tryz.ntmps104
  go_upto_region 0 with (fail);refine d3 ?_;refine d6 3 (.bool false) ?_;go_frame;go_upto_region 1 with (fail);refine d3 ?_;refine d5 4 (.int .i64 x) ?_;go_frame;refine d4 5 (g9 (.bool true) .lss (h:=aP _ f8)) ?_;go_frame;refine d5 6 (.bool true) ?_;go_frame;refine g7 7 ?_;go_frame;refine g7 8 ?_;go_frame;refine g7 9 ?_;go_frame;refine d4 10 (i5 (.bool true)) ?_;go_frame;refine d6 3 (.bool true) ?_;go_frame;go_wp2;go_ret;exact ⟨rfl,K.p⟩
 case neg =>
  have HE:=U (show gS n x=b2 by unfold gS; rw [decide_eq_false h0,dG.p]; rfl);rw [HE.p]
  go_enter Tryz.func104,Tryz.ntmps104
  go_upto_region 0 with (fail);refine d3 ?_;refine d6 3 (.bool false) ?_;go_frame;go_upto_region 1 with (fail);refine d3 ?_;refine d5 4 (.int .i64 x) ?_;go_frame;refine d4 5 (g9 (.bool false) .lss (h:=aP _ f9)) ?_;go_frame;refine d5 6 (.bool false) ?_;go_frame;refine d9 7 (a7 (.int .i64 x) _ rfl rfl) ?_;go_frame;refine d9 8 (g8 (.int .i64 n) ⟨nb,0,none⟩ (ah N0.p.cell)) ?_;go_frame;refine d9 9 (g9 (.bool b2) .geq (h:=p8 _ dG.p)) ?_;go_frame;refine d4 10 (i4 (.bool b2)) ?_;go_frame;refine d6 3 (.bool b2) ?_;go_frame;go_wp2;go_ret;exact ⟨rfl,K.p⟩
theorem EO (n:Int) (b cap nb:Nat) (CS:List fj) (w:World) (hc:nN b CS w) (h:w.cell? ⟨nb,0,none⟩=some (.int .i64 n)) (nJ:nb<w.heap.size) (hl:CS.length<=1000) :
  Calls Tryz.prog 134 #[.slice (some ⟨b,0,none⟩) CS.length cap,.func (.func 101) #[] #[.pointer (some ⟨nb,0,none⟩)]] w fun e w'=>(∃ i:Int,e=.returned (.int .i64 i)/\decide (0<=i)=CS.any (fun c=>decide (c.1≠n)))/\Below w.heap.size w w':=by
 have HC:=U hc;have N0:=U (CL.mk h nJ);have K:=U (Below.refl w.heap.size w);clear hc h nJ
 go_enter Tryz.func134,Tryz.ntmps134
 go_upto_region 0 with (fail);refine d3 ?_;refine d6 4 (.int .i64 ((0:Nat):Int)) ?_;go_frame;go_upto_region 1 with (fail);refine d3 ?_;refine d5 6 (.slice (some ⟨b,0,none⟩) CS.length cap) ?_;go_frame;refine d4 7 (i3 Tryz.underlying71) ?_;go_frame;refine d5 8 (.int .i64 ((0:Nat):Int)) ?_;go_frame;go_wp2
 go_loopw [8] (fun iv wr=>∃ k:Nat,iv=.int .i64 ((k:Nat):Int)/\k<=CS.length/\Hid (∀ i (h:i<CS.length),i<k->CS[i].1=n)/\Hid (Below w.heap.size w wr)) (fun iv _=>CS.length - (intOf iv).toNat)
 case atStart=>exact ⟨0,rfl,Nat.zero_le _,U (fun i h h0=>absurd h0 (Nat.not_lt_zero _)),K⟩
 case round =>
  obtain ⟨k,rfl,hk,HA,KR⟩:=hrel;generalize wr=wA at *;replace HC:=U (HC.p.jj KR.p);replace N0:=U (N0.p.jj KR.p);clear K
  by_cases aE:k<CS.length
  case neg =>
   obtain rfl:k=CS.length:=by omega
   have HX:=U (show decide ((0:Int)<=-1)=CS.any (fun c=>decide (c.1≠n)) by
    symm
    rw [show decide ((0:Int)<=-1)=false from rfl,List.any_eq_false];intro c hc;obtain ⟨i,hi,rfl⟩:=List.getElem_of_mem hc
    simp [HA.p i hi hi])
   go_upto_region 2 with (fail);refine d3 ?_;refine d4 9 (g9 (.bool false) .lss (h:=aP _ f9)) ?_;go_frame;go_upto_region 7 with (fail);refine d3 ?_;refine d6 4 (.int .i64 (-1)) ?_;go_frame;go_wp2;go_ret;exact ⟨⟨_,rfl,HX.p⟩,KR.p⟩
  case pos =>
   obtain ⟨oa,on,oc,ra,rn,rc,q0,q1,q2,q3⟩:=HC.p.at_ k aE;obtain ⟨m,hm⟩:∃ m,Hid (CS[k].1=m):=⟨_,U rfl⟩;rw [hm.p] at q0;have tV:=jI q0 q1 q2;clear q0 q1 q2 q3;obtain ⟨bb,nw⟩:∃ b,Hid (decide (m≠n)=b):=⟨_,U rfl⟩;have Oj:=Lw n m (.slice oa on oc) (.slice ra rn rc) nb wA N0.p.cell N0.p.lt;rw [nw.p] at Oj;go_upto_region 2 with (fail);refine d3 ?_;refine d4 9 (g9 (.bool true) .lss (h:=aP _ f8)) ?_;go_frame;go_upto_region 3 with (fail);refine d3 ?_;refine d5 10 (.int .i64 ((k:Nat):Int)) ?_;go_frame;refine d6 5 (.int .i64 ((k:Nat):Int)) ?_;go_frame;go_upto_region 4 with (fail);refine d3 ?_;refine d5 11 ((.func (.func 101) #[] #[.pointer (some ⟨nb,0,none⟩)])) ?_;go_frame;refine d5 12 (.slice (some ⟨b,0,none⟩) CS.length cap) ?_;go_frame;refine d5 13 (.int .i64 ((k:Nat):Int)) ?_;go_frame
   refine d4 14 (bD _ _ rfl Tryz.underlying71 l9 b (CS.length) (cap) (k) rfl rfl (by omega)) ?_;go_frame;refine d4 15 (Rg.fq (v:=(.agg #[.int .i64 m,.slice oa on oc,.slice ra rn rc])) _ _ rfl ⟨b,k*3,none⟩ rfl tV) ?_;go_frame;refine f7 16 (G2 101 _ _ _ rfl rfl rfl (by kernel_rfl)) ?_;refine (Oj).mono ?_;rintro e1 cW ⟨rfl,hb⟩;refine ⟨_,rfl,?_⟩;go_frame;replace HC:=U (HC.p.jj hb);replace N0:=U (N0.p.jj hb);replace KR:=U (Rg.acc KR.p hb);clear hb;clear tV Oj
   cases bb
   case true =>
    have HX:=U (show decide ((0:Int)<=((k:Nat):Int))=CS.any (fun c=>decide (c.1≠n)) by
     symm
     rw [decide_eq_true (Int.natCast_nonneg k),List.any_eq_true]
     exact ⟨CS[k],List.getElem_mem aE,by rw [hm.p]; exact nw.p⟩)
    go_upto_region 5 with (fail);refine d3 ?_;refine d5 17 (.int .i64 ((k:Nat):Int)) ?_;go_frame;refine d6 4 (.int .i64 ((k:Nat):Int)) ?_;go_frame;go_wp2;go_ret;exact ⟨⟨_,rfl,HX.p⟩,KR.p⟩
   case false =>
    have HB:=U (show ∀ i (h:i<CS.length),i<k+1->CS[i].1=n from fun i h hi=>by
     by_cases e:i=k
     ·subst e
      have:=of_decide_eq_false nw.p;rw [hm.p];exact Classical.not_not.1 this
     ·exact HA.p i h (by omega))
    go_upto_region 6 with (fail);refine d3 ?_;refine d4 18 (g9 (.int .i64 (((k+1):Nat):Int)) .add (h:=bA _ (by omega) (by omega))) ?_;go_frame;refine d5 8 (.int .i64 (((k+1):Nat):Int)) ?_;go_frame;clear HA HC N0;go_wp2
    go_roundw
    case rel=>exact ⟨k+1,by go_num,aE,HB,KR⟩
    case measure=>simp [intOf]; omega
theorem kG (n:Int) (b cap nb:Nat) (CS:List fj) (w:World) (hc:nN b CS w) (h:w.cell? ⟨nb,0,none⟩=some (.int .i64 n)) (nJ:nb<w.heap.size) (hl:CS.length<=1000) :
  Calls Tryz.prog 100 #[.slice (some ⟨b,0,none⟩) CS.length cap,.func (.func 101) #[] #[.pointer (some ⟨nb,0,none⟩)]] w fun e w'=>e=.returned (.bool (CS.any (fun c=>decide (c.1≠n))))/\Below w.heap.size w w':=by
 have HI:=U (EO n b cap nb CS w hc h nJ hl);have K:=U (Below.refl w.heap.size w);clear hc h nJ
 go_enter Tryz.func100,Tryz.ntmps100
 go_upto_region 0 with (fail);refine d3 ?_;refine d6 4 (.bool false) ?_;go_frame;go_upto_region 1 with (fail);refine d3 ?_;refine d5 5 (.slice (some ⟨b,0,none⟩) CS.length cap) ?_;go_frame;refine d5 6 ((.func (.func 101) #[] #[.pointer (some ⟨nb,0,none⟩)])) ?_;go_frame;refine f7 7 (aw 134 _ _ _ rfl rfl rfl (Va _ _)) ?_;refine (HI.p).mono ?_;rintro e1 w1 ⟨⟨ix,rfl,vY⟩,hb⟩;have HX:=U vY;refine ⟨_,rfl,?_⟩;go_frame;replace K:=U (Rg.acc K.p hb);clear hb;refine d4 8 (g9 (.bool (decide ((0:Int)<=ix))) .geq (h:=p8 _ rfl)) ?_;go_frame;refine d6 4 (.bool (decide ((0:Int)<=ix))) ?_;go_frame;clear vY HI;rw [HX.p];go_wp2;go_ret;exact ⟨rfl,K.p⟩

theorem Im (args:Array Value) (w:World):(callFunc 100 args).run Tryz.prog w=.ok (.enter 100 args) w:=by kernel_rfl
theorem Ol (args:Array Value) (w:World):(callFunc 102 args).run Tryz.prog w=.ok (.enter 102 args) w:=by kernel_rfl
theorem BQ (args:Array Value) (w:World):(callFunc 105 args).run Tryz.prog w=.ok (.enter 105 args) w:=by kernel_rfl
theorem Vb (args:Array Value) (w:World):(callFunc 106 args).run Tryz.prog w=.ok (.enter 106 args) w:=by kernel_rfl
theorem uF (b:Nat) (w:World):(Instr.fieldAt 73 (.pointer (some ⟨b,0,none⟩)) 0).run Tryz.prog w=.ok (.pointer (some ⟨b,0,none⟩)) w:=by kernel_rfl
theorem Om (b:Nat) (w:World):(Instr.fieldAt 73 (.pointer (some ⟨b,0,none⟩)) 1).run Tryz.prog w=.ok (.pointer (some ⟨b,1,none⟩)) w:=by kernel_rfl
theorem YZ (b:Nat) (w:World):(Instr.fieldAt 73 (.pointer (some ⟨b,0,none⟩)) 2).run Tryz.prog w=.ok (.pointer (some ⟨b,2,none⟩)) w:=by kernel_rfl
theorem Y0 (b:Nat) (w:World):(Instr.fieldAt 73 (.pointer (some ⟨b,0,none⟩)) 3).run Tryz.prog w=.ok (.pointer (some ⟨b,3,none⟩)) w:=by kernel_rfl
noncomputable def jY:List fj->Int
 | []=>0
 | c :: l=>if bH c.1 c.2.1 c.2.2=0 then jY l else bH c.1 c.2.1 c.2.2
def nj (s:List Int):Prop:=∀ j (h:j<s.length),1<=j->s[j - 1]'(by omega)<s[j]
open Classical in
noncomputable def j5 (n:Int) (s:List Int):Int:=if s.any (gS n)=true then 2 else if nj s then 0 else 9
noncomputable def jw (n:Int):List (List Int)->Int
 | []=>0
 | s :: l=>if j5 n s=0 then jw n l else j5 n s
def j6 (n:Int) (t:List Int):Int:=if 64<t.length then 4 else if t.any (gS n)=true then 2 else 0
def jZ (n:Int):List (List Int)->Int
 | []=>0
 | t :: l=>if j6 n t=0 then jZ n l else j6 n t
theorem Lx {CS:List fj} {k:Nat} (hk:k<CS.length) (h:bH CS[k].1 CS[k].2.1 CS[k].2.2=0):jY (CS.drop k)=jY (CS.drop (k+1)):=by rw [List.drop_eq_getElem_cons hk,jY,if_pos h]
theorem On {CS:List fj} {k:Nat} (hk:k<CS.length) (h:¬ bH CS[k].1 CS[k].2.1 CS[k].2.2=0):jY (CS.drop k)=bH CS[k].1 CS[k].2.1 CS[k].2.2:=by rw [List.drop_eq_getElem_cons hk,jY,if_neg h]
theorem Ly {n:Int} {SS:List (List Int)} {k:Nat} (hk:k<SS.length) (h:j5 n SS[k]=0):jw n (SS.drop k)=jw n (SS.drop (k+1)):=by rw [List.drop_eq_getElem_cons hk,jw,if_pos h]
theorem EP {n:Int} {SS:List (List Int)} {k:Nat} (hk:k<SS.length) (h:¬ j5 n SS[k]=0):jw n (SS.drop k)=j5 n SS[k]:=by rw [List.drop_eq_getElem_cons hk,jw,if_neg h]
theorem Lz {n:Int} {SS:List (List Int)} {k:Nat} (hk:k<SS.length) (h:j6 n SS[k]=0):jZ n (SS.drop k)=jZ n (SS.drop (k+1)):=by rw [List.drop_eq_getElem_cons hk,jZ,if_pos h]
theorem ER {n:Int} {SS:List (List Int)} {k:Nat} (hk:k<SS.length) (h:¬ j6 n SS[k]=0):jZ n (SS.drop k)=j6 n SS[k]:=by rw [List.drop_eq_getElem_cons hk,jZ,if_neg h]
theorem LA {QS:List (List Nat)} (h:Rg.Rows W v (QS.map Ma.ag)):Rg.lq W v QS:=h
def rT (c:fj):Int:=if bR (c.2.1.map l4) c.1.toNat c.1.toNat<=5040 then 0 else 5
noncomputable def f_ (n:Int) (CS:List fj) (PS SS TS:List (List Int)) (c0:fj):Int :=
 if jY CS≠0 then jY CS else if Ma.dn PS≠0 then Ma.dn PS else if (CS.any fun c=>decide (c.1≠n))=true∨(PS.any fun x=>decide ((x.length:Int)≠n))=true then 10 else
 if jw n SS≠0 then jw n SS else if jZ n TS≠0 then jZ n TS else rT c0
theorem l_:∀ {CS:List fj},jY CS=0->∀ c∈CS,bH c.1 c.2.1 c.2.2=0
 | [],_,_,hc=>by simp at hc
 | c :: l,h,d,hd=>by
  rw [jY] at h
  by_cases e:bH c.1 c.2.1 c.2.2=0
  ·rw [if_pos e] at h
   rcases List.mem_cons.1 hd with rfl | hd
   ·exact e
   ·exact l_ h d hd
  ·rw [if_neg e] at h; exact absurd h e
theorem tW:∀ {ll:List (List Int)},Ma.dn ll=0->∀ l∈ll,Ma.bB l=0
 | [],_,_,hc=>by simp at hc
 | c :: l,h,d,hd=>by
  rw [Ma.dn] at h
  by_cases e:Ma.bB c=0
  ·rw [if_pos e] at h
   rcases List.mem_cons.1 hd with rfl | hd
   ·exact e
   ·exact tW h d hd
  ·rw [if_neg e] at h; exact absurd h e
theorem ES:∀ {PS:List (List Int)},(∀ l∈PS,Ma.bB l=0)->∃ QS:List (List Nat),PS=QS.map Ma.ag
 | [],_=>⟨[],rfl⟩
 | x :: l,h=>by
  obtain ⟨QS,rfl⟩:=ES (fun z hz=>h z (List.mem_cons_of_mem _ hz));obtain ⟨q,rfl,_⟩:=Ma.kn (Ma.gW (h x (List.mem_cons_self ..))).2.2;exact ⟨q :: QS,rfl⟩
theorem Oo {QS:List (List Nat)} (h5:PS=QS.map Ma.ag) (W:World) (a:Option Addr) (c:Nat) (h:Rg.Rows W (.slice a PS.length c) PS):Rg.lq W (.slice a PS.length c) QS:=by
 rw [h5] at h;have:=LA h
 rwa [h5]
theorem Y1 {CS:List fj} {c0:fj} {n:Int} {h1:0<CS.length} (h:CS[0]=c0) (hn:c0.1=n) (h0:jY CS=0) (_:1<=CS.length):bH n c0.2.1 c0.2.2=0:=by
 subst h hn;exact l_ h0 _ (List.getElem_mem h1)
theorem Oq {n:Int} (h0:bH n OO RR=0) (hn:n<=12) (h:bg w ov rv OO RR) :
  Calls Tryz.prog 106 #[.agg #[.int .i64 n,ov,rv]] w fun e w'=>e=.returned (.int .i64 (rT (n,OO,RR)))/\Below w.heap.size w w':=by
 obtain ⟨N,O,R,rfl,h1,h2,rfl,rfl,cK,hH⟩:=fL h0;refine (BK hH h1 (by omega) cK h).mono ?_;rintro e w' ⟨rfl,hb⟩;refine ⟨?_,hb⟩;unfold rT;simp only [kF,Int.toNat_natCast]
theorem rU {b cc:Nat} {CS:List fj} {ET EU EV:Value} {SS TS:List (List Int)} (hC:nN b CS w) (h1:1<=CS.length) (lr:CS.length<=100) (hP:Rg.Rows w ET PS) (v8:PS.length<=100) (hS:Rg.Rows w EU SS) (jl:SS.length<=100) (jt:∀ s∈SS,s.length<=100) (hT:Rg.Rows w EV TS) (A8:TS.length<=100) (qC:∀ s∈TS,s.length<=100) (hn:(CS[0]'(by omega)).1<=12) :
  Calls Tryz.prog 78 #[.agg #[.slice (some ⟨b,0,none⟩) CS.length cc,ET,EU,EV]] w fun e w'=>e=.returned (.int .i64 (f_ (CS[0]'(by omega)).1 CS PS SS TS (CS[0]'(by omega))))/\Below w.heap.size w w':=by
 obtain ⟨pa,pc,rfl,-⟩:=hP.shape;obtain ⟨sa,sc,rfl,-⟩:=hS.shape;obtain ⟨ta,tc,rfl,-⟩:=hT.shape;obtain ⟨c0,dK⟩:∃ c,Hid (CS[0]'(by omega)=c):=⟨_,U rfl⟩;rw [dK.p] at hn ⊢;obtain ⟨n,qK⟩:∃ n,Hid (c0.1=n):=⟨_,U rfl⟩;rw [qK.p];obtain ⟨G,hG⟩:∃ z,Hid (f_ n CS PS SS TS c0=z):=⟨_,U rfl⟩;rw [hG.p];have HN:=U hn;have HC:=U hC;have RP:=U (jX.mk hP);have bM:=U (jX.mk hS);have RT:=U (jX.mk hT);have tX:=U jt;have rA:=U qC;have K:=U (Below.refl w.heap.size w);clear hC hP hS hT jt qC hn
 go_enter Tryz.func78,Tryz.ntmps78
 go_upto_region 0 with (fail);refine d3 ?_;have aQ:=BM w (.slice (some ⟨b,0,none⟩) CS.length cc) (.slice pa PS.length pc) (.slice sa SS.length sc) (.slice ta TS.length tc) 73;refine d4 1 (Rg.bq _ _ rfl rfl) ?_;go_frame;have hb:=(Below.refl w.heap.size w).alloc (Nat.le_refl _) (.cells #[.slice (some ⟨b,0,none⟩) CS.length cc,.slice pa PS.length pc,.slice sa SS.length sc,.slice ta TS.length tc] 73);generalize w.alloc (.cells #[.slice (some ⟨b,0,none⟩) CS.length cc,.slice pa PS.length pc,.slice sa SS.length sc,.slice ta TS.length tc] 73)=w1 at *;replace HC:=U (HC.p.jj hb);replace RP:=U (RP.p.jj hb);replace bM:=U (bM.p.jj hb);replace RT:=U (RT.p.jj hb);replace K:=U (Rg.acc K.p hb);clear hb;have B0:=U aQ.1;have B1:=U aQ.2.1;have B2:=U aQ.2.2.1;have B3:=U aQ.2.2.2;clear aQ;refine d6 2 (.int .i64 ((0:Nat):Int)) ?_;go_frame
 go_upto_region 1 with (fail);refine d3 ?_;refine d4 16 (af _ rfl rfl (uF _ _)) ?_;go_frame;refine d4 17 (g8 (.slice (some ⟨b,0,none⟩) CS.length cc) ⟨w.heap.size,0,none⟩ (Rg.ae _ _ Tryz.underlying71 B0.p.cell)) ?_;go_frame;refine d4 18 (i3 Tryz.underlying71) ?_;go_frame;refine d5 19 (.int .i64 ((0:Nat):Int)) ?_;go_frame;have KL:=U (Below.refl w1.heap.size w1);have xN:=U (show jY (CS.drop 0)=jY CS from rfl);go_wp2
 go_loopw [19] (fun iv wr=>∃ k:Nat,iv=.int .i64 ((k:Nat):Int)/\k<=CS.length/\Hid (jY (CS.drop k)=jY CS)/\Hid (Below w1.heap.size w1 wr)) (fun iv _=>CS.length - (intOf iv).toNat)
 case atStart=>exact ⟨0,rfl,Nat.zero_le _,xN,KL⟩
 case round =>
  clear xN KL;obtain ⟨k,rfl,hk,HA,KL⟩:=hrel;generalize wr=wA at *;replace HC:=U (HC.p.jj KL.p);replace RP:=U (RP.p.jj KL.p);replace bM:=U (bM.p.jj KL.p);replace RT:=U (RT.p.jj KL.p);replace B0:=U (B0.p.jj KL.p);replace B1:=U (B1.p.jj KL.p);replace B2:=U (B2.p.jj KL.p);replace B3:=U (B3.p.jj KL.p)
  by_cases aE:k<CS.length
  case pos =>
   skip
   go_upto_region 2 with (fail);refine d3 ?_;refine d4 20 (g9 (.bool true) .lss (h:=aP _ f8)) ?_;go_frame;obtain ⟨oa,on,oc,ra,rn,rc,q0,q1,q2,q3⟩:=HC.p.at_ k aE;obtain ⟨m,hm⟩:∃ m,Hid (CS[k].1=m):=⟨_,U rfl⟩;rw [hm.p] at q0;have tV:=jI q0 q1 q2;have CE:=U q3;clear q0 q1 q2 q3;go_upto_region 3 with (fail);refine d3 ?_;refine d4 21 (bD _ _ rfl Tryz.underlying71 l9 b (CS.length) (cc) (k) rfl rfl (by omega)) ?_;go_frame;refine d4 22 (Rg.fq (v:=(.agg #[.int .i64 m,.slice oa on oc,.slice ra rn rc])) _ _ rfl ⟨b,k*3,none⟩ rfl tV) ?_;go_frame;refine d4 4 (bw rfl) ?_;go_frame;refine Rg.aD none rfl rfl (Rg.ai _ _ _ rfl _ rfl _ rfl (aW _ _ _ _ _ _ _ (cq.new wA (.int .i64 0) (.slice none 0 0) (.slice none 0 0)))) ?_;go_frame;have jH:=(cq.new wA (.int .i64 0) (.slice none 0 0) (.slice none 0 0)).set (.int .i64 m) (.slice oa on oc) (.slice ra rn rc)
   have hb:=((((Below.refl wA.heap.size wA).alloc (Nat.le_refl _) (.cells #[.int .i64 0,.slice none 0 0,.slice none 0 0] 25)).setCell (p:=⟨wA.heap.size,0,none⟩) (Nat.le_refl _) (.int .i64 m)).setCell (p:=⟨wA.heap.size,1,none⟩) (Nat.le_refl _) (.slice oa on oc)).setCell (p:=⟨wA.heap.size,2,none⟩) (Nat.le_refl _) (.slice ra rn rc);generalize (((wA.alloc (.cells #[.int .i64 0,.slice none 0 0,.slice none 0 0] 25)).setCell ⟨wA.heap.size,0,none⟩ (.int .i64 m)).setCell ⟨wA.heap.size,1,none⟩ (.slice oa on oc)).setCell ⟨wA.heap.size,2,none⟩ (.slice ra rn rc)=kA at *;replace HC:=U (HC.p.jj hb);replace RP:=U (RP.p.jj hb);replace bM:=U (bM.p.jj hb);replace RT:=U (RT.p.jj hb);replace B0:=U (B0.p.jj hb);replace B1:=U (B1.p.jj hb);replace B2:=U (B2.p.jj hb);replace B3:=U (B3.p.jj hb);replace CE:=U (CE.p.jj hb);replace KL:=U (Rg.acc KL.p hb)
   clear hb;have TC:=U jH;clear jH;clear tV;obtain ⟨ck,dU⟩:∃ c,Hid (bH m CS[k].2.1 CS[k].2.2=c):=⟨_,U rfl⟩;go_upto_region 4 with (fail);refine d3 ?_;refine d4 23 (g8 ((.agg #[.int .i64 m,.slice oa on oc,.slice ra rn rc])) ⟨wA.heap.size,0,none⟩ (aM TC.p.c0 TC.p.c1 TC.p.c2)) ?_;go_frame;refine f7 24 (aF 73 _ _ rfl rfl (Bu _ _)) ?_;refine (mL CE.p).mono ?_;rintro e1 Y2 ⟨rfl,hb⟩;rw [dU.p];refine ⟨_,rfl,?_⟩;go_frame;replace HC:=U (HC.p.jj hb);replace RP:=U (RP.p.jj hb);replace bM:=U (bM.p.jj hb);replace RT:=U (RT.p.jj hb);replace B0:=U (B0.p.jj hb);replace B1:=U (B1.p.jj hb);replace B2:=U (B2.p.jj hb);replace B3:=U (B3.p.jj hb);replace CE:=U (CE.p.jj hb);replace TC:=U (TC.p.jj hb);replace KL:=U (Rg.acc KL.p hb);clear hb;refine d6 5 (.int .i64 ck) ?_;go_frame
   have rJ:=U (show bH CS[k].1 CS[k].2.1 CS[k].2.2=ck by rw [hm.p]; exact dU.p)
   by_cases hz:ck=0
   case neg =>
    have HX:=U (show ck=G by
     rw [<- hG.p];unfold f_
     have e1:jY CS=ck:=by rw [<- HA.p,On aE (by rw [rJ.p]; exact hz),rJ.p]
     rw [if_pos (by rw [e1]; exact hz),e1])
    go_upto_region 5 with (fail);refine d3 ?_;refine d5 25 (.int .i64 ck) ?_;go_frame;refine d4 26 (g9 (.bool true) .neq (h:=aU _ (decide_eq_true hz))) ?_;go_frame;go_upto_region 6 with (fail);refine d3 ?_;refine d5 27 (.int .i64 ck) ?_;go_frame;refine d6 2 (.int .i64 ck) ?_;go_frame;go_wp2;go_ret;exact ⟨by rw [<- HX.p]; rfl,K.p.trans (KL.p.mono K.p.size)⟩
   case pos =>
    subst hz;have mB:=U ((Lx aE rJ.p).symm.trans HA.p);go_upto_region 5 with (fail);refine d3 ?_;refine d5 25 (.int .i64 0) ?_;go_frame;refine d4 26 (g9 (.bool false) .neq (h:=aU _ f9)) ?_;go_frame;go_upto_region 7 with (fail);refine d3 ?_;refine d4 28 (g9 (.int .i64 (((k+1):Nat):Int)) .add (h:=bA _ (by omega) (by omega))) ?_;go_frame;refine d5 19 (.int .i64 (((k+1):Nat):Int)) ?_;go_frame;clear HA CE TC rJ dU;go_wp2
    go_roundw
    case rel=>exact ⟨k+1,by go_num,aE,mB,KL⟩
    case measure=>simp [intOf]; omega
  obtain rfl:k=CS.length:=by omega
  have tG:=U (show jY CS=0 by rw [<- HA.p,List.drop_length]; rfl);replace K:=U (K.p.trans (KL.p.mono K.p.size));clear HA KL;go_upto_region 2 with (fail);refine d3 ?_;refine d4 20 (g9 (.bool false) .lss (h:=aP _ f9)) ?_;go_frame;go_upto_region 8 with (fail);refine d3 ?_;refine d4 29 (af _ rfl rfl (Om _ _)) ?_;go_frame;refine d4 30 (g8 (.slice pa PS.length pc) ⟨w.heap.size,1,none⟩ (Rg.ae _ _ Tryz.underlying41 B1.p.cell)) ?_;go_frame;refine d4 31 (i3 Tryz.underlying41) ?_;go_frame;refine d5 32 (.int .i64 ((0:Nat):Int)) ?_;go_frame;have KL:=U (Below.refl wA.heap.size wA);have xN:=U (show Ma.dn (PS.drop 0)=Ma.dn PS from rfl);go_wp2
  go_loopw [32] (fun iv wr=>∃ k:Nat,iv=.int .i64 ((k:Nat):Int)/\k<=PS.length/\Hid (Ma.dn (PS.drop k)=Ma.dn PS)/\Hid (Below wA.heap.size wA wr)) (fun iv _=>PS.length - (intOf iv).toNat)
  case atStart=>exact ⟨0,rfl,Nat.zero_le _,xN,KL⟩
  case round =>
   clear xN KL;obtain ⟨k,rfl,hk,HA,KL⟩:=hrel;generalize wr=wB at *;replace HC:=U (HC.p.jj KL.p);replace RP:=U (RP.p.jj KL.p);replace bM:=U (bM.p.jj KL.p);replace RT:=U (RT.p.jj KL.p);replace B0:=U (B0.p.jj KL.p);replace B1:=U (B1.p.jj KL.p);replace B2:=U (B2.p.jj KL.p);replace B3:=U (B3.p.jj KL.p)
   by_cases aE:k<PS.length
   case pos =>
    obtain ⟨lb,lo,_,_,e1,cX,cJ,cY⟩:=kh RP.p.r (i:=k) aE;subst e1;obtain ⟨pm,xa,xc,om,dO,-⟩:=cY.len;rw [dO] at cJ cY;have CX:=U (CL.mk cJ cX);have NX:=U (dw.mk cY);obtain ⟨ck,dU⟩:∃ c,Hid (Ma.bB PS[k]=c):=⟨_,U rfl⟩;clear cX cJ cY om dO;go_upto_region 9 with (fail);refine d3 ?_;refine d4 33 (g9 (.bool true) .lss (h:=aP _ f8)) ?_;go_frame;go_upto_region 10 with (fail);refine d3 ?_;refine d4 34 (aB bP _ _ rfl lb (lo) (PS.length) pc (k) rfl rfl (by omega)) ?_;go_frame;refine d4 35 (g8 (.slice xa pm xc) ⟨lb,lo+k,none⟩ (Rg.ae _ _ Tryz.underlying27 CX.p.cell)) ?_;go_frame;refine d6 7 (.slice xa pm xc) ?_;go_frame;go_upto_region 11 with (fail);refine d3 ?_;refine d5 36 (.slice xa pm xc) ?_;go_frame;refine f7 37 (aF 68 _ _ rfl rfl (xe _ _)) ?_;refine (dp _ _ wB NX.p.i).mono ?_
    rintro e1 fU ⟨rfl,hb⟩;rw [dU.p];refine ⟨_,rfl,?_⟩;go_frame;replace HC:=U (HC.p.jj hb);replace RP:=U (RP.p.jj hb);replace bM:=U (bM.p.jj hb);replace RT:=U (RT.p.jj hb);replace B0:=U (B0.p.jj hb);replace B1:=U (B1.p.jj hb);replace B2:=U (B2.p.jj hb);replace B3:=U (B3.p.jj hb);replace CX:=U (CX.p.jj hb);replace NX:=U (NX.p.jj hb);replace KL:=U (Rg.acc KL.p hb);clear hb;refine d6 8 (.int .i64 ck) ?_;go_frame
    by_cases hz:ck=0
    case neg =>
     have HX:=U (show ck=G by
      rw [<- hG.p];unfold f_
      have e1:Ma.dn PS=ck:=by rw [<- HA.p,Ma.zF aE (by rw [dU.p]; exact hz),dU.p]
      rw [if_neg (fun h=>h tG.p),if_pos (by rw [e1]; exact hz),e1])
     go_upto_region 12 with (fail);refine d3 ?_;refine d5 38 (.int .i64 ck) ?_;go_frame;refine d4 39 (g9 (.bool true) .neq (h:=aU _ (decide_eq_true hz))) ?_;go_frame;go_upto_region 13 with (fail);refine d3 ?_;refine d5 40 (.int .i64 ck) ?_;go_frame;refine d6 2 (.int .i64 ck) ?_;go_frame;go_wp2;go_ret;exact ⟨by rw [<- HX.p]; rfl,K.p.trans (KL.p.mono K.p.size)⟩
    case pos =>
     subst hz;have mB:=U ((Ma.vV aE dU.p).symm.trans HA.p);go_upto_region 12 with (fail);refine d3 ?_;refine d5 38 (.int .i64 0) ?_;go_frame;refine d4 39 (g9 (.bool false) .neq (h:=aU _ f9)) ?_;go_frame;go_upto_region 14 with (fail);refine d3 ?_;refine d4 41 (g9 (.int .i64 (((k+1):Nat):Int)) .add (h:=bA _ (by omega) (by omega))) ?_;go_frame;refine d5 32 (.int .i64 (((k+1):Nat):Int)) ?_;go_frame;clear HA CX NX dU;go_wp2
     go_roundw
     case rel=>exact ⟨k+1,by go_num,aE,mB,KL⟩
     case measure=>simp [intOf]; omega
   obtain rfl:k=PS.length:=by omega
   have EW:=U (show Ma.dn PS=0 by rw [<- HA.p,List.drop_length]; rfl);replace K:=U (K.p.trans (KL.p.mono K.p.size));clear HA KL;obtain ⟨oa,on,oc,ra,rn,rc,q0,q1,q2,q3⟩:=HC.p.at_ 0 h1;have CN:=U (show CL wB b (0*3) (.int .i64 n) from CL.mk (by rw [q0,dK.p,qK.p]) HC.p.lt);clear q0 q1 q2 q3;go_upto_region 9 with (fail);refine d3 ?_;refine d4 33 (g9 (.bool false) .lss (h:=aP _ f9)) ?_;go_frame;go_upto_region 15 with (fail);refine d3 ?_;refine d4 42 (af _ rfl rfl (uF _ _)) ?_;go_frame;refine d4 43 (g8 (.slice (some ⟨b,0,none⟩) CS.length cc) ⟨w.heap.size,0,none⟩ (Rg.ae _ _ Tryz.underlying71 B0.p.cell)) ?_;go_frame;refine d4 44 (bD _ _ rfl Tryz.underlying71 l9 b (CS.length) (cc) (0) rfl rfl h1) ?_;go_frame;refine d4 45 (af _ rfl rfl (gP _ _)) ?_;go_frame;refine d4 46 (g8 (.int .i64 n) ⟨b,0,none⟩ (ah CN.p.cell)) ?_;go_frame
   refine d4 9 (mH rfl) ?_;go_frame;refine Rg.aD none rfl rfl (Rg.ai _ _ _ rfl _ rfl _ rfl (bI n (CW.new wB (.int .i64 0) 3).c (CW.new wB (.int .i64 0) 3).f)) ?_;go_frame;have jH:=(CW.new wB (.int .i64 0) 3).set (.int .i64 n);have hb:=((Below.refl wB.heap.size wB).alloc (Nat.le_refl _) (.cells #[.int .i64 0] 3)).setCell (p:=⟨wB.heap.size,0,none⟩) (Nat.le_refl _) (.int .i64 n);generalize (wB.alloc (.cells #[.int .i64 0] 3)).setCell ⟨wB.heap.size,0,none⟩ (.int .i64 n)=tC at *;replace HC:=U (HC.p.jj hb);replace RP:=U (RP.p.jj hb);replace bM:=U (bM.p.jj hb);replace RT:=U (RT.p.jj hb);replace B0:=U (B0.p.jj hb);replace B1:=U (B1.p.jj hb);replace B2:=U (B2.p.jj hb);replace B3:=U (B3.p.jj hb);replace CN:=U (CN.p.jj hb);replace K:=U (Rg.acc K.p hb);clear hb;have BN:=U jH;clear jH
   clear CN;obtain ⟨bt,BO⟩:∃ t,Hid ((CS.any fun c=>decide (c.1≠n))=t):=⟨_,U rfl⟩;obtain ⟨QS,Y3⟩:=ES (tW EW.p);have Ot:=U Y3;clear Y3;obtain ⟨bp,F7⟩:∃ t,Hid ((QS.any fun x=>decide ((x.length:Int)≠n))=t):=⟨_,U rfl⟩;have Vc:=U (show (PS.any fun x=>decide ((x.length:Int)≠n))=bp by rw [Ot.p,List.any_map,<- F7.p]; congr 1; funext x; simp [Ma.ar])
   cases bt
   case true =>
    have HX:=U (show (10:Int)=G by
     rw [<- hG.p];unfold f_
     rw [if_neg (fun h=>h tG.p),if_neg (fun h=>h EW.p),if_pos (.inl BO.p)])
    go_upto_region 16 with (fail);refine d3 ?_;refine d4 47 (af _ rfl rfl (uF _ _)) ?_;go_frame;refine d4 48 (g8 (.slice (some ⟨b,0,none⟩) CS.length cc) ⟨w.heap.size,0,none⟩ (Rg.ae _ _ Tryz.underlying71 B0.p.cell)) ?_;go_frame;refine d4 49 (dJ (v:=.pointer (some ⟨wB.heap.size,0,none⟩)) _ _ rfl rfl) ?_;go_frame;refine f7 50 (aw 100 _ _ _ rfl rfl rfl (Im _ _)) ?_;refine (kG n b cc wB.heap.size CS tC HC.p BN.p.c BN.p.lt (by omega)).mono ?_;rintro e1 w63 ⟨rfl,hb⟩;rw [BO.p];refine ⟨_,rfl,?_⟩;go_frame;replace HC:=U (HC.p.jj hb);replace RP:=U (RP.p.jj hb);replace bM:=U (bM.p.jj hb);replace RT:=U (RT.p.jj hb);replace B0:=U (B0.p.jj hb);replace B1:=U (B1.p.jj hb);replace B2:=U (B2.p.jj hb);replace B3:=U (B3.p.jj hb);replace BN:=U (BN.p.jj hb);replace K:=U (Rg.acc K.p hb)
    clear hb;refine d5 51 (.bool true) ?_;go_frame;refine g7 52 ?_;go_frame;refine g7 53 ?_;go_frame;refine g7 54 ?_;go_frame;refine g7 55 ?_;go_frame;refine d4 56 (i5 (.bool true)) ?_;go_frame;go_upto_region 17 with (fail);refine d3 ?_;refine d6 2 (.int .i64 ((10:Nat):Int)) ?_;go_frame;go_wp2;go_ret;exact ⟨by rw [<- HX.p]; rfl,K.p⟩
   case false =>
    skip
    have ME:=U (Oo Ot.p)
    cases bp
    case true =>
     skip
     go_upto_region 16 with (fail);refine d3 ?_;refine d4 47 (af _ rfl rfl (uF _ _)) ?_;go_frame;refine d4 48 (g8 (.slice (some ⟨b,0,none⟩) CS.length cc) ⟨w.heap.size,0,none⟩ (Rg.ae _ _ Tryz.underlying71 B0.p.cell)) ?_;go_frame;refine d4 49 (dJ (v:=.pointer (some ⟨wB.heap.size,0,none⟩)) _ _ rfl rfl) ?_;go_frame;refine f7 50 (aw 100 _ _ _ rfl rfl rfl (Im _ _)) ?_;refine (kG n b cc wB.heap.size CS tC HC.p BN.p.c BN.p.lt (by omega)).mono ?_;rintro e1 w73 ⟨rfl,hb⟩;rw [BO.p];refine ⟨_,rfl,?_⟩;go_frame;replace HC:=U (HC.p.jj hb);replace RP:=U (RP.p.jj hb);replace bM:=U (bM.p.jj hb);replace RT:=U (RT.p.jj hb);replace B0:=U (B0.p.jj hb);replace B1:=U (B1.p.jj hb);replace B2:=U (B2.p.jj hb);replace B3:=U (B3.p.jj hb);replace BN:=U (BN.p.jj hb);replace K:=U (Rg.acc K.p hb)
     clear hb;refine d5 51 (.bool false) ?_;go_frame;refine d9 52 (af _ rfl rfl (Om _ _)) ?_;go_frame;refine d9 53 (g8 (.slice pa PS.length pc) ⟨w.heap.size,1,none⟩ (Rg.ae _ _ Tryz.underlying41 B1.p.cell)) ?_;go_frame;refine d9 54 (dJ (v:=.pointer (some ⟨wB.heap.size,0,none⟩)) _ _ rfl rfl) ?_;go_frame;refine kr (some 55) rfl rfl _ _ (aw 102 _ _ _ rfl rfl rfl (Ol _ _)) ?_;refine (kQ _ QS _ _ (fun x=>decide ((x.length:Int)≠n)) w73 (ME.p _ _ _ RP.p.r) (by have h5:=congrArg List.length Ot.p; rw [List.length_map] at h5; omega) (fun _ _=>by kernel_rfl) (fun x _ w1 u hb hu=>(Ao n u (Ma.ag x) wB.heap.size w1 ((hb.cell (p:=⟨wB.heap.size,0,none⟩) (BN.p).lt).trans (BN.p).c) (Nat.lt_of_lt_of_le (BN.p).lt hb.size) hu).mono fun e w2 h=>⟨by rw [h.1,Ma.ar],h.2⟩)).mono ?_;rintro e1 w74 ⟨rfl,hb⟩
     rw [F7.p];refine ⟨_,rfl,?_⟩;go_frame;replace HC:=U (HC.p.jj hb);replace RP:=U (RP.p.jj hb);replace bM:=U (bM.p.jj hb);replace RT:=U (RT.p.jj hb);replace B0:=U (B0.p.jj hb);replace B1:=U (B1.p.jj hb);replace B2:=U (B2.p.jj hb);replace B3:=U (B3.p.jj hb);replace BN:=U (BN.p.jj hb);replace K:=U (Rg.acc K.p hb);clear hb;refine d4 56 (i4 (.bool true)) ?_;go_frame
     have HX:=U (show (10:Int)=G by
      rw [<- hG.p];unfold f_
      rw [if_neg (fun h=>h tG.p),if_neg (fun h=>h EW.p),if_pos (.inr Vc.p)])
     go_upto_region 17 with (fail);refine d3 ?_;refine d6 2 (.int .i64 ((10:Nat):Int)) ?_;go_frame;go_wp2;go_ret;exact ⟨by rw [<- HX.p]; rfl,K.p⟩
    case false =>
     skip
     go_upto_region 16 with (fail);refine d3 ?_;refine d4 47 (af _ rfl rfl (uF _ _)) ?_;go_frame;refine d4 48 (g8 (.slice (some ⟨b,0,none⟩) CS.length cc) ⟨w.heap.size,0,none⟩ (Rg.ae _ _ Tryz.underlying71 B0.p.cell)) ?_;go_frame;refine d4 49 (dJ (v:=.pointer (some ⟨wB.heap.size,0,none⟩)) _ _ rfl rfl) ?_;go_frame;refine f7 50 (aw 100 _ _ _ rfl rfl rfl (Im _ _)) ?_;refine (kG n b cc wB.heap.size CS tC HC.p BN.p.c BN.p.lt (by omega)).mono ?_;rintro e1 w83 ⟨rfl,hb⟩;rw [BO.p];refine ⟨_,rfl,?_⟩;go_frame;replace HC:=U (HC.p.jj hb);replace RP:=U (RP.p.jj hb);replace bM:=U (bM.p.jj hb);replace RT:=U (RT.p.jj hb);replace B0:=U (B0.p.jj hb);replace B1:=U (B1.p.jj hb);replace B2:=U (B2.p.jj hb);replace B3:=U (B3.p.jj hb);replace BN:=U (BN.p.jj hb);replace K:=U (Rg.acc K.p hb)
     clear hb;refine d5 51 (.bool false) ?_;go_frame;refine d9 52 (af _ rfl rfl (Om _ _)) ?_;go_frame;refine d9 53 (g8 (.slice pa PS.length pc) ⟨w.heap.size,1,none⟩ (Rg.ae _ _ Tryz.underlying41 B1.p.cell)) ?_;go_frame;refine d9 54 (dJ (v:=.pointer (some ⟨wB.heap.size,0,none⟩)) _ _ rfl rfl) ?_;go_frame;refine kr (some 55) rfl rfl _ _ (aw 102 _ _ _ rfl rfl rfl (Ol _ _)) ?_;refine (kQ _ QS _ _ (fun x=>decide ((x.length:Int)≠n)) w83 (ME.p _ _ _ RP.p.r) (by have h5:=congrArg List.length Ot.p; rw [List.length_map] at h5; omega) (fun _ _=>by kernel_rfl) (fun x _ w1 u hb hu=>(Ao n u (Ma.ag x) wB.heap.size w1 ((hb.cell (p:=⟨wB.heap.size,0,none⟩) (BN.p).lt).trans (BN.p).c) (Nat.lt_of_lt_of_le (BN.p).lt hb.size) hu).mono fun e w2 h=>⟨by rw [h.1,Ma.ar],h.2⟩)).mono ?_;rintro e1 Rb ⟨rfl,hb⟩
     rw [F7.p];refine ⟨_,rfl,?_⟩;go_frame;replace HC:=U (HC.p.jj hb);replace RP:=U (RP.p.jj hb);replace bM:=U (bM.p.jj hb);replace RT:=U (RT.p.jj hb);replace B0:=U (B0.p.jj hb);replace B1:=U (B1.p.jj hb);replace B2:=U (B2.p.jj hb);replace B3:=U (B3.p.jj hb);replace BN:=U (BN.p.jj hb);replace K:=U (Rg.acc K.p hb);clear hb;refine d4 56 (i4 (.bool false)) ?_;go_frame
     have Ou:=U (show ¬ ((CS.any fun c=>decide (c.1≠n))=true∨(PS.any fun x=>decide ((x.length:Int)≠n))=true) from fun h=>by
      rcases h with h | h
      ·rw [BO.p] at h; cases h
      ·rw [Vc.p] at h; cases h)
     clear BO Vc F7 Ot ME;go_upto_region 18 with (fail);refine d3 ?_;refine d4 57 (dJ (v:=.pointer (some ⟨wB.heap.size,0,none⟩)) _ _ rfl rfl) ?_;go_frame;refine d6 10 ((.func (.func 104) #[] #[.pointer (some ⟨wB.heap.size,0,none⟩)])) ?_;go_frame;go_upto_region 19 with (fail);refine d3 ?_;refine d4 58 (af _ rfl rfl (YZ _ _)) ?_;go_frame;refine d4 59 (g8 (.slice sa SS.length sc) ⟨w.heap.size,2,none⟩ (Rg.ae _ _ Tryz.underlying22 B2.p.cell)) ?_;go_frame;refine d4 60 (i3 Tryz.underlying22) ?_;go_frame;refine d5 61 (.int .i64 ((0:Nat):Int)) ?_;go_frame;have KL:=U (Below.refl Rb.heap.size Rb);have xN:=U (show jw n (SS.drop 0)=jw n SS from rfl);go_wp2
     go_loopw [61] (fun iv wr=>∃ k:Nat,iv=.int .i64 ((k:Nat):Int)/\k<=SS.length/\Hid (jw n (SS.drop k)=jw n SS)/\Hid (Below Rb.heap.size Rb wr)) (fun iv _=>SS.length - (intOf iv).toNat)
     case atStart=>exact ⟨0,rfl,Nat.zero_le _,xN,KL⟩
     case round =>
      clear xN KL;obtain ⟨k,rfl,hk,HA,KL⟩:=hrel;generalize wr=wC at *;replace HC:=U (HC.p.jj KL.p);replace RP:=U (RP.p.jj KL.p);replace bM:=U (bM.p.jj KL.p);replace RT:=U (RT.p.jj KL.p);replace B0:=U (B0.p.jj KL.p);replace B1:=U (B1.p.jj KL.p);replace B2:=U (B2.p.jj KL.p);replace B3:=U (B3.p.jj KL.p);replace BN:=U (BN.p.jj KL.p)
      by_cases aE:k<SS.length
      case pos =>
       obtain ⟨lb,lo,_,_,e1,cX,cJ,cY⟩:=kh bM.p.r (i:=k) aE;subst e1;obtain ⟨s,hs⟩:∃ s,Hid (SS[k]=s):=⟨_,U rfl⟩;rw [hs.p] at cJ cY;have LB:=U (show s.length<=100 from hs.p▸tX.p _ (List.getElem_mem aE));obtain ⟨pm,xa,xc,om,dO,-⟩:=cY.len;rw [dO,<- om] at cJ cY;clear om dO;have CX:=U (CL.mk cJ cX);have NX:=U (dw.mk cY);clear cX cJ cY;have nI:s.length<=100:=LB.p;obtain ⟨bo,zr⟩:∃ t,Hid (s.any (gS n)=t):=⟨_,U rfl⟩;go_upto_region 20 with (fail);refine d3 ?_;refine d4 62 (g9 (.bool true) .lss (h:=aP _ f8)) ?_;go_frame;go_upto_region 21 with (fail);refine d3 ?_;refine d4 63 (aB bU _ _ rfl lb (lo) (SS.length) sc (k) rfl rfl (by omega)) ?_;go_frame;refine d4 64 (g8 (.slice xa s.length xc) ⟨lb,lo+k,none⟩ (Rg.ae _ _ Tryz.underlying26 CX.p.cell)) ?_;go_frame
       refine d6 12 (.slice xa s.length xc) ?_;go_frame
       cases bo
       case true =>
        skip
        go_upto_region 22 with (fail);refine d3 ?_;refine d5 65 (.slice xa s.length xc) ?_;go_frame;refine d5 66 ((.func (.func 104) #[] #[.pointer (some ⟨wB.heap.size,0,none⟩)])) ?_;go_frame;refine f7 67 (aw 105 _ _ _ rfl rfl rfl (BQ _ _)) ?_;refine (eM _ s _ _ (gS n) wC NX.p.i (by omega) (fun _ _=>by kernel_rfl) (fun x _ w1 hb=>by exact pg n x wB.heap.size w1 ((hb.cell (p:=⟨wB.heap.size,0,none⟩) (BN.p).lt).trans (BN.p).c) (Nat.lt_of_lt_of_le (BN.p).lt hb.size))).mono ?_;rintro e1 w95 ⟨rfl,hb⟩;rw [zr.p];refine ⟨_,rfl,?_⟩;go_frame;replace HC:=U (HC.p.jj hb);replace RP:=U (RP.p.jj hb);replace bM:=U (bM.p.jj hb);replace RT:=U (RT.p.jj hb);replace B0:=U (B0.p.jj hb);replace B1:=U (B1.p.jj hb);replace B2:=U (B2.p.jj hb);replace B3:=U (B3.p.jj hb);replace BN:=U (BN.p.jj hb)
        replace CX:=U (CX.p.jj hb);replace NX:=U (NX.p.jj hb);replace KL:=U (Rg.acc KL.p hb);clear hb
        have HX:=U (show (2:Int)=G by
         have e0:j5 n SS[k]=2:=by unfold j5; rw [hs.p,if_pos zr.p]
         have e1:jw n SS=2:=by rw [<- HA.p,EP aE (by rw [e0]; decide),e0]
         rw [<- hG.p];unfold f_
         rw [if_neg (fun h=>h tG.p),if_neg (fun h=>h EW.p),if_neg Ou.p,if_pos (by rw [e1]; decide),e1])
        go_upto_region 23 with (fail);refine d3 ?_;refine d6 2 (.int .i64 ((2:Nat):Int)) ?_;go_frame;go_wp2;go_ret;exact ⟨by rw [<- HX.p]; rfl,K.p.trans (KL.p.mono K.p.size)⟩
       case false =>
        skip
        go_upto_region 22 with (fail);refine d3 ?_;refine d5 65 (.slice xa s.length xc) ?_;go_frame;refine d5 66 ((.func (.func 104) #[] #[.pointer (some ⟨wB.heap.size,0,none⟩)])) ?_;go_frame;refine f7 67 (aw 105 _ _ _ rfl rfl rfl (BQ _ _)) ?_;refine (eM _ s _ _ (gS n) wC NX.p.i (by omega) (fun _ _=>by kernel_rfl) (fun x _ w1 hb=>by exact pg n x wB.heap.size w1 ((hb.cell (p:=⟨wB.heap.size,0,none⟩) (BN.p).lt).trans (BN.p).c) (Nat.lt_of_lt_of_le (BN.p).lt hb.size))).mono ?_;rintro e1 Jo ⟨rfl,hb⟩;rw [zr.p];refine ⟨_,rfl,?_⟩;go_frame;replace HC:=U (HC.p.jj hb);replace RP:=U (RP.p.jj hb);replace bM:=U (bM.p.jj hb);replace RT:=U (RT.p.jj hb);replace B0:=U (B0.p.jj hb);replace B1:=U (B1.p.jj hb);replace B2:=U (B2.p.jj hb);replace B3:=U (B3.p.jj hb);replace BN:=U (BN.p.jj hb)
        replace CX:=U (CX.p.jj hb);replace NX:=U (NX.p.jj hb);replace KL:=U (Rg.acc KL.p hb);clear hb;go_upto_region 24 with (fail);refine d3 ?_;refine d5 68 (.slice xa s.length xc) ?_;go_frame;refine d4 69 (i3 Tryz.underlying26) ?_;go_frame;refine d5 70 (.int .i64 ((0:Nat):Int)) ?_;go_frame;have KI:=U (Below.refl Jo.heap.size Jo);have Y4:=U (show ∀ i (h:i<s.length),i<0->1<=i->s[i - 1]'(by omega)<s[i] from fun i h h0=>absurd h0 (Nat.not_lt_zero _));go_wp2
        go_loopw [70] (fun iv wr=>∃ j:Nat,iv=.int .i64 ((j:Nat):Int)/\j<=s.length/\Hid (∀ i (h:i<s.length),i<j->1<=i->s[i - 1]'(by omega)<s[i])/\Hid (Below Jo.heap.size Jo wr)) (fun iv _=>s.length - (intOf iv).toNat)
        case atStart=>exact ⟨0,rfl,Nat.zero_le _,Y4,KI⟩
        case round =>
         clear Y4 KI;obtain ⟨j,rfl,hj,HI,KI⟩:=hrel;generalize wr=wD at *;replace HC:=U (HC.p.jj KI.p);replace RP:=U (RP.p.jj KI.p);replace bM:=U (bM.p.jj KI.p);replace RT:=U (RT.p.jj KI.p);replace B0:=U (B0.p.jj KI.p);replace B1:=U (B1.p.jj KI.p);replace B2:=U (B2.p.jj KI.p);replace B3:=U (B3.p.jj KI.p);replace BN:=U (BN.p.jj KI.p);replace CX:=U (CX.p.jj KI.p);replace NX:=U (NX.p.jj KI.p);have Vd:=U (Rg.acc KL.p KI.p)
         by_cases mJ:j<s.length
         case pos =>
          go_upto_region 25 with (fail);refine d3 ?_;refine d4 71 (g9 (.bool true) .lss (h:=aP _ f8)) ?_;go_frame;go_upto_region 26 with (fail);refine d3 ?_;refine d5 72 (.int .i64 ((j:Nat):Int)) ?_;go_frame;refine d6 13 (.int .i64 ((j:Nat):Int)) ?_;go_frame
          by_cases MY:0<j
          case neg =>
           obtain rfl:j=0:=by omega
           go_upto_region 27 with (fail);have aq:Below wD.heap.size wD wD.drew:=(Below.refl _ _).drew;replace HC:=U (HC.p.jj aq);replace RP:=U (RP.p.jj aq);replace bM:=U (bM.p.jj aq);replace RT:=U (RT.p.jj aq);replace B0:=U (B0.p.jj aq);replace B1:=U (B1.p.jj aq);replace B2:=U (B2.p.jj aq);replace B3:=U (B3.p.jj aq);replace BN:=U (BN.p.jj aq);replace CX:=U (CX.p.jj aq);replace NX:=U (NX.p.jj aq);replace KI:=U (Rg.acc KI.p aq);clear aq;refine Rg.Any.begin (S:=Rg.aG 13 (fun _=>True) (fun W=>Below wD.drew.heap.size wD.drew W)) mix ?_;generalize wD.drew=xO at *;have hS:∀ (l:Array Bool) W,Below xO.heap.size xO W->Rg.aG 13 (fun _=>True) (fun W=>Below xO.heap.size xO W) l W:=fun l W h=>⟨.inr trivial,h⟩;have hI:Below xO.heap.size xO xO:=Below.refl _ _
           refine d8 0 13 (.int .i64 ((0:Nat):Int)) 73 (hS _ _ hI) ?_;go_frame;refine d7 1 13 (.bool false) 74 rfl rfl (.inl ⟨rfl,fun w _=>aT (R:=.bool false) .gtr _ _ _ rfl rfl rfl (dV _ f9)⟩) (hS _ _ hI) ?_;go_frame;refine d8 2 13 (.bool false) 75 (hS _ _ hI) ?_;go_frame;refine d7 3 13 (undef) 76 rfl rfl (.inr ⟨rfl,rfl⟩) (hS _ _ hI) ?_;go_frame;refine d7 4 13 (undef) 77 rfl rfl (.inr ⟨rfl,rfl⟩) (hS _ _ hI) ?_;go_frame;refine d7 5 13 (undef) 78 rfl rfl (.inr ⟨rfl,rfl⟩) (hS _ _ hI) ?_;go_frame;refine d7 6 13 (undef) 79 rfl rfl (.inr ⟨rfl,rfl⟩) (hS _ _ hI) ?_;go_frame;refine d7 7 13 (undef) 80 rfl rfl (.inr ⟨rfl,rfl⟩) (hS _ _ hI) ?_;go_frame;refine d7 8 13 (undef) 81 rfl rfl (.inr ⟨rfl,rfl⟩) (hS _ _ hI) ?_;go_frame;refine d7 9 13 (undef) 82 rfl rfl (.inr ⟨rfl,rfl⟩) (hS _ _ hI) ?_;go_frame;refine d7 10 13 (undef) 83 rfl rfl (.inr ⟨rfl,rfl⟩) (hS _ _ hI) ?_;go_frame
           refine d7 11 13 (undef) 84 rfl rfl (.inr ⟨rfl,rfl⟩) (hS _ _ hI) ?_;go_frame;refine d7 12 13 (undef) 85 rfl rfl (.inr ⟨rfl,rfl⟩) (hS _ _ hI) ?_;go_frame;refine i8 13 86 rfl rfl (i4 (.bool false)) (hS _ _ hI) ?_;go_frame;refine Rg.Any.done (by kernel_rfl) ?_ _;clear hS hI;go_upto_region 29 with (fail);refine d3 ?_;refine d4 87 (g9 (.int .i64 (((0+1):Nat):Int)) .add (h:=bA _ (by omega) (by omega))) ?_;go_frame;refine d5 70 (.int .i64 (((0+1):Nat):Int)) ?_;go_frame;have Mx:=U (show ∀ i (h:i<s.length),i<0+1->1<=i->s[i - 1]'(by omega)<s[i] from fun i h h0 h1=>by omega);clear HI Vd;go_wp2
           go_roundw
           case rel=>exact ⟨0+1,by go_num,mJ,Mx,KI⟩
           case measure=>simp [intOf]; omega
          case pos =>
           obtain ⟨mf,kO,e1,dG,eD⟩:=Af NX.p.i mJ;subst e1;obtain ⟨lb3,lo3,e1,BA,Lr⟩:=Af NX.p.i (k:=j - 1) (by omega);simp only [Option.some.injEq,Addr.mk.injEq,and_true] at e1;obtain ⟨rfl,rfl⟩:=e1;obtain ⟨x,hx⟩:∃ x,Hid (s[j]=x):=⟨_,U rfl⟩;obtain ⟨y,hy⟩:∃ y,Hid (s[j - 1]'(by omega)=y):=⟨_,U rfl⟩;rw [hx.p] at eD;rw [hy.p] at Lr;have C2:=U (CL.mk eD dG);have C3:=U (CL.mk Lr BA);have lC:=U (show j - 1<s.length by omega);clear dG eD BA Lr
           by_cases Hv:x<=y
           case pos =>
            have HX:=U (show (9:Int)=G by
             have hna:¬ nj s:=fun h=>by
              have:=h j mJ MY;rw [hx.p,hy.p] at this;omega
             have e0:j5 n SS[k]=9:=by unfold j5; rw [hs.p,if_neg (by rw [zr.p]; decide),if_neg hna]
             have e1:jw n SS=9:=by rw [<- HA.p,EP aE (by rw [e0]; decide),e0]
             rw [<- hG.p];unfold f_
             rw [if_neg (fun h=>h tG.p),if_neg (fun h=>h EW.p),if_neg Ou.p,if_pos (by rw [e1]; decide),e1])
            go_upto_region 27 with (fail);have aq:Below wD.heap.size wD wD.drew:=(Below.refl _ _).drew;replace HC:=U (HC.p.jj aq);replace RP:=U (RP.p.jj aq);replace bM:=U (bM.p.jj aq);replace RT:=U (RT.p.jj aq);replace B0:=U (B0.p.jj aq);replace B1:=U (B1.p.jj aq);replace B2:=U (B2.p.jj aq);replace B3:=U (B3.p.jj aq);replace BN:=U (BN.p.jj aq);replace CX:=U (CX.p.jj aq);replace NX:=U (NX.p.jj aq);replace C2:=U (C2.p.jj aq);replace C3:=U (C3.p.jj aq);replace KI:=U (Rg.acc KI.p aq);clear aq;refine Rg.Any.begin (S:=Rg.aG 13 (fun _=>True) (fun W=>Below wD.drew.heap.size wD.drew W)) mix ?_;generalize wD.drew=xP at *;have hS:∀ (l:Array Bool) W,Below xP.heap.size xP W->Rg.aG 13 (fun _=>True) (fun W=>Below xP.heap.size xP W) l W:=fun l W h=>⟨.inr trivial,h⟩
            have hI:Below xP.heap.size xP xP:=Below.refl _ _;refine d8 0 13 (.int .i64 ((j:Nat):Int)) 73 (hS _ _ hI) ?_;go_frame;refine d7 1 13 (.bool true) 74 rfl rfl (.inl ⟨rfl,fun w _=>aT (R:=.bool true) .gtr _ _ _ rfl rfl rfl (dV _ f8)⟩) (hS _ _ hI) ?_;go_frame;refine d8 2 13 (.bool true) 75 (hS _ _ hI) ?_;go_frame;refine d8 3 13 (.slice (some ⟨mf,kO,none⟩) s.length xc) 76 (hS _ _ hI) ?_;go_frame;refine d8 4 13 (.int .i64 ((j:Nat):Int)) 77 (hS _ _ hI) ?_;go_frame;refine d7 5 13 (.pointer (some ⟨mf,kO+j,none⟩)) 78 rfl rfl (Rg.aA bK _ _ rfl rfl mf (kO) (s.length) xc (j) rfl rfl (by omega)) (hS _ _ hI) ?_;go_frame;refine d7 6 13 (.int .i64 x) 79 rfl rfl (i9 ⟨mf,kO+j,none⟩ (fun W hW=>ah ((Below.cell (p:=⟨mf,kO+j,none⟩) hW C2.p.lt).trans C2.p.cell))) (hS _ _ hI) ?_;go_frame;refine d8 7 13 (.slice (some ⟨mf,kO,none⟩) s.length xc) 80 (hS _ _ hI) ?_;go_frame
            refine d8 8 13 (.int .i64 ((j:Nat):Int)) 81 (hS _ _ hI) ?_;go_frame;refine d7 9 13 (.int .i64 (((j - 1):Nat):Int)) 82 rfl rfl (.inl ⟨rfl,fun w _=>aT (R:=.int .i64 (((j - 1):Nat):Int)) .sub _ _ _ rfl rfl rfl (gC _ (by omega) (by omega))⟩) (hS _ _ hI) ?_;go_frame;refine d7 10 13 (.pointer (some ⟨mf,kO+(j - 1),none⟩)) 83 rfl rfl (Rg.aA bK _ _ rfl rfl mf (kO) (s.length) xc ((j - 1)) rfl rfl lC.p) (hS _ _ hI) ?_;go_frame;refine d7 11 13 (.int .i64 y) 84 rfl rfl (i9 ⟨mf,kO+(j - 1),none⟩ (fun W hW=>ah ((Below.cell (p:=⟨mf,kO+(j - 1),none⟩) hW C3.p.lt).trans C3.p.cell))) (hS _ _ hI) ?_;go_frame;refine d7 12 13 (.bool true) 85 rfl rfl (.inl ⟨rfl,fun w _=>aT (R:=.bool true) .leq _ _ _ rfl rfl rfl (L8 _ (decide_eq_true Hv))⟩) (hS _ _ hI) ?_;go_frame;refine i8 13 86 rfl rfl (i5 (.bool true)) (hS _ _ hI) ?_;go_frame
            refine Rg.Any.done (by kernel_rfl) ?_ _;clear hS hI;go_upto_region 28 with (fail);refine d3 ?_;refine d6 2 (.int .i64 ((9:Nat):Int)) ?_;go_frame;go_wp2;go_ret;exact ⟨by rw [<- HX.p]; rfl,K.p.trans ((Rg.acc KL.p KI.p).mono K.p.size)⟩
           case neg =>
            skip
            go_upto_region 27 with (fail);have aq:Below wD.heap.size wD wD.drew:=(Below.refl _ _).drew;replace HC:=U (HC.p.jj aq);replace RP:=U (RP.p.jj aq);replace bM:=U (bM.p.jj aq);replace RT:=U (RT.p.jj aq);replace B0:=U (B0.p.jj aq);replace B1:=U (B1.p.jj aq);replace B2:=U (B2.p.jj aq);replace B3:=U (B3.p.jj aq);replace BN:=U (BN.p.jj aq);replace CX:=U (CX.p.jj aq);replace NX:=U (NX.p.jj aq);replace C2:=U (C2.p.jj aq);replace C3:=U (C3.p.jj aq);replace KI:=U (Rg.acc KI.p aq);clear aq;refine Rg.Any.begin (S:=Rg.aG 13 (fun _=>True) (fun W=>Below wD.drew.heap.size wD.drew W)) mix ?_;generalize wD.drew=xQ at *;have hS:∀ (l:Array Bool) W,Below xQ.heap.size xQ W->Rg.aG 13 (fun _=>True) (fun W=>Below xQ.heap.size xQ W) l W:=fun l W h=>⟨.inr trivial,h⟩
            have hI:Below xQ.heap.size xQ xQ:=Below.refl _ _;refine d8 0 13 (.int .i64 ((j:Nat):Int)) 73 (hS _ _ hI) ?_;go_frame;refine d7 1 13 (.bool true) 74 rfl rfl (.inl ⟨rfl,fun w _=>aT (R:=.bool true) .gtr _ _ _ rfl rfl rfl (dV _ f8)⟩) (hS _ _ hI) ?_;go_frame;refine d8 2 13 (.bool true) 75 (hS _ _ hI) ?_;go_frame;refine d8 3 13 (.slice (some ⟨mf,kO,none⟩) s.length xc) 76 (hS _ _ hI) ?_;go_frame;refine d8 4 13 (.int .i64 ((j:Nat):Int)) 77 (hS _ _ hI) ?_;go_frame;refine d7 5 13 (.pointer (some ⟨mf,kO+j,none⟩)) 78 rfl rfl (Rg.aA bK _ _ rfl rfl mf (kO) (s.length) xc (j) rfl rfl (by omega)) (hS _ _ hI) ?_;go_frame;refine d7 6 13 (.int .i64 x) 79 rfl rfl (i9 ⟨mf,kO+j,none⟩ (fun W hW=>ah ((Below.cell (p:=⟨mf,kO+j,none⟩) hW C2.p.lt).trans C2.p.cell))) (hS _ _ hI) ?_;go_frame;refine d8 7 13 (.slice (some ⟨mf,kO,none⟩) s.length xc) 80 (hS _ _ hI) ?_;go_frame
            refine d8 8 13 (.int .i64 ((j:Nat):Int)) 81 (hS _ _ hI) ?_;go_frame;refine d7 9 13 (.int .i64 (((j - 1):Nat):Int)) 82 rfl rfl (.inl ⟨rfl,fun w _=>aT (R:=.int .i64 (((j - 1):Nat):Int)) .sub _ _ _ rfl rfl rfl (gC _ (by omega) (by omega))⟩) (hS _ _ hI) ?_;go_frame;refine d7 10 13 (.pointer (some ⟨mf,kO+(j - 1),none⟩)) 83 rfl rfl (Rg.aA bK _ _ rfl rfl mf (kO) (s.length) xc ((j - 1)) rfl rfl lC.p) (hS _ _ hI) ?_;go_frame;refine d7 11 13 (.int .i64 y) 84 rfl rfl (i9 ⟨mf,kO+(j - 1),none⟩ (fun W hW=>ah ((Below.cell (p:=⟨mf,kO+(j - 1),none⟩) hW C3.p.lt).trans C3.p.cell))) (hS _ _ hI) ?_;go_frame;refine d7 12 13 (.bool false) 85 rfl rfl (.inl ⟨rfl,fun w _=>aT (R:=.bool false) .leq _ _ _ rfl rfl rfl (L8 _ (decide_eq_false Hv))⟩) (hS _ _ hI) ?_;go_frame;refine i8 13 86 rfl rfl (i5 (.bool false)) (hS _ _ hI) ?_;go_frame
            refine Rg.Any.done (by kernel_rfl) ?_ _;clear hS hI;go_upto_region 29 with (fail);refine d3 ?_;refine d4 87 (g9 (.int .i64 (((j+1):Nat):Int)) .add (h:=bA _ (by omega) (by omega))) ?_;go_frame;refine d5 70 (.int .i64 (((j+1):Nat):Int)) ?_;go_frame
            have Mx:=U (show ∀ i (h:i<s.length),i<j+1->1<=i->s[i - 1]'(by omega)<s[i] from fun i h h0 h1=>by
             by_cases e:i=j
             ·subst e; rw [hx.p,hy.p]; omega
             ·exact HI.p i h (by omega) h1)
            clear HI Vd C2 C3;go_wp2
            go_roundw
            case rel=>exact ⟨j+1,by go_num,mJ,Mx,KI⟩
            case measure=>simp [intOf]; omega
         obtain rfl:j=s.length:=by omega
         have mB:=U (show jw n (SS.drop (k+1))=jw n SS by
          rw [<- HA.p,Ly aE];unfold j5
          rw [hs.p,if_neg (by rw [zr.p]; decide),if_pos (show nj s from fun i h h1=>HI.p i h h h1)])
         clear HI;go_upto_region 25 with (fail);refine d3 ?_;refine d4 71 (g9 (.bool false) .lss (h:=aP _ f9)) ?_;go_frame;go_upto_region 30 with (fail);refine d3 ?_;refine d4 88 (g9 (.int .i64 (((k+1):Nat):Int)) .add (h:=bA _ (by omega) (by omega))) ?_;go_frame;refine d5 61 (.int .i64 (((k+1):Nat):Int)) ?_;go_frame;clear CX NX KI;go_wp2
         go_roundw
         case rel=>exact ⟨k+1,by go_num,aE,mB,Vd⟩
         case measure=>simp [intOf]; omega
      obtain rfl:k=SS.length:=by omega
      have lW:=U (show jw n SS=0 by rw [<- HA.p,List.drop_length]; rfl);replace K:=U (K.p.trans (KL.p.mono K.p.size));clear HA KL;go_upto_region 20 with (fail);refine d3 ?_;refine d4 62 (g9 (.bool false) .lss (h:=aP _ f9)) ?_;go_frame;go_upto_region 31 with (fail);refine d3 ?_;refine d4 89 (af _ rfl rfl (Y0 _ _)) ?_;go_frame;refine d4 90 (g8 (.slice ta TS.length tc) ⟨w.heap.size,3,none⟩ (Rg.ae _ _ Tryz.underlying22 B3.p.cell)) ?_;go_frame;refine d4 91 (i3 Tryz.underlying22) ?_;go_frame;refine d5 92 (.int .i64 ((0:Nat):Int)) ?_;go_frame;have KL:=U (Below.refl wC.heap.size wC);have xN:=U (show jZ n (TS.drop 0)=jZ n TS from rfl);go_wp2
      go_loopw [92] (fun iv wr=>∃ k:Nat,iv=.int .i64 ((k:Nat):Int)/\k<=TS.length/\Hid (jZ n (TS.drop k)=jZ n TS)/\Hid (Below wC.heap.size wC wr)) (fun iv _=>TS.length - (intOf iv).toNat)
      case atStart=>exact ⟨0,rfl,Nat.zero_le _,xN,KL⟩
      case round =>
       clear xN KL;obtain ⟨k,rfl,hk,HA,KL⟩:=hrel;generalize wr=wE at *;replace HC:=U (HC.p.jj KL.p);replace RP:=U (RP.p.jj KL.p);replace bM:=U (bM.p.jj KL.p);replace RT:=U (RT.p.jj KL.p);replace B0:=U (B0.p.jj KL.p);replace B1:=U (B1.p.jj KL.p);replace B2:=U (B2.p.jj KL.p);replace B3:=U (B3.p.jj KL.p);replace BN:=U (BN.p.jj KL.p)
       by_cases aE:k<TS.length
       case pos =>
        obtain ⟨lb,lo,_,_,e1,cX,cJ,cY⟩:=kh RT.p.r (i:=k) aE;subst e1;obtain ⟨s,hs⟩:∃ s,Hid (TS[k]=s):=⟨_,U rfl⟩;rw [hs.p] at cJ cY;have LB:=U (show s.length<=100 from hs.p▸rA.p _ (List.getElem_mem aE));obtain ⟨pm,xa,xc,om,dO,-⟩:=cY.len;rw [dO,<- om] at cJ cY;clear om dO;have CX:=U (CL.mk cJ cX);have NX:=U (dw.mk cY);clear cX cJ cY;have nI:s.length<=100:=LB.p;obtain ⟨bo,zr⟩:∃ t,Hid (s.any (gS n)=t):=⟨_,U rfl⟩;go_upto_region 32 with (fail);refine d3 ?_;refine d4 93 (g9 (.bool true) .lss (h:=aP _ f8)) ?_;go_frame;go_upto_region 33 with (fail);refine d3 ?_;refine d4 94 (aB bU _ _ rfl lb (lo) (TS.length) tc (k) rfl rfl (by omega)) ?_;go_frame;refine d4 95 (g8 (.slice xa s.length xc) ⟨lb,lo+k,none⟩ (Rg.ae _ _ Tryz.underlying26 CX.p.cell)) ?_;go_frame
        refine d6 15 (.slice xa s.length xc) ?_;go_frame
        by_cases LY:64<s.length
        case pos =>
         have HX:=U (show (4:Int)=G by
          have e0:j6 n TS[k]=4:=by unfold j6; rw [hs.p,if_pos LY]
          have e1:jZ n TS=4:=by rw [<- HA.p,ER aE (by rw [e0]; decide),e0]
          rw [<- hG.p];unfold f_
          rw [if_neg (fun h=>h tG.p),if_neg (fun h=>h EW.p),if_neg Ou.p,if_neg (fun h=>h lW.p),if_pos (by rw [e1]; decide),e1])
         go_upto_region 34 with (fail);refine d3 ?_;refine d5 96 (.slice xa s.length xc) ?_;go_frame;refine d4 97 (i3 Tryz.underlying26) ?_;go_frame;refine d4 98 (g9 (.bool true) .gtr (h:=dV _ f8)) ?_;go_frame;go_upto_region 35 with (fail);refine d3 ?_;refine d6 2 (.int .i64 ((4:Nat):Int)) ?_;go_frame;go_wp2;go_ret;exact ⟨by rw [<- HX.p]; rfl,K.p.trans (KL.p.mono K.p.size)⟩
        case neg =>
         skip
         go_upto_region 34 with (fail);refine d3 ?_;refine d5 96 (.slice xa s.length xc) ?_;go_frame;refine d4 97 (i3 Tryz.underlying26) ?_;go_frame;refine d4 98 (g9 (.bool false) .gtr (h:=dV _ f9)) ?_;go_frame
         cases bo
         case true =>
          have HX:=U (show (2:Int)=G by
           have e0:j6 n TS[k]=2:=by unfold j6; rw [hs.p,if_neg LY,if_pos zr.p]
           have e1:jZ n TS=2:=by rw [<- HA.p,ER aE (by rw [e0]; decide),e0]
           rw [<- hG.p];unfold f_
           rw [if_neg (fun h=>h tG.p),if_neg (fun h=>h EW.p),if_neg Ou.p,if_neg (fun h=>h lW.p),if_pos (by rw [e1]; decide),e1])
          go_upto_region 36 with (fail);refine d3 ?_;refine d5 99 (.slice xa s.length xc) ?_;go_frame;refine d5 100 ((.func (.func 104) #[] #[.pointer (some ⟨wB.heap.size,0,none⟩)])) ?_;go_frame;refine f7 101 (aw 105 _ _ _ rfl rfl rfl (BQ _ _)) ?_;refine (eM _ s _ _ (gS n) wE NX.p.i (by omega) (fun _ _=>by kernel_rfl) (fun x _ w1 hb=>by exact pg n x wB.heap.size w1 ((hb.cell (p:=⟨wB.heap.size,0,none⟩) (BN.p).lt).trans (BN.p).c) (Nat.lt_of_lt_of_le (BN.p).lt hb.size))).mono ?_;rintro e1 aak ⟨rfl,hb⟩;rw [zr.p];refine ⟨_,rfl,?_⟩;go_frame;replace HC:=U (HC.p.jj hb);replace RP:=U (RP.p.jj hb);replace bM:=U (bM.p.jj hb);replace RT:=U (RT.p.jj hb);replace B0:=U (B0.p.jj hb);replace B1:=U (B1.p.jj hb);replace B2:=U (B2.p.jj hb);replace B3:=U (B3.p.jj hb);replace BN:=U (BN.p.jj hb)
          replace CX:=U (CX.p.jj hb);replace NX:=U (NX.p.jj hb);replace KL:=U (Rg.acc KL.p hb);clear hb;go_upto_region 37 with (fail);refine d3 ?_;refine d6 2 (.int .i64 ((2:Nat):Int)) ?_;go_frame;go_wp2;go_ret;exact ⟨by rw [<- HX.p]; rfl,K.p.trans (KL.p.mono K.p.size)⟩
         case false =>
          have mB:=U (show jZ n (TS.drop (k+1))=jZ n TS by
           rw [<- HA.p,Lz aE];unfold j6
           rw [hs.p,if_neg LY,if_neg (by rw [zr.p]; decide)])
          go_upto_region 36 with (fail);refine d3 ?_;refine d5 99 (.slice xa s.length xc) ?_;go_frame;refine d5 100 ((.func (.func 104) #[] #[.pointer (some ⟨wB.heap.size,0,none⟩)])) ?_;go_frame;refine f7 101 (aw 105 _ _ _ rfl rfl rfl (BQ _ _)) ?_;refine (eM _ s _ _ (gS n) wE NX.p.i (by omega) (fun _ _=>by kernel_rfl) (fun x _ w1 hb=>by exact pg n x wB.heap.size w1 ((hb.cell (p:=⟨wB.heap.size,0,none⟩) (BN.p).lt).trans (BN.p).c) (Nat.lt_of_lt_of_le (BN.p).lt hb.size))).mono ?_;rintro e1 Ye ⟨rfl,hb⟩;rw [zr.p];refine ⟨_,rfl,?_⟩;go_frame;replace HC:=U (HC.p.jj hb);replace RP:=U (RP.p.jj hb);replace bM:=U (bM.p.jj hb);replace RT:=U (RT.p.jj hb);replace B0:=U (B0.p.jj hb);replace B1:=U (B1.p.jj hb);replace B2:=U (B2.p.jj hb);replace B3:=U (B3.p.jj hb);replace BN:=U (BN.p.jj hb)
          replace CX:=U (CX.p.jj hb);replace NX:=U (NX.p.jj hb);replace KL:=U (Rg.acc KL.p hb);clear hb;go_upto_region 38 with (fail);refine d3 ?_;refine d4 102 (g9 (.int .i64 (((k+1):Nat):Int)) .add (h:=bA _ (by omega) (by omega))) ?_;go_frame;refine d5 92 (.int .i64 (((k+1):Nat):Int)) ?_;go_frame;clear HA CX NX;go_wp2
          go_roundw
          case rel=>exact ⟨k+1,by go_num,aE,mB,KL⟩
          case measure=>simp [intOf]; omega
       obtain rfl:k=TS.length:=by omega
       have X7:=U (show jZ n TS=0 by rw [<- HA.p,List.drop_length]; rfl);replace K:=U (K.p.trans (KL.p.mono K.p.size));clear HA KL;go_upto_region 32 with (fail);refine d3 ?_;refine d4 93 (g9 (.bool false) .lss (h:=aP _ f9)) ?_;go_frame;obtain ⟨oa,on,oc,ra,rn,rc,q0,q1,q2,q3⟩:=HC.p.at_ 0 h1;rw [dK.p,qK.p] at q0;have tV:=jI q0 q1 q2;rw [dK.p] at q3;have CE:=U q3;clear q0 q1 q2 q3;go_upto_region 39 with (fail);refine d3 ?_;refine d4 103 (af _ rfl rfl (uF _ _)) ?_;go_frame;refine d4 104 (g8 (.slice (some ⟨b,0,none⟩) CS.length cc) ⟨w.heap.size,0,none⟩ (Rg.ae _ _ Tryz.underlying71 B0.p.cell)) ?_;go_frame;refine d4 105 (bD _ _ rfl Tryz.underlying71 l9 b (CS.length) (cc) (0) rfl rfl h1) ?_;go_frame;refine d4 106 (Rg.fq (v:=(.agg #[.int .i64 n,.slice oa on oc,.slice ra rn rc])) _ _ rfl ⟨b,0*3,none⟩ rfl tV) ?_;go_frame
       refine f7 107 (aF 106 _ _ rfl rfl (Vb _ _)) ?_;refine (Oq (n:=n) (Y1 dK.p qK.p tG.p h1) (by rw [<- qK.p]; exact HN.p) CE.p).mono ?_;rintro e1 aal ⟨rfl,hb⟩;refine ⟨_,rfl,?_⟩;go_frame;replace HC:=U (HC.p.jj hb);replace RP:=U (RP.p.jj hb);replace bM:=U (bM.p.jj hb);replace RT:=U (RT.p.jj hb);replace B0:=U (B0.p.jj hb);replace B1:=U (B1.p.jj hb);replace B2:=U (B2.p.jj hb);replace B3:=U (B3.p.jj hb);replace BN:=U (BN.p.jj hb);replace CE:=U (CE.p.jj hb);replace K:=U (Rg.acc K.p hb);clear hb;refine d6 2 (.int .i64 (rT (n,c0.2.1,c0.2.2))) ?_;go_frame
       have HX:=U (show rT (n,c0.2.1,c0.2.2)=G by
        rw [<- hG.p];unfold f_
        rw [if_neg (fun h=>h tG.p),if_neg (fun h=>h EW.p),if_neg Ou.p,if_neg (fun h=>h lW.p),if_neg (fun h=>h X7.p),<- qK.p])
       go_wp2;go_ret;exact ⟨by rw [<- HX.p]; rfl,K.p⟩
end
section
open Go.Proofs.Ob
open Go.Proofs.Cm (Gd Gr ak ap lexLt bT St)
attribute [local go_sem] Oper.semAt_some
attribute [local irreducible] Go.Calls Go.wpList Go.wpListIn
theorem Ov (args:Array Value) (w:World):(callFunc 78 args).run Tryz.prog w=.ok (.enter 78 args) w:=by kernel_rfl
theorem Ow (args:Array Value) (w:World):(callFunc 79 args).run Tryz.prog w=.ok (.enter 79 args) w:=by kernel_rfl
theorem Ox:(Tryz.prog.info? 73).map (fun i=>i.size)=some 4:=by kernel_rfl
theorem uG {b:Nat} {x y:Value} (h0:w.cell? ⟨b,0,none⟩=some x) (h1:w.cell? ⟨b,1,none⟩=some y) (h2:w.cell? ⟨b,2,none⟩=some z) (h3:w.cell? ⟨b,3,none⟩=some u):(loadVar 73 ⟨b,0,none⟩).run Tryz.prog w=.ok (.agg #[x,y,z,u]) w:=by
 obtain ⟨i0,hi,bs⟩:∃ i,Tryz.prog.info? 73=some i/\i.size=4:=by
  have:=Ox
  cases h:Tryz.prog.info? 73 with
  | none=>rw [h] at this; simp at this
  | some i=>rw [h] at this; simp at this; exact ⟨i,rfl,this⟩
 have pY:(⟨b,0,none⟩:Addr).add 0=⟨b,0,none⟩:=by simp [Addr.add]
 have mr:(⟨b,0,none⟩:Addr).add 1=⟨b,1,none⟩:=by simp [Addr.add]
 have lS:(⟨b,0,none⟩:Addr).add 2=⟨b,2,none⟩:=by simp [Addr.add]
 have ha3:(⟨b,0,none⟩:Addr).add 3=⟨b,3,none⟩:=by simp [Addr.add]
 have hg:(isAgg 73).run Tryz.prog w=.ok true w:=by kernel_rfl
 simp [loadVar,hg,sizeOf,typeInfo,hi,bs,loadCells,loadCellsFrom,load,pY,mr,lS,ha3];simp [Sem.run,h0,h1,h2,h3]
theorem oT {ad:Addr} (h:w.cell? ad=some v):(loadVar 110 ad).run Tryz.prog w=.ok v w:=by
 have hg:(isAgg 110).run Tryz.prog w=.ok false w:=by kernel_rfl
 simp [loadVar,hg,load];simp [Sem.run,h]
theorem tY {o : Oper} {a : Act} {tv x1 recv : Value} {F : FuncId} (f x : Operand) (nV : Array TypeId) (ho : o.op = .call { callee := .invoke f "cayley/search.maps", args := #[x], argTypes := nV }) (hf : a.eval f = tv) (hx : a.eval x = x1)
  (hF : (callMethod tv "cayley/search.maps" #[x1]).run Tryz.prog w = .ok (.enter F #[recv, x1]) w) : (execOp a.eval o).run Tryz.prog w = .ok (.enter F #[recv, x1]) w := by
 unfold execOp;simp [ho,hx,hf,resolve,invoke,Deferred.ofValue,hF]
theorem CL.same {b o:Nat} (h:CL W b o v) (hs:RF.iK W W'):CL W' b o v:=CL.mk ((hs.cell _).trans h.cell) (Nat.lt_of_lt_of_le h.lt hs.size)
theorem CW.same {b:Nat} (h:CW W b v) (hs:RF.iK W W'):CW W' b v:=⟨(hs.cell _).trans h.c,(hs.frozen _).trans h.f,Nat.lt_of_lt_of_le h.lt hs.size⟩
theorem _root_.Go.Proofs.Rg.FI.jj {l:List Int} (h:Rg.FI F W v l) (hb:Below W.heap.size W W'):Rg.FI F W' v l:=Rg.FI.kp h (M:=fun _=>False) (Rg.Kp.az hb) (fun _ _=>id)
structure kH (N:Nat) (tv:Value) (Pb:List Nat->Bool) (Fk:Nat->Prop) (A:World->Prop) (W:World):Prop where
 th:ThU N tv Pb Fk A
 a:A W
theorem kH.jj {tv:Value} {Pb:List Nat->Bool} {A:World->Prop} (h:kH N tv Pb Fk A W) (hb:Below W.heap.size W W'):kH N tv Pb Fk A W':=⟨h.th,h.th.kp _ _ _ h.a (Rg.Kp.az hb) (fun _ _=>id)⟩
theorem kH.same {N:Nat} {tv:Value} {Pb:List Nat->Bool} {Fk:Nat->Prop} {A:World->Prop} {W W':World} (h:kH N tv Pb Fk A W) (hs:RF.iK W W'):kH N tv Pb Fk A W':=⟨h.th,h.th.same _ _ h.a hs⟩
theorem kH.kp {N:Nat} {tv:Value} {Pb:List Nat->Bool} {Fk C:Nat->Prop} {A:World->Prop} {W W':World} (h:kH N tv Pb Fk A W) (hk:Rg.Kp C W W') (hC:∀ z,Fk z->¬ C z):kH N tv Pb Fk A W':=⟨h.th,h.th.kp _ _ _ h.a hk hC⟩
theorem gl {n:Int} {CS:List fj} {SS TS:List (List Int)} {c0:fj} (h:f_ n CS PS SS TS c0=0):jY CS=0/\Ma.dn PS=0/\¬ ((CS.any fun c=>decide (c.1≠n))=true∨(PS.any fun x=>decide ((x.length:Int)≠n))=true)/\jw n SS=0/\jZ n TS=0/\rT c0=0:=by
 unfold f_ at h
 by_cases h1:jY CS=0
 case neg=>rw [if_pos h1] at h; exact absurd h h1
 rw [if_neg (fun g=>g h1)] at h
 by_cases h2:Ma.dn PS=0
 case neg=>rw [if_pos h2] at h; exact absurd h h2
 rw [if_neg (fun g=>g h2)] at h
 by_cases h3:(CS.any fun c=>decide (c.1≠n))=true∨(PS.any fun x=>decide ((x.length:Int)≠n))=true
 case pos=>rw [if_pos h3] at h; exact absurd h (by decide)
 rw [if_neg h3] at h
 by_cases h4:jw n SS=0
 case neg=>rw [if_pos h4] at h; exact absurd h h4
 rw [if_neg (fun g=>g h4)] at h
 by_cases h5:jZ n TS=0
 case neg=>rw [if_pos h5] at h; exact absurd h h5
 rw [if_neg (fun g=>g h5)] at h;exact ⟨h1,h2,h3,h4,h5,h⟩
def Ap (LL:List (List Nat)) (Pb:List Nat->Bool) (e:Ending) (w':World):Prop :=
 ((∀ i,i<LL.length->Pb (LL.getD i [])=false)/\e=.returned (.tuple #[.slice none 0 0,.int .i64 18])) ∨
 ∃ k x,k<LL.length/\Pb (LL.getD k [])=true/\(∀ i,i<k->Pb (LL.getD i [])=false)/\e=.returned (.tuple #[x,.int .i64 0])/\Rg.NP w' x (LL.getD k [])
def zt (c:fj) (N:Nat) (O:List (List Nat)) (R:List (List (List Nat))):Prop :=
 c.1=((N:Nat):Int)/\1<=N/\N<=64/\c.2.1=O.map Ma.ag/\c.2.2=R.map (List.map Ma.ag)/\ak N (Gr N (·∈R.flatten)) O R/\∀ s∈R.flatten,Gd N s
theorem uH (n:Int) (ov rv:Value) (w:World) :
  Calls Tryz.prog 79 #[.agg #[.int .i64 n,ov,rv]] w fun e w'=>∃ cb,w.heap.size<=cb/\e=.returned (.func (.func 107) #[] #[.pointer (some ⟨cb,0,none⟩)])/\(CL w' cb 0 (.int .i64 n)/\CL w' cb 1 ov/\CL w' cb 2 rv)/\Below w.heap.size w w' :=
 (Ic n ov rv w).mono fun _ _ h=>⟨_,Nat.le_refl _,h⟩
theorem lg {ll:List (List (List Int))} (h:fI w v ll):bf (fun k=>k<w.heap.size) w v ll:=by
 obtain ⟨us,⟨a,cap,h1,h2,h3,h4,h5⟩,h6,h7⟩:=h;refine ⟨us,⟨a,cap,h1,h2,h3,h4,fun h0=>?_⟩,h6,fun i p q=>Rg.aH.pz (h7 i p q)⟩;obtain ⟨b,o,e1,e2,e4⟩:=h5 h0;exact ⟨b,o,e1,e2,e2,e4⟩
def iX (ck:Int) (c0:fj) (Pb:List Nat->Bool) (w:World) (e:Ending) (w':World):Prop:=Below w.heap.size w w' /\
 ((ck≠0/\e=.returned (.tuple #[.slice none 0 0,.int .i64 ck]))∨(ck=0/\∃ N O R,zt c0 N O R/\Ap (du N O R) Pb e w'))
structure FsI (N:Nat) (LL:List (List Nat)) (Pb:List Nat->Bool) (Fk:Nat->Prop) (A:World->Prop) (Bt B4 B5:Nat) (tv:Value) (t:Nat) (C:Nat->Prop) (W:World):Prop where
 e:C=fun z=>z=B4∨z=B5
 a:kH N tv Pb Fk A W
 ct:CL W Bt 0 tv
 c4:CW W B4 (.slice none 0 0)
 c5:CW W B5 (.int .i64 0)
 no:∀ i,i<t->Pb (LL.getD i [])=false
structure FsX (LL:List (List Nat)) (Pb:List Nat->Bool) (B4 B5:Nat) (c:Code) (W:World):Prop where
 e:c=.ret
 g:∃ k x,k<LL.length/\Pb (LL.getD k [])=true/\(∀ i,i<k->Pb (LL.getD i [])=false)/\CW W B4 x/\CW W B5 (.int .i64 0)/\Rg.FI (fun z=>¬ (z=B4∨z=B5)) W x (Ma.ag (LL.getD k []))
theorem BR {b cc:Nat} {CS:List fj} {ET EU EV:Value} {SS TS:List (List Int)} (hC:nN b CS w) (h1:1<=CS.length) (lr:CS.length<=100) (hP:Rg.Rows w ET PS) (v8:PS.length<=100) (hS:Rg.Rows w EU SS) (jl:SS.length<=100) (jt:∀ s∈SS,s.length<=100) (hT:Rg.Rows w EV TS) (A8:TS.length<=100) (qC:∀ s∈TS,s.length<=100) (hn:(CS[0]'(by omega)).1<=12)
  {ty:TypeId} {vv:Value} {Pb:List Nat->Bool} {A:World->Prop} (BS:f_ (CS[0]'(by omega)).1 CS PS SS TS (CS[0]'(by omega))=0->kH (CS[0]'(by omega)).1.toNat (.iface ty vv) Pb Fk A w/\∀ z,Fk z->z<w.heap.size) :
  Calls Tryz.prog 63 #[.agg #[.slice (some ⟨b,0,none⟩) CS.length cc,ET,EU,EV],.iface ty vv] w (iX (f_ (CS[0]'(by omega)).1 CS PS SS TS (CS[0]'(by omega))) (CS[0]'(by omega)) Pb w):=by
 obtain ⟨pa,pc,rfl,-⟩:=hP.shape;obtain ⟨sa,sc,rfl,-⟩:=hS.shape;obtain ⟨ta,tc,rfl,-⟩:=hT.shape;obtain ⟨ck,dU⟩:∃ z,Hid (f_ (CS[0]'(by omega)).1 CS PS SS TS (CS[0]'(by omega))=z):=⟨_,U rfl⟩;rw [dU.p] at BS ⊢;obtain ⟨c0,dK⟩:∃ c,Hid (CS[0]'(by omega)=c):=⟨_,U rfl⟩;rw [dK.p] at BS ⊢;have Oy:=U BS;have HN:=U hn;have HC:=U hC;have BU:=U hC;have RP:=U (jX.mk hP);have bM:=U (jX.mk hS);have RT:=U (jX.mk hT);have tX:=U jt;have rA:=U qC;have K:=U (Below.refl w.heap.size w);have AY:w.heap.size=w.heap.size+0:=rfl;clear hC hP hS hT jt qC hn BS;refine RF.fX Tryz.func63 rfl ?_;simp only [Tryz.ntmps63,List.size_toArray,List.length_cons,List.length_nil,Nat.reduceAdd,Nat.reduceSub,Array.replicate_succ,Array.replicate_zero,List.push_toArray,List.append_toArray,List.nil_append,List.cons_append];go_upto_region 0 with (fail)
 refine d3 ?_;have aQ:=BM w (.slice (some ⟨b,0,none⟩) CS.length cc) (.slice pa PS.length pc) (.slice sa SS.length sc) (.slice ta TS.length tc) 73
 have hs:(w.alloc (.cells #[.slice (some ⟨b,0,none⟩) CS.length cc,.slice pa PS.length pc,.slice sa SS.length sc,.slice ta TS.length tc] 73)).heap.size=w.heap.size+1:=by simp
 refine d4 2 (Rg.bq _ _ rfl rfl) ?_;go_frame;have hb:=(Below.refl w.heap.size w).alloc (Nat.le_refl _) (.cells #[.slice (some ⟨b,0,none⟩) CS.length cc,.slice pa PS.length pc,.slice sa SS.length sc,.slice ta TS.length tc] 73);generalize w.alloc (.cells #[.slice (some ⟨b,0,none⟩) CS.length cc,.slice pa PS.length pc,.slice sa SS.length sc,.slice ta TS.length tc] 73)=w1 at *;replace HC:=U (HC.p.jj hb);replace RP:=U (RP.p.jj hb);replace bM:=U (bM.p.jj hb);replace RT:=U (RT.p.jj hb);replace K:=U (Rg.acc K.p hb);clear hb;have B0:=U aQ.1;have B1:=U aQ.2.1;have B2:=U aQ.2.2.1;have B3:=U aQ.2.2.2
 have mq:w1.heap.size=w.heap.size+1:=by omega
 clear aQ hs;have cD:=CW.new w1 (.iface ty vv) 110
 have hs:(w1.alloc (.cells #[.iface ty vv] 110)).heap.size=w1.heap.size+1:=by simp
 refine d4 3 (hZ (v:=.iface ty vv) _ _ rfl rfl rfl) ?_;go_frame;have hb:=(Below.refl w1.heap.size w1).alloc (Nat.le_refl _) (.cells #[.iface ty vv] 110);generalize w1.alloc (.cells #[.iface ty vv] 110)=w2 at *;replace HC:=U (HC.p.jj hb);replace RP:=U (RP.p.jj hb);replace bM:=U (bM.p.jj hb);replace RT:=U (RT.p.jj hb);replace B0:=U (B0.p.jj hb);replace B1:=U (B1.p.jj hb);replace B2:=U (B2.p.jj hb);replace B3:=U (B3.p.jj hb);replace K:=U (Rg.acc K.p hb);clear hb;have BT:=U cD;rw [mq] at BT ⊢
 have iD:w2.heap.size=w.heap.size+2:=by omega
 clear cD hs;have cD:=CW.new w2 (.slice none 0 0) 27
 have hs:(w2.alloc (.cells #[.slice none 0 0] 27)).heap.size=w2.heap.size+1:=by simp
 refine d4 4 (pS rfl) ?_;go_frame;have hb:=(Below.refl w2.heap.size w2).alloc (Nat.le_refl _) (.cells #[.slice none 0 0] 27);generalize w2.alloc (.cells #[.slice none 0 0] 27)=w3 at *;replace HC:=U (HC.p.jj hb);replace RP:=U (RP.p.jj hb);replace bM:=U (bM.p.jj hb);replace RT:=U (RT.p.jj hb);replace B0:=U (B0.p.jj hb);replace B1:=U (B1.p.jj hb);replace B2:=U (B2.p.jj hb);replace B3:=U (B3.p.jj hb);replace BT:=U (BT.p.jj hb);replace K:=U (Rg.acc K.p hb);clear hb;have C4:=U cD;rw [iD] at C4 ⊢
 have Bi:w3.heap.size=w.heap.size+3:=by omega
 clear cD hs;have cD:=CW.new w3 (.int .i64 0) 30
 have hs:(w3.alloc (.cells #[.int .i64 0] 30)).heap.size=w3.heap.size+1:=by simp
 refine d4 5 (rk rfl) ?_;go_frame;have hb:=(Below.refl w3.heap.size w3).alloc (Nat.le_refl _) (.cells #[.int .i64 0] 30);generalize w3.alloc (.cells #[.int .i64 0] 30)=w4 at *;replace HC:=U (HC.p.jj hb);replace RP:=U (RP.p.jj hb);replace bM:=U (bM.p.jj hb);replace RT:=U (RT.p.jj hb);replace B0:=U (B0.p.jj hb);replace B1:=U (B1.p.jj hb);replace B2:=U (B2.p.jj hb);replace B3:=U (B3.p.jj hb);replace BT:=U (BT.p.jj hb);replace C4:=U (C4.p.jj hb);replace K:=U (Rg.acc K.p hb);clear hb;have C5:=U cD;rw [Bi] at C5 ⊢
 have M7:w4.heap.size=w.heap.size+4:=by omega
 clear cD hs;go_upto_region 1 with (fail);refine d3 ?_;refine d4 8 (g8 ((.agg #[.slice (some ⟨b,0,none⟩) CS.length cc,.slice pa PS.length pc,.slice sa SS.length sc,.slice ta TS.length tc])) ⟨w.heap.size,0,none⟩ (uG B0.p.cell B1.p.cell B2.p.cell B3.p.cell)) ?_;go_frame;refine f7 9 (aF 78 _ _ rfl rfl (Ov _ _)) ?_;refine (rU (cc:=cc) HC.p h1 lr RP.p.r v8 bM.p.r jl tX.p RT.p.r A8 rA.p HN.p).mono ?_;rintro e1 w5 ⟨rfl,hb⟩;rw [dU.p];refine ⟨_,rfl,?_⟩;go_frame;replace HC:=U (HC.p.jj hb);replace RP:=U (RP.p.jj hb);replace bM:=U (bM.p.jj hb);replace RT:=U (RT.p.jj hb);replace B0:=U (B0.p.jj hb);replace B1:=U (B1.p.jj hb);replace B2:=U (B2.p.jj hb);replace B3:=U (B3.p.jj hb);replace BT:=U (BT.p.jj hb);replace C4:=U (C4.p.jj hb);replace C5:=U (C5.p.jj hb)
 replace K:=U (Rg.acc K.p hb);clear hb;refine d6 6 (.int .i64 ck) ?_;go_frame;have xi:=U (show w.heap.size+4<=w5.heap.size by have:=C5.p.lt; omega);clear AY mq iD Bi
 by_cases hz:ck=0
 case neg =>
  skip
  go_upto_region 2 with (fail);refine d3 ?_;refine d5 10 (.int .i64 ck) ?_;go_frame;refine d4 11 (g9 (.bool true) .neq (h:=aU _ (decide_eq_true hz))) ?_;go_frame;go_upto_region 3 with (fail);refine d3 ?_;refine d5 12 (.int .i64 ck) ?_;go_frame;refine Rg.aD none rfl rfl (Rg.ai _ _ _ rfl _ rfl _ rfl (Rg.bn _ cU C4.p.c C4.p.f)) ?_;go_frame;refine Rg.aD none rfl rfl (Rg.ai _ _ _ rfl _ rfl _ rfl (cP ck (C5.p.other (.slice none 0 0) (b':=w.heap.size+2) (o:=0) (by omega)).c (C5.p.other (.slice none 0 0) (b':=w.heap.size+2) (o:=0) (by omega)).f)) ?_;go_frame;have y4:=(C4.p.set (.slice none 0 0)).other (.int .i64 ck) (b':=w.heap.size+3) (o:=0) (by omega);have y5:=(C5.p.other (.slice none 0 0) (b':=w.heap.size+2) (o:=0) (by omega)).set (.int .i64 ck);have hk:Below w.heap.size w ((w5.setCell ⟨w.heap.size+2,0,none⟩ (.slice none 0 0)).setCell ⟨w.heap.size+3,0,none⟩ (.int .i64 ck)):=(K.p.setCell (p:=⟨w.heap.size+2,0,none⟩) (show w.heap.size<=w.heap.size+2 by omega) _).setCell (p:=⟨w.heap.size+3,0,none⟩) (show w.heap.size<=w.heap.size+3 by omega) _
  generalize (w5.setCell ⟨w.heap.size+2,0,none⟩ (.slice none 0 0)).setCell ⟨w.heap.size+3,0,none⟩ (.int .i64 ck)=dT at *;go_wp2;exact RF.leaves w.heap.size [] _ (by simp) (by simp) (fun W' l1 l2 _=>⟨_,gU rfl _ rfl rfl (Rg.ae _ _ Tryz.underlying27 ((l2 _).trans y4.c)) (mI ((l2 _).trans y5.c)),hk.trans l1,.inl ⟨hz,rfl⟩⟩)
 case pos =>
  subst hz;go_upto_region 2 with (fail);refine d3 ?_;refine d5 10 (.int .i64 0) ?_;go_frame;refine d4 11 (g9 (.bool false) .neq (h:=aU _ f9)) ?_;go_frame;obtain ⟨bs,dI,Ve,Vf,Vg,Rc⟩:=gl dU.p;obtain ⟨N,O,R,en,bQ,cC,eo,er,cK,hH⟩:=fL (l_ bs _ (List.getElem_mem (show 0<CS.length by omega)));obtain ⟨AO,aE⟩:=Oy.p rfl;have Vh:=U aE;have Oz:=U (show zt c0 N O R from by rw [<- dK.p]; exact ⟨en,bQ,cC,eo,er,cK,hH⟩)
  have OA:(CS[0]'(by omega)).1.toNat=N:=by rw [en]; simp
  have TH:=U (show kH N (.iface ty vv) Pb Fk A w from by rw [<- OA,dK.p]; exact AO);replace TH:=U (TH.p.jj K.p);have ew:=U cK;have BV:=U hH;obtain ⟨oa,on,oc,ra,rn,rc,q0,q1,q2,q3⟩:=BU.p.at_ 0 (by omega);rw [en] at q0;rw [eo,er] at q3;have tV:=jI ((K.p.cell (p:=⟨b,0*3,none⟩) BU.p.lt).trans q0) ((K.p.cell (p:=⟨b,0*3+1,none⟩) BU.p.lt).trans q1) ((K.p.cell (p:=⟨b,0*3+2,none⟩) BU.p.lt).trans q2);have OB:=U q3;clear q0 q1 q2 q3 bs dI Ve Vf Vg Rc aE AO OA en eo er cK hH Oy;go_upto_region 4 with (fail);refine d3 ?_;refine d4 13 (af _ rfl rfl (uF _ _)) ?_;go_frame;refine d4 14 (g8 (.slice (some ⟨b,0,none⟩) CS.length cc) ⟨w.heap.size,0,none⟩ (Rg.ae _ _ Tryz.underlying71 B0.p.cell)) ?_;go_frame;refine d4 15 (bD _ _ rfl Tryz.underlying71 l9 b (CS.length) (cc) (0) rfl rfl (by omega)) ?_;go_frame
  refine d4 16 (Rg.fq (v:=(.agg #[.int .i64 ((N:Nat):Int),.slice oa on oc,.slice ra rn rc])) _ _ rfl ⟨b,0*3,none⟩ rfl tV) ?_;go_frame;refine f7 17 (aF 79 _ _ rfl rfl (Ow _ _)) ?_;refine (uH (((N:Nat):Int)) (.slice oa on oc) (.slice ra rn rc) w5).mono ?_;rintro e1 vz ⟨cb,Y5,rfl,wK,hb⟩;refine ⟨_,rfl,?_⟩;go_frame;replace HC:=U (HC.p.jj hb);replace RP:=U (RP.p.jj hb);replace bM:=U (bM.p.jj hb);replace RT:=U (RT.p.jj hb);replace B0:=U (B0.p.jj hb);replace B1:=U (B1.p.jj hb);replace B2:=U (B2.p.jj hb);replace B3:=U (B3.p.jj hb);replace BT:=U (BT.p.jj hb);replace C4:=U (C4.p.jj hb);replace C5:=U (C5.p.jj hb);replace TH:=U (TH.p.jj hb);replace K:=U (Rg.acc K.p hb);clear hb;have E0:=U wK.1;have E1:=U wK.2.1;have E2:=U wK.2.2;clear wK tV;have dR:=xi.p
  have pB:cb<vz.heap.size:=E0.p.lt;have BZ:=U (Rg.Kp.az (M:=fun _=>False) K.p);have OC:Rg.aH (fun z=>z<vz.heap.size/\¬ (z=w.heap.size+2∨z=w.heap.size+3)) vz (.slice oa on oc) (O.map Ma.ag):=((Rg.aH.pz OB.p.1).kp BZ.p (fun _ _=>id)).mono (fun z hz=>⟨by have:=K.p.size; omega,by omega⟩);have OD:bf (fun z=>z<vz.heap.size/\¬ (z=w.heap.size+2∨z=w.heap.size+3)) vz (.slice ra rn rc) (R.map (List.map Ma.ag)):=((lg OB.p.2).kp BZ.p (fun _ _=>id)).mono (fun z hz=>⟨by have:=K.p.size; omega,by omega⟩);go_wp2
  refine xL bQ cC (Gr.dC BV.p) ew.p (cb:=cb) (by exact rfl) (by exact rfl) (F:=fun z=>z<vz.heap.size/\¬ (z=w.heap.size+2∨z=w.heap.size+3)) (C0:=fun z=>z=w.heap.size+2∨z=w.heap.size+3) ⟨pB,by omega⟩ E0.p.cell E1.p.cell E2.p.cell OC OD (fun z hz=>hz.1) (fun z hz=>hz.2)
   (FsI N (du N O R) Pb Fk A (w.heap.size+1) (w.heap.size+2) (w.heap.size+3) (.iface ty vv)) (FsX (du N O R) Pb (w.heap.size+2) (w.heap.size+3)) (fun t C W W' h hb=>⟨h.e,h.a.jj hb,h.ct.jj hb,h.c4.jj hb,h.c5.jj hb,h.no⟩) (fun t C W W' h hb=>⟨h.e,h.a.same hb,h.ct.same hb,h.c4.same hb,h.c5.same hb,h.no⟩)
   (fun c W W' h hs=>⟨h.e,by obtain ⟨k,x,g1,g2,g3,g4,g5,g6⟩:=h.g; exact ⟨k,x,g1,g2,g3,g4.same hs,g5.same hs,FI.same g6 hs⟩⟩)
   (fun t C W h z hz=>by rw [h.e] at hz; rcases hz with rfl | rfl <;> first | exact ⟨h.c4.lt,by omega,by omega⟩ | exact ⟨h.c5.lt,by omega,by omega⟩)
   ⟨rfl,TH.p,CL.mk BT.p.c BT.p.lt,C4.p,C5.p,fun i hi=>absurd hi (Nat.not_lt_zero _)⟩ (fun x=>{ tmps:=#[(.agg #[.slice (some ⟨b,0,none⟩) CS.length cc,.slice pa PS.length pc,.slice sa SS.length sc,.slice ta TS.length tc]),.iface ty vv,.pointer (some ⟨w.heap.size,0,none⟩),.pointer (some ⟨(w.heap.size+1),0,none⟩),.pointer (some ⟨(w.heap.size+2),0,none⟩),.pointer (some ⟨(w.heap.size+3),0,none⟩),.int .i64 0,x,(.agg #[.slice (some ⟨b,0,none⟩) CS.length cc,.slice pa PS.length pc,.slice sa SS.length sc,.slice ta TS.length tc]),.int .i64 0,.int .i64 0,.bool false,undef,.pointer (some ⟨w.heap.size,0,none⟩),.slice (some ⟨b,0,none⟩) CS.length cc,.pointer (some ⟨b,0*3,none⟩),(.agg #[.int .i64 ((N:Nat):Int),.slice oa on oc,.slice ra rn rc]),(.func (.func 107) #[] #[.pointer (some ⟨cb,0,none⟩)]),x,undef,undef,undef,undef],defers:=[] }) ?asg ?body ?done ?stop
  case asg =>
   intro n l x W K hK
   gi_wp2
   exact hK
  case body =>
   rintro n l t C x W hi ht B6 hsW;obtain rfl:=hi.e;obtain ⟨xm,xa,xc,Y6,rfl,-⟩:=B6.len;obtain ⟨F0,recv,hinv,iA⟩:=hi.a.th.m;obtain ⟨q,hq⟩:∃ q,Hid ((du N O R).getD t []=q):=⟨_,U rfl⟩;rw [hq.p] at B6;have GQ:=U (show Gd N q by rw [<- hq.p,List.getD_eq_getElem?_getD,List.getElem?_eq_getElem ht]; exact (Gr.dC BV.p).gd _ (((dA BV.p ew.p).2 _).1 (List.getElem_mem ht)));obtain ⟨pb,rS⟩:∃ z,Hid (Pb q=z):=⟨_,U rfl⟩;have FX:=U B6;have uX:=U hi.no;have HT:=U ht;have TT:=U hi.a;have TC:=U hi.ct;have D4:=U hi.c4;have D5:=U hi.c5;have KR:=U (Below.refl W.heap.size W);clear hi B6 ht OC OD BZ
   gi_upto_region 6 with (fail)
   refine wpIn_region_list ?_;refine Rg.ax (some 19) rfl rfl (fun _ hh=>by cases hh) (g8 (.iface ty vv) ⟨w.heap.size+1,0,none⟩ (oT TC.p.cell)) ?_;go_frame;refine Rg.ax (some 20) rfl rfl (fun _ hh=>by cases hh) (a7 (.slice xa xm xc) _ rfl rfl) ?_;go_frame;refine Rg.o8 (some 21) rfl rfl (fun _ hh=>by cases hh) _ _ (tY (recv:=recv) _ _ _ rfl rfl rfl (hinv _ _)) ?_;refine (iA W _ q TT.p.a (FX.p.ints) GQ.p).mono ?_;rintro e1 Vi ⟨rfl,hb⟩;rw [rS.p];refine ⟨_,rfl,?_⟩;go_frame;replace FX:=U (FX.p.jj hb);replace TT:=U (TT.p.jj hb);replace TC:=U (TC.p.jj hb);replace D4:=U (D4.p.jj hb);replace D5:=U (D5.p.jj hb);replace KR:=U (Rg.acc KR.p hb);clear hb
   cases pb
   case false =>
    gi_wp2
    refine ⟨_,⟨rfl,TT.p,TC.p,D4.p,D5.p,fun i hi=>?_⟩,Rg.Kp.az KR.p,fun z h=>.inl h⟩
    by_cases e:i=t
    ·rw [e,hq.p]; exact rS.p
    ·exact uX.p i (by omega)
   case true =>
    skip
    gi_upto_region 7 with (fail)
    refine wpIn_region_list ?_;refine Rg.ax (some 22) rfl rfl (fun _ hh=>by cases hh) (a7 (.slice xa xm xc) _ rfl rfl) ?_;go_frame;refine Rg.fJ none rfl rfl (fun _ hh=>by cases hh) (Rg.ai _ _ _ rfl _ rfl _ rfl (Rg.bn _ cU D4.p.c D4.p.f)) ?_;go_frame;refine Rg.fJ none rfl rfl (fun _ hh=>by cases hh) (Rg.ai _ _ _ rfl _ rfl _ rfl (cP 0 (D5.p.other (.slice xa xm xc) (b':=w.heap.size+2) (o:=0) (by omega)).c (D5.p.other (.slice xa xm xc) (b':=w.heap.size+2) (o:=0) (by omega)).f)) ?_;go_frame;have y4:=(D4.p.set (.slice xa xm xc)).other (.int .i64 0) (b':=w.heap.size+3) (o:=0) (by omega);have y5:=(D5.p.other (.slice xa xm xc) (b':=w.heap.size+2) (o:=0) (by omega)).set (.int .i64 0);have cO:Rg.Kp (fun z=>z=w.heap.size+2∨z=w.heap.size+3) Vi ((Vi.setCell ⟨w.heap.size+2,0,none⟩ (.slice xa xm xc)).setCell ⟨w.heap.size+3,0,none⟩ (.int .i64 0)):=(Rg.Kp.aL (.inl rfl)).trans (Rg.Kp.aL (.inr rfl)) (fun _ _ h=>h)
    generalize (Vi.setCell ⟨w.heap.size+2,0,none⟩ (.slice xa xm xc)).setCell ⟨w.heap.size+3,0,none⟩ (.int .i64 0)=dT at *
    gi_wp2
    exact ⟨⟨rfl,t,_,HT.p,by rw [hq.p]; exact rS.p,uX.p,y4,y5,by rw [hq.p]; exact Rg.FI.kp FX.p cO (fun _ h=>h)⟩,(Rg.Kp.az KR.p).trans cO (fun _ _ h=>h)⟩
  case stop =>
   rintro c W ⟨rfl,k,x,g1,g2,g3,g4,g5,g6⟩ hD hk;obtain ⟨xm,xa,xc,Y6,rfl,-⟩:=g6.len;have LC:=Rg.Kp.jj K.p hk (fun z hz=>by omega);go_wp2;exact RF.leaves w.heap.size [_] _ (by simp) (by intro D gH; simp at gH; subst gH; exact ⟨hD,by omega⟩) (fun W' l1 l2 _=>⟨_,gU rfl _ rfl rfl (Rg.ae _ _ Tryz.underlying27 ((l2 _).trans g4.c)) (mI ((l2 _).trans g5.c)),LC.trans l1,.inr ⟨rfl,N,O,R,Oz.p,.inr ⟨k,_,g1,g2,g3,rfl,Rg.FI.ints (eh l2 l1.size g6)⟩⟩⟩)
  case done =>
   rintro C W hi hD hk;have LC:=Rg.Kp.jj K.p hk (fun z hz=>by omega);have D4:=U hi.c4;have D5:=U hi.c5;have uX:=U hi.no;go_upto_region 8 with (fail);refine d3 ?_;refine Rg.aD none rfl rfl (Rg.ai _ _ _ rfl _ rfl _ rfl (Rg.bn _ cU D4.p.c D4.p.f)) ?_;go_frame;refine Rg.aD none rfl rfl (Rg.ai _ _ _ rfl _ rfl _ rfl (cP 18 (D5.p.other (.slice none 0 0) (b':=w.heap.size+2) (o:=0) (by omega)).c (D5.p.other (.slice none 0 0) (b':=w.heap.size+2) (o:=0) (by omega)).f)) ?_;go_frame;have y4:=(D4.p.set (.slice none 0 0)).other (.int .i64 18) (b':=w.heap.size+3) (o:=0) (by omega);have y5:=(D5.p.other (.slice none 0 0) (b':=w.heap.size+2) (o:=0) (by omega)).set (.int .i64 18);have iu:Below w.heap.size w ((W.setCell ⟨w.heap.size+2,0,none⟩ (.slice none 0 0)).setCell ⟨w.heap.size+3,0,none⟩ (.int .i64 18)):=(LC.setCell (p:=⟨w.heap.size+2,0,none⟩) (show w.heap.size<=w.heap.size+2 by omega) _).setCell (p:=⟨w.heap.size+3,0,none⟩) (show w.heap.size<=w.heap.size+3 by omega) _
   have oz:=(hD.setCell ⟨w.heap.size+2,0,none⟩ (.slice none 0 0)).setCell ⟨w.heap.size+3,0,none⟩ (.int .i64 18);generalize (W.setCell ⟨w.heap.size+2,0,none⟩ (.slice none 0 0)).setCell ⟨w.heap.size+3,0,none⟩ (.int .i64 18)=dT at *;go_wp2;exact RF.leaves w.heap.size [_] _ (by simp) (by intro D gH; simp at gH; subst gH; exact ⟨oz,by omega⟩) (fun W' l1 l2 _=>⟨_,gU rfl _ rfl rfl (Rg.ae _ _ Tryz.underlying27 ((l2 _).trans y4.c)) (mI ((l2 _).trans y5.c)),iu.trans l1,.inr ⟨rfl,N,O,R,Oz.p,.inl ⟨uX.p,rfl⟩⟩⟩)
end
section
open Go.Proofs.Ob
open Go.Proofs.Cm (Gd)
attribute [local irreducible] Go.Calls Go.wpList
structure IB (w:World) (v:Value) (l:List Int):Prop where
 i:Rg.cZ maxLen w v l
theorem IB.jj {w w':World} {v:Value} {l:List Int} (h:IB w v l) (hb:Below w.heap.size w w'):IB w' v l:=⟨Rg.cZ.jj h.i hb⟩
theorem Io (h1:1<=D) (h2:D<=64) (hl:gs.length<=16) (h:∀ s∈gs,Gd D s):Ma.fa ((D:Nat):Int) (gs.map Ma.ag)=0:=by
 unfold Ma.fa;rw [if_pos (by omega),if_pos (by rw [List.length_map]; exact hl)];exact tP h1 h2 h
end
section
open Go.Proofs.Ob
open Go.Proofs.Cm (Gd Gr ak)
attribute [local irreducible] Go.Calls Go.wpList
theorem xR (hg:∀ s∈gs,Gd d s) (h:ak d (Gr d (·∈gs)) O R) (hA:eU d gs A):dL (O.map Ma.ag)=A.length:=by
 rw [eU.len hg h hA,Ht (fun i hi=>h.len i hi) h.gK]
theorem eU.pos (h:eU d gs A):0<A.length:=List.length_pos_of_mem ((h.2 _).2 .one)
theorem rV.xS (h1:1<=N) (h2:N<=64) (hg:∀ s∈gs,Gd N s) (hc:ak N (Gr N (·∈gs)) O R):bH ((N:Nat):Int) (O.map Ma.ag) (R.map (List.map Ma.ag))=0:=rz (zY h1 h2 hg hc)
theorem qD (h1:1<=N) (h2:N<=64) (hg:∀ s∈gs,Gd N s) (hc:ak N (Gr N (·∈gs)) O R) {y:List Nat} (gy:Gd N y):e_ ((N:Nat):Int) (O.map Ma.ag) (R.map (List.map Ma.ag)) (Ma.ag y)=0 :=
 Ab (rV.xS h1 h2 hg hc) (Ma.km (by rw [Ma.ar,gy.2]; exact h1) (by rw [Ma.ar,gy.2]; exact h2) (Ma.lJ gy.1)) (by rw [Ma.ar,gy.2])
theorem B7 (hg:∀ s∈gs,Gd d s) (hA:eU d gs A):ak d (Gr d (·∈gs)) (QR A d) (QT A d):=Eu hg hA
end
section
open Go.Proofs.Ob
open Go.Proofs.Cm (Gd Gr ak ap lexLt bT St)
attribute [local irreducible] Go.Calls Go.wpList
theorem ph (h1:1<=N) (h2:N<=64) (hg:∀ s∈gs,Gd N s) (hc:ak N (Gr N (·∈gs)) O R) {y:List Nat} (gy:Gd N y) :
  pF ((N:Nat):Int) (O.map Ma.ag) (R.map (List.map Ma.ag)) (Ma.ag y)=true↔Gr N (·∈gs) y:=by
 rw [I_ (qD h1 h2 hg hc gy),decide_eq_true_iff,<- Nf (Gr.dC hg) hc gy];omega
theorem Y7 (hg:∀ s∈gs,Gd N s) {g:List Nat} (gg:Gd N g) (hn:¬ Gr N (·∈gs) g) {B:List (List Nat)} (hA:eU N gs A) (hB:eU N (gs++[g]) B):2*A.length<=B.length:=by
 have hG:=Gr.dC hg
 have hG2:bT N (Gr N (·∈gs++[g])):=Gr.dC fun s hs=>(List.mem_append.1 hs).elim (hg s) fun h=>by rw [List.mem_singleton] at h; exact h▸gg
 have hm:∀ x,x∈A->Gr N (·∈gs++[g]) x:=fun x hx=>Gr.mono (fun s hs=>List.mem_append.2 (.inl hs)) ((hA.2 x).1 hx);have uQ:Gr N (·∈gs++[g]) g:=Gr.gen g (by simp);have eJ:∀ x,x∈A->Gd N x:=fun x hx=>hG.gd x ((hA.2 x).1 hx)
 have:=d_ (l:=A++A.map fun x=>Ma.aj g x) (m:=B) (by
  rw [List.nodup_append];refine ⟨dN hA.1,?_,?_⟩
  ·rw [List.nodup_iff_pairwise_ne,List.pairwise_map]
   refine List.Pairwise.imp_of_mem ?_ (List.nodup_iff_pairwise_ne.1 (dN hA.1));intro x y hx hy Hv e
   apply Hv
   have h1:Ma.aj (Ma.aS g) (Ma.aj g x)=Ma.aj (Ma.aS g) (Ma.aj g y):=by rw [show Ma.aj g x=Ma.aj g y from e]
   rw [<- Cm.mul_assoc (Cm.aN gg) gg,<- Cm.mul_assoc (Cm.aN gg) gg,Cm.inv_mul gg,Cm.one_mul (eJ x hx),Cm.one_mul (eJ y hy)] at h1;exact h1
  ·intro x hx y hy e
   subst e;obtain ⟨z,hz,e⟩:=List.mem_map.1 hy
   apply hn
   have h1:Ma.aj (Ma.aj g z) (Ma.aS z)=g:=by
    rw [Cm.mul_assoc gg (eJ z hz),Cm.nX (eJ z hz),Cm.mul_one gg]
   rw [<- h1,e]
   exact hG.mul _ _ ((hA.2 _).1 hx) (hG.inv _ ((hA.2 z).1 hz))) (fun x hx=>by
  rcases List.mem_append.1 hx with hx | hx
  ·exact (hB.2 x).2 (hm x hx)
  ·obtain ⟨z,hz,rfl⟩:=List.mem_map.1 hx
   exact (hB.2 _).2 (hG2.mul _ _ uQ (hm z hz)))
 rw [List.length_append,List.length_map] at this;omega
structure rW (N:Nat) (LL:List (List Nat)) (Pb:List Nat->Bool) (t:Nat) (gs:List (List Nat)):Prop where
 gd:∀ s∈gs,Gd N s
 Re:∀ s∈gs,s∈LL/\Pb s=true
 Vj:∀ i,i<t->i<LL.length->Pb (LL.getD i [])=true->Gr N (·∈gs) (LL.getD i [])
 two:∃ A,eU N gs A/\2 ^ gs.length<=A.length
section
variable {N:Nat} {LL:List (List Nat)} {Pb:List Nat->Bool} {t:Nat} {gs:List (List Nat)}
theorem rW.nil (hc:ak N (Gr N (·∈([]:List (List Nat)))) O R):rW N LL Pb 0 []:=by
 have hg:∀ s∈([]:List (List Nat)),Gd N s:=fun s hs=>by simp at hs
 refine ⟨hg,fun s hs=>by simp at hs,fun i hi=>by omega,_,dA hg hc,?_⟩;have:=List.length_pos_of_mem (((dA hg hc).2 _).2 Gr.one);exact this
theorem rW.skip (h:rW N LL Pb t gs) (hq:t<LL.length->Pb (LL.getD t [])=true->Gr N (·∈gs) (LL.getD t [])):rW N LL Pb (t+1) gs :=
 ⟨h.gd,h.Re,fun i hi hl hp=>by
  by_cases e:i=t
  ·subst e; exact hq hl hp
  ·exact h.Vj i (by omega) hl hp,h.two⟩
theorem rW.push (h:rW N LL Pb t gs) (ht:t<LL.length) (hq:LL.getD t []=q) (gq:Gd N q) (hp:Pb q=true) (hn:¬ Gr N (·∈gs) q) (hc:ak N (Gr N (·∈gs++[q])) O R):rW N LL Pb (t+1) (gs++[q]):=by
 have hg:∀ s∈gs++[q],Gd N s:=fun s hs=>(List.mem_append.1 hs).elim (h.gd s) fun e=>by rw [List.mem_singleton] at e; exact e▸gq
 refine ⟨hg,fun s hs=>?_,fun i hi hl FM=>?_,_,dA hg hc,?_⟩
 ·rcases List.mem_append.1 hs with hs | hs
  ·exact h.Re s hs
  ·rw [List.mem_singleton] at hs
   subst hs;refine ⟨?_,hp⟩;rw [<- hq,List.getD_eq_getElem?_getD,List.getElem?_eq_getElem ht];exact List.getElem_mem ht
 ·by_cases e:i=t
  ·subst e; rw [hq]; exact Gr.gen q (by simp)
  ·exact Gr.mono (fun s hs=>List.mem_append.2 (.inl hs)) (h.Vj i (by omega) hl FM)
 ·obtain ⟨A,hA,h2⟩:=h.two
  have:=Y7 h.gd gq hn hA (dA hg hc);rw [List.length_append,List.length_singleton,Nat.pow_succ];omega
theorem rW.le {G0:List (List Nat)} (h0:∀ s∈G0,Gd N s) (h:rW N LL Pb t gs) (hL:eU N G0 LL) (hl:LL.length<=5040):gs.length<=12:=by
 obtain ⟨A,hA,h2⟩:=h.two;have h3:=d_ (m:=LL) (dN hA.1) fun x hx=>(hL.2 x).2 (Gr.sub (Gr.dC h0) (fun s hs=>(hL.2 s).1 (h.Re s hs).1) ((hA.2 x).1 hx));refine Nat.not_lt.1 fun hc=>?_;have h4:2 ^ 13<=2 ^ gs.length:=Nat.pow_le_pow_right (by decide) hc;omega
theorem rW.done (h:rW N LL Pb LL.length gs) {x:List Nat} (hx:x∈LL) (hp:Pb x=true):Gr N (·∈gs) x:=by
 obtain ⟨i,hi,rfl⟩:=List.getElem_of_mem hx;have:=h.Vj i hi hi;rw [List.getD_eq_getElem?_getD,List.getElem?_eq_getElem hi] at this;exact this hp
end
theorem Aq (h:Rg.aH F w v ll):Rg.aH (fun z=>F z/\z<w.heap.size) w v ll:=by
 obtain ⟨us,⟨a,cap,h1,h2,h3,h4,h5⟩,h6,h7⟩:=h;refine ⟨us,⟨a,cap,h1,h2,h3,h4,fun h0=>?_⟩,h6,fun i p q=>tT (h7 i p q)⟩;obtain ⟨b,o,e1,e2,e3,e4⟩:=h5 h0;exact ⟨b,o,e1,e2,⟨e3,e2⟩,e4⟩
theorem Ip {ll:List (List (List Int))} (h:bf F w v ll):bf (fun z=>F z/\z<w.heap.size) w v ll:=by
 obtain ⟨us,⟨a,cap,h1,h2,h3,h4,h5⟩,h6,h7⟩:=h;refine ⟨us,⟨a,cap,h1,h2,h3,h4,fun h0=>?_⟩,h6,fun i p q=>Aq (h7 i p q)⟩;obtain ⟨b,o,e1,e2,e3,e4⟩:=h5 h0;exact ⟨b,o,e1,e2,⟨e3,e2⟩,e4⟩
theorem rX (h1:1<=N) (h2:N<=64) (hl:gs.length<=4096) (hg:∀ s∈gs,Gd N s) (gv:Value) (w:World) (h:Rg.Rows w gv (gs.map Ma.ag)) :
  Calls Tryz.prog 42 #[.int .i64 ((N:Nat):Int),gv] w fun e w'=>∃ oa on oc ra rn rc O R,e=.returned (.tuple #[.agg #[.int .i64 ((N:Nat):Int),.slice oa on oc,.slice ra rn rc],.int .i64 0]) /\
   (Rg.aH (fun z=>w.heap.size<=z/\z<w'.heap.size) w' (.slice oa on oc) (O.map Ma.ag)/\bf (fun z=>w.heap.size<=z/\z<w'.heap.size) w' (.slice ra rn rc) (R.map (List.map Ma.ag))/\ak N (Gr N (·∈gs)) O R)/\Below w.heap.size w w':=by
 refine (Kw gv _ _ w h).mono ?_;rw [Ej h1 h2 hl hg]
 rintro e w' ⟨cv,rfl,(⟨hx,_⟩ | ⟨_,n,gs',e1,e2,h3,h4,ov,rv,O,R,rfl,h5,h6,h7⟩),hb⟩
 ·exact absurd rfl hx
 ·have en:n=N:=by omega
  subst en;have eg:gs'=gs:=(cH e2).symm;subst eg;obtain ⟨oa,oc,rfl,-⟩:=(aH.rows h5).shape;obtain ⟨ra,rc,rfl⟩:=(bf.rows h6).shape;exact ⟨oa,_,oc,ra,_,rc,O,R,rfl,⟨Aq h5,Ip h6,h7⟩,hb⟩
end
section
open Go.Proofs.Ob
open Go.Proofs.Cm (Gd Gr ak ap lexLt bT St)
attribute [local go_sem] Oper.semAt_some
attribute [local irreducible] Go.Calls Go.wpList Go.wpListIn
theorem B8 (args:Array Value) (w:World):(callFunc 42 args).run Tryz.prog w=.ok (.enter 42 args) w:=by kernel_rfl
def oU (b8 b9:Nat) (v:Value) (z:Nat):Prop:=z=b8∨z=b9∨v.ownBlock=some z
structure jJ (N b8 b9:Nat) (gs:List (List Nat)) (v u8 ov rv:Value) (W:World):Prop where
 row:b_ b9 (fun z=>z<W.heap.size/\¬ oU b8 b9 v z) (fun z=>z=b8∨z=b9) W v gs
 c8:CW W b8 u8
 c9:cq W b9 (.int .i64 ((N:Nat):Int)) ov rv
 ne:b8<b9
structure tZ (N b8 b9:Nat) (gs:List (List Nat)) (v ov rv:Value) (O:List (List Nat)) (R:List (List (List Nat))) (W:World):Prop where
 o:Rg.aH (fun z=>b8<=z/\z<W.heap.size/\¬ oU b8 b9 v z) W ov (O.map Ma.ag)
 r:bf (fun z=>b8<=z/\z<W.heap.size/\¬ oU b8 b9 v z) W rv (R.map (List.map Ma.ag))
 ch:ak N (Gr N (·∈gs)) O R
theorem b_.j0 {l:List (List Nat)} (h:b_ B F M W v l) (hF:∀ k,F k->F' k) (ho:∀ k,v.ownBlock=some k->¬ F' k):b_ B F' M W v l:=by
 obtain ⟨us,h1,h2⟩:=h.own;exact ⟨h.size,⟨us,h1,h2.mono hF⟩,fun k e=>⟨ho k e,(h.off k e).2⟩⟩
theorem b_.same {B:Nat} {F M:Nat->Prop} {W W':World} {v:Value} {l:List (List Nat)} (h:b_ B F M W v l) (hs:RF.iK W W'):b_ B F M W' v l:=by
 obtain ⟨us,⟨h0,h1⟩,h2,h3⟩:=h.own;refine ⟨Nat.le_trans h.size hs.size,⟨us,⟨h0,?_⟩,h2,fun i a b=>FI.same (h3 i a b) hs⟩,h.off⟩
 rcases h1 with h1 | ⟨g,cap,cur,e1,e2,e3,e4⟩
 ·exact .inl h1
 ·exact .inr ⟨g,cap,cur,e1,e2,hs.blk _ _ _ _ e3,e4⟩
theorem rY (h:Rg.aH F W v ll) (hc:∀ a,W'.cell? a=W.cell? a) (hs:W.heap.size<=W'.heap.size):Rg.aH F W' v ll:=by
 obtain ⟨us,h1,h2,h3⟩:=h;exact ⟨us,eh hc hs h1,h2,fun i a b=>eh hc hs (h3 i a b)⟩
theorem zu {ll:List (List (List Int))} (h:bf F W v ll) (hc:∀ a,W'.cell? a=W.cell? a) (hs:W.heap.size<=W'.heap.size):bf F W' v ll:=by
 obtain ⟨us,h1,h2,h3⟩:=h;exact ⟨us,eh hc hs h1,h2,fun i a b=>rY (h3 i a b) hc hs⟩
theorem kI {b8 b9 z:Nat} (h:oU b8 b9 (.slice none 0 0) z):z=b8∨z=b9:=by
 rcases h with h | h | h
 ·exact .inl h
 ·exact .inr h
 ·simp [Value.ownBlock] at h
theorem fQ (W:World) (b:Nat) (x y z:Value):Rg.Kp (fun k=>k=b) W (((W.setCell ⟨b,0,none⟩ x).setCell ⟨b,1,none⟩ y).setCell ⟨b,2,none⟩ z):=by
 have k1:Rg.Kp (fun k=>k=b) W (W.setCell ⟨b,0,none⟩ x):=Rg.Kp.aL rfl;have k2:Rg.Kp (fun k=>k=b) (W.setCell ⟨b,0,none⟩ x) ((W.setCell ⟨b,0,none⟩ x).setCell ⟨b,1,none⟩ y):=Rg.Kp.aL rfl;have k3:Rg.Kp (fun k=>k=b) ((W.setCell ⟨b,0,none⟩ x).setCell ⟨b,1,none⟩ y) (((W.setCell ⟨b,0,none⟩ x).setCell ⟨b,1,none⟩ y).setCell ⟨b,2,none⟩ z):=Rg.Kp.aL rfl;exact (k1.trans k2 (fun _ _ h=>h)).trans k3 (fun _ _ h=>h)
structure LD (w0 W:World):Prop where
 h:Below w0.heap.size w0 W
theorem LD.jj (h:LD w0 W) (hb:Below W.heap.size W W'):LD w0 W':=⟨Rg.acc h.h hb⟩
theorem lh (h:Rg.aH F W v ll) (hs:RF.iK W W'):Rg.aH F W' v ll:=by
 obtain ⟨us,h1,h2,h3⟩:=h;exact ⟨us,eh hs.cell hs.size h1,h2,fun i a b=>FI.same (h3 i a b) hs⟩
theorem rZ {ll:List (List (List Int))} (h:bf F W v ll) (hs:RF.iK W W'):bf F W' v ll:=by
 obtain ⟨us,h1,h2,h3⟩:=h;exact ⟨us,eh hs.cell hs.size h1,h2,fun i a b=>lh (h3 i a b) hs⟩
theorem cq.same {b:Nat} {x y:Value} (h:cq W b x y z) (hs:RF.iK W W'):cq W' b x y z :=
 ⟨(hs.cell _).trans h.c0,(hs.cell _).trans h.c1,(hs.cell _).trans h.c2,(hs.frozen _).trans h.f0,(hs.frozen _).trans h.f1,(hs.frozen _).trans h.f2,Nat.lt_of_lt_of_le h.lt hs.size⟩
section
variable {N b8 b9:Nat} {gs:List (List Nat)} {v u8 ov rv:Value} {O:List (List Nat)} {R:List (List (List Nat))} {W W':World}
theorem jJ.kp (h:jJ N b8 b9 gs v u8 ov rv W) {C:Nat->Prop} (hk:Rg.Kp C W W') (hC:∀ z,z<W.heap.size->¬ C z):jJ N b8 b9 gs v u8 ov rv W' :=
 ⟨(h.row.kp hk (fun z hz=>hC z hz.1) (fun z hz=>hC z (h.row.lt z hz).2)).j0 (fun z hz=>⟨Nat.lt_of_lt_of_le hz.1 hk.size,hz.2⟩) (fun z e hz=>hz.2 (.inr (.inr e))),h.c8.kp hk (hC _ h.c8.lt),h.c9.kp hk (hC _ h.c9.lt),h.ne⟩
theorem jJ.jj (h:jJ N b8 b9 gs v u8 ov rv W) (hb:Below W.heap.size W W'):jJ N b8 b9 gs v u8 ov rv W':=h.kp (C:=fun _=>False) (Rg.Kp.az hb) (fun _ _=>id)
theorem jJ.same (h:jJ N b8 b9 gs v u8 ov rv W) (hs:RF.iK W W'):jJ N b8 b9 gs v u8 ov rv W' :=
 ⟨(h.row.same hs).j0 (fun z hz=>⟨Nat.lt_of_lt_of_le hz.1 hs.size,hz.2⟩) (fun z e hz=>hz.2 (.inr (.inr e))),h.c8.same hs,h.c9.same hs,h.ne⟩
theorem tZ.jj (h:tZ N b8 b9 gs v ov rv O R W) (hb:Below W.heap.size W W'):tZ N b8 b9 gs v ov rv O R W' :=
 ⟨(h.o.kp (M:=fun _=>False) (Rg.Kp.az hb) (fun _ _=>id)).mono (fun z hz=>⟨hz.1,Nat.lt_of_lt_of_le hz.2.1 hb.size,hz.2.2⟩),bf.mono (h.r.kp (M:=fun _=>False) (Rg.Kp.az hb) (fun _ _=>id)) (fun z hz=>⟨hz.1,Nat.lt_of_lt_of_le hz.2.1 hb.size,hz.2.2⟩),h.ch⟩
theorem tZ.same (h:tZ N b8 b9 gs v ov rv O R W) (hs:RF.iK W W'):tZ N b8 b9 gs v ov rv O R W' :=
 ⟨(lh h.o hs).mono (fun z hz=>⟨hz.1,Nat.lt_of_lt_of_le hz.2.1 hs.size,hz.2.2⟩),bf.mono (rZ h.r hs) (fun z hz=>⟨hz.1,Nat.lt_of_lt_of_le hz.2.1 hs.size,hz.2.2⟩),h.ch⟩
theorem jJ.sl (h:jJ N b8 b9 gs v u8 ov rv W):∃ a c,v=.slice a gs.length c:=h.row.shape
theorem tZ.ce (h:tZ N b8 b9 gs v ov rv O R W):bg W ov rv (O.map Ma.ag) (R.map (List.map Ma.ag)):=⟨aH.rows h.o,bf.rows h.r⟩
theorem jJ.push (h:jJ N b8 b9 gs v u8 ov rv W) {u:Value} {q:List Nat} (hu:Rg.FI (fun z=>¬ oU b8 b9 v z) W u (Ma.ag q)) (hs:∃ a m c,u=.slice a m c) (hn:gs.length<1000000) (ty:TypeId) :
  ∃ a c X,(Builtin.append_ #[41,41] ty #[v,.slice (some ⟨W.heap.size,0,none⟩) 1 1]).run Tryz.prog (W.alloc (.cells #[u] 27))=.ok (.slice a (gs.length+1) c) X/\jJ N b8 b9 (gs++[q]) (.slice a (gs.length+1) c) u8 ov rv X/\Rg.Kp (oU b8 b9 v) W X/\(∀ z,oU b8 b9 (.slice a (gs.length+1) c) z->oU b8 b9 v z∨W.heap.size<=z):=by
 obtain ⟨a,c,X,r1,r2,r3⟩:=h.row.push (u:=u) (x:=q) ((tT hu).mono fun z hz=>⟨hz.2,hz.1⟩) hs (fun z hz=>hz.1) (fun z hz=>by rcases hz with rfl | rfl <;> first | exact h.c8.lt | exact h.c9.lt) hn ty
 have hv8:¬ v.ownBlock=some b8:=fun e=>(h.row.off _ e).2 (.inl rfl);have hv9:¬ v.ownBlock=some b9:=fun e=>(h.row.off _ e).2 (.inr rfl);have Rf:=r2.off;refine ⟨a,c,X,r1,⟨r2.j0 (fun z hz=>⟨Nat.lt_of_lt_of_le hz.1 r3.size,fun hc=>?_⟩) (fun z e hz=>hz.2 (.inr (.inr e))),h.c8.kp r3 hv8,h.c9.kp r3 hv9,h.ne⟩,r3.iR fun z e=>.inr (.inr e),fun z hz=>?_⟩
 ·rcases hc with hc | hc | hc
  ·exact hz.2 (.inl hc)
  ·exact hz.2 (.inr (.inl hc))
  ·exact (Rf z hc).1 hz
 ·rcases hz with hz | hz | hz
  ·exact .inl (.inl hz)
  ·exact .inl (.inr (.inl hz))
  ·by_cases e:v.ownBlock=some z
   ·exact .inl (.inr (.inr e))
   ·refine .inr (Nat.not_lt.1 fun aE=>(Rf z hz).1 ⟨aE,?_⟩)
    rintro (g | g | g)
    ·exact (Rf z hz).2 (.inl g)
    ·exact (Rf z hz).2 (.inr g)
    ·exact e g
theorem jJ.Y8 (h:jJ N b8 b9 gs v u8 ov rv W) (u:Value):jJ N b8 b9 gs v u ov rv (W.setCell ⟨b8,0,none⟩ u) :=
 have hk:Rg.Kp (fun z=>z=b8) W (W.setCell ⟨b8,0,none⟩ u):=Rg.Kp.aL rfl;have hne:=h.ne
 ⟨(h.row.kp hk (fun z hz e=>hz.2 (.inl e)) (fun z e e2=>(h.row.off z e).2 (.inl e2))).j0 (fun z hz=>⟨Nat.lt_of_lt_of_le hz.1 hk.size,hz.2⟩) (fun z e hz=>hz.2 (.inr (.inr e))),h.c8.set u,h.c9.kp hk (by omega),hne⟩
theorem jJ.Y9 (h:jJ N b8 b9 gs v u8 ov rv W) (y z:Value):jJ N b8 b9 gs v u8 y z (((W.setCell ⟨b9,0,none⟩ (.int .i64 ((N:Nat):Int))).setCell ⟨b9,1,none⟩ y).setCell ⟨b9,2,none⟩ z)/\Rg.Kp (fun z=>z=b9) W (((W.setCell ⟨b9,0,none⟩ (.int .i64 ((N:Nat):Int))).setCell ⟨b9,1,none⟩ y).setCell ⟨b9,2,none⟩ z) :=
 have hk:=fQ W b9 (.int .i64 ((N:Nat):Int)) y z;have hne:=h.ne
 ⟨⟨(h.row.kp hk (fun z hz e=>hz.2 (.inr (.inl e))) (fun z e e2=>(h.row.off z e).2 (.inr e2))).j0 (fun z hz=>⟨Nat.lt_of_lt_of_le hz.1 hk.size,hz.2⟩) (fun z e hz=>hz.2 (.inr (.inr e))),h.c8.kp hk (by omega),h.c9.set _ _ _,hne⟩,hk⟩
theorem tZ.mk9 (hM:∀ z,oU b8 b9 v z->z<B) (h8:b8<=B) {W1:World} (ho:Rg.aH (fun z=>B<=z/\z<W.heap.size) W ov (O.map Ma.ag)) (hr:bf (fun z=>B<=z/\z<W.heap.size) W rv (R.map (List.map Ma.ag))) (hc:ak N (Gr N (·∈gs)) O R) (hk:Rg.Kp (fun z=>z=b9) W W1):tZ N b8 b9 gs v ov rv O R W1 :=
 have h9:=hM b9 (.inr (.inl rfl))
 ⟨(ho.kp hk (fun z hz e=>by omega)).mono fun z hz=>⟨by omega,Nat.lt_of_lt_of_le hz.2 hk.size,fun hC=>by have:=hM z hC; omega⟩,bf.mono (hr.kp hk (fun z hz e=>by omega)) fun z hz=>⟨by omega,Nat.lt_of_lt_of_le hz.2 hk.size,fun hC=>by have:=hM z hC; omega⟩,hc⟩
theorem jJ.lt (h:jJ N b8 b9 gs v u8 ov rv W):∀ z,oU b8 b9 v z->z<W.heap.size:=fun z hz=>by
 rcases hz with rfl | rfl | e
 ·exact h.c8.lt
 ·exact h.c9.lt
 ·exact (h.row.lt z e).2
theorem jJ.ge (h:jJ N b8 b9 gs v u8 ov rv W) (h8:B<=b8):∀ z,oU b8 b9 v z->B<=z:=fun z hz=>by
 have:=h.ne
 rcases hz with rfl | rfl | e
 ·omega
 ·omega
 ·have:=(h.row.lt z e).1; omega
end
theorem Jp {b:Nat} {x y:Value} (h:cq W b x y z) (hc:∀ a,W'.cell? a=W.cell? a) (hf:∀ a,W'.frozen? a=W.frozen? a) (hs:W.heap.size<=W'.heap.size):cq W' b x y z :=
 ⟨(hc _).trans h.c0,(hc _).trans h.c1,(hc _).trans h.c2,(hf _).trans h.f0,(hf _).trans h.f1,(hf _).trans h.f2,Nat.lt_of_lt_of_le h.lt hs⟩
theorem OE {c:fj} (h:zt c N O R) (h0:rT c=0):(du N O R).length<=5040:=by
 obtain ⟨e1,_,_,e2,_⟩:=h;unfold rT at h0;rw [e1,e2,kF,Int.toNat_natCast] at h0;unfold du;rw [List.length_map,List.length_range]
 by_cases h:bR O N N<=5040
 ·exact h
 ·rw [if_neg h] at h0; exact absurd h0 (by decide)
structure QtI (N:Nat) (LL:List (List Nat)) (Pb:List Nat->Bool) (Fk:Nat->Prop) (A:World->Prop) (Bt B4 b7 b8 b9 B0:Nat) (tv:Value) (t:Nat) (C:Nat->Prop) (W:World):Prop where
 a:kH N tv Pb Fk A W
 ct:CL W Bt 0 tv
 c7:CL W b7 0 (.int .i64 ((N:Nat):Int))
 c4:cq W B4 (.int .i64 0) (.slice none 0 0) (.slice none 0 0)
 Rh:∀ z,C z->z<B0∨B0+2<=z
 x:∃ (v:Value) (gs:List (List Nat)) (oa:Option Addr) (on oc:Nat) (ra:Option Addr) (rn rc:Nat) (O:List (List Nat)) (R:List (List (List Nat))),C=oU b8 b9 v/\rW N LL Pb t gs/\jJ N b8 b9 gs v v (.slice oa on oc) (.slice ra rn rc) W/\tZ N b8 b9 gs v (.slice oa on oc) (.slice ra rn rc) O R W
def Y_ (N:Nat) (LL:List (List Nat)) (Pb:List Nat->Bool) (w:World) (e:Ending) (w':World):Prop :=
 ∃ (gs:List (List Nat)) (oa:Option Addr) (on oc:Nat) (ra:Option Addr) (rn rc:Nat) (O:List (List Nat)) (R:List (List (List Nat))),e=.returned (.tuple #[.agg #[.int .i64 ((N:Nat):Int),.slice oa on oc,.slice ra rn rc],.int .i64 0])/\Rg.aH (fun z=>w.heap.size<=z) w' (.slice oa on oc) (O.map Ma.ag)/\bf (fun z=>w.heap.size<=z) w' (.slice ra rn rc) (R.map (List.map Ma.ag))/\ak N (Gr N (·∈gs)) O R/\(∀ s∈gs,s∈LL/\Pb s=true)/\∀ x,x∈LL->Pb x=true->Gr N (·∈gs) x
def fe (ck:Int) (c0:fj) (Pb:List Nat->Bool) (w:World) (e:Ending) (w':World):Prop:=Below w.heap.size w w' /\
 ((ck≠0/\e=.returned (.tuple #[.agg #[.int .i64 0,.slice none 0 0,.slice none 0 0],.int .i64 ck]))∨(ck=0/\∃ N O R,zt c0 N O R/\Y_ N (du N O R) Pb w e w'))
theorem jK {b cc:Nat} {CS:List fj} {ET EU EV:Value} {SS TS:List (List Int)} (hC:nN b CS w) (h1:1<=CS.length) (lr:CS.length<=100) (hP:Rg.Rows w ET PS) (v8:PS.length<=100) (hS:Rg.Rows w EU SS) (jl:SS.length<=100) (jt:∀ s∈SS,s.length<=100) (hT:Rg.Rows w EV TS) (A8:TS.length<=100) (qC:∀ s∈TS,s.length<=100) (hn:(CS[0]'(by omega)).1<=12)
  {ty:TypeId} {vv:Value} {Pb:List Nat->Bool} {A:World->Prop} (BS:f_ (CS[0]'(by omega)).1 CS PS SS TS (CS[0]'(by omega))=0->kH (CS[0]'(by omega)).1.toNat (.iface ty vv) Pb Fk A w/\∀ z,Fk z->z<w.heap.size) :
  Calls Tryz.prog 52 #[.agg #[.slice (some ⟨b,0,none⟩) CS.length cc,ET,EU,EV],.iface ty vv] w (fe (f_ (CS[0]'(by omega)).1 CS PS SS TS (CS[0]'(by omega))) (CS[0]'(by omega)) Pb w):=by
 obtain ⟨pa,pc,rfl,-⟩:=hP.shape;obtain ⟨sa,sc,rfl,-⟩:=hS.shape;obtain ⟨ta,tc,rfl,-⟩:=hT.shape;obtain ⟨ck,dU⟩:∃ z,Hid (f_ (CS[0]'(by omega)).1 CS PS SS TS (CS[0]'(by omega))=z):=⟨_,U rfl⟩;rw [dU.p] at BS ⊢;obtain ⟨c0,dK⟩:∃ c,Hid (CS[0]'(by omega)=c):=⟨_,U rfl⟩;rw [dK.p] at BS ⊢;have Oy:=U BS;have HN:=U hn;have HC:=U hC;have BU:=U hC;have RP:=U (jX.mk hP);have bM:=U (jX.mk hS);have RT:=U (jX.mk hT);have tX:=U jt;have rA:=U qC;have K:=U (Below.refl w.heap.size w);have AY:w.heap.size=w.heap.size+0:=rfl;clear hC hP hS hT jt qC hn BS;refine RF.fX Tryz.func52 rfl ?_;simp only [Tryz.ntmps52,List.size_toArray,List.length_cons,List.length_nil,Nat.reduceAdd,Nat.reduceSub,Array.replicate_succ,Array.replicate_zero,List.push_toArray,List.append_toArray,List.nil_append,List.cons_append];go_upto_region 0 with (fail)
 refine d3 ?_;have aQ:=BM w (.slice (some ⟨b,0,none⟩) CS.length cc) (.slice pa PS.length pc) (.slice sa SS.length sc) (.slice ta TS.length tc) 73
 have hs:(w.alloc (.cells #[.slice (some ⟨b,0,none⟩) CS.length cc,.slice pa PS.length pc,.slice sa SS.length sc,.slice ta TS.length tc] 73)).heap.size=w.heap.size+1:=by simp
 refine d4 2 (Rg.bq _ _ rfl rfl) ?_;go_frame;have hb:=(Below.refl w.heap.size w).alloc (Nat.le_refl _) (.cells #[.slice (some ⟨b,0,none⟩) CS.length cc,.slice pa PS.length pc,.slice sa SS.length sc,.slice ta TS.length tc] 73);generalize w.alloc (.cells #[.slice (some ⟨b,0,none⟩) CS.length cc,.slice pa PS.length pc,.slice sa SS.length sc,.slice ta TS.length tc] 73)=w1 at *;replace HC:=U (HC.p.jj hb);replace RP:=U (RP.p.jj hb);replace bM:=U (bM.p.jj hb);replace RT:=U (RT.p.jj hb);replace K:=U (Rg.acc K.p hb);clear hb;have B0:=U aQ.1;have B1:=U aQ.2.1;have B2:=U aQ.2.2.1;have B3:=U aQ.2.2.2
 have mq:w1.heap.size=w.heap.size+1:=by omega
 clear aQ hs;have cD:=CW.new w1 (.iface ty vv) 110
 have hs:(w1.alloc (.cells #[.iface ty vv] 110)).heap.size=w1.heap.size+1:=by simp
 refine d4 3 (hZ (v:=.iface ty vv) _ _ rfl rfl rfl) ?_;go_frame;have hb:=(Below.refl w1.heap.size w1).alloc (Nat.le_refl _) (.cells #[.iface ty vv] 110);generalize w1.alloc (.cells #[.iface ty vv] 110)=w2 at *;replace HC:=U (HC.p.jj hb);replace RP:=U (RP.p.jj hb);replace bM:=U (bM.p.jj hb);replace RT:=U (RT.p.jj hb);replace B0:=U (B0.p.jj hb);replace B1:=U (B1.p.jj hb);replace B2:=U (B2.p.jj hb);replace B3:=U (B3.p.jj hb);replace K:=U (Rg.acc K.p hb);clear hb;have BT:=U cD;rw [mq] at BT ⊢
 have iD:w2.heap.size=w.heap.size+2:=by omega
 clear cD hs;have cD:=cq.new w2 (.int .i64 0) (.slice none 0 0) (.slice none 0 0)
 have hs:(w2.alloc (.cells #[.int .i64 0,.slice none 0 0,.slice none 0 0] 25)).heap.size=w2.heap.size+1:=by simp
 refine d4 4 (bw rfl) ?_;go_frame;have hb:=(Below.refl w2.heap.size w2).alloc (Nat.le_refl _) (.cells #[.int .i64 0,.slice none 0 0,.slice none 0 0] 25);generalize w2.alloc (.cells #[.int .i64 0,.slice none 0 0,.slice none 0 0] 25)=w3 at *;replace HC:=U (HC.p.jj hb);replace RP:=U (RP.p.jj hb);replace bM:=U (bM.p.jj hb);replace RT:=U (RT.p.jj hb);replace B0:=U (B0.p.jj hb);replace B1:=U (B1.p.jj hb);replace B2:=U (B2.p.jj hb);replace B3:=U (B3.p.jj hb);replace BT:=U (BT.p.jj hb);replace K:=U (Rg.acc K.p hb);clear hb;have C4:=U cD;rw [iD] at C4 ⊢
 have Bi:w3.heap.size=w.heap.size+3:=by omega
 clear cD hs;refine d6 5 (.int .i64 ((0:Nat):Int)) ?_;go_frame;go_upto_region 1 with (fail);refine d3 ?_;refine d4 14 (g8 ((.agg #[.slice (some ⟨b,0,none⟩) CS.length cc,.slice pa PS.length pc,.slice sa SS.length sc,.slice ta TS.length tc])) ⟨w.heap.size,0,none⟩ (uG B0.p.cell B1.p.cell B2.p.cell B3.p.cell)) ?_;go_frame;refine f7 15 (aF 78 _ _ rfl rfl (Ov _ _)) ?_;refine (rU (cc:=cc) HC.p h1 lr RP.p.r v8 bM.p.r jl tX.p RT.p.r A8 rA.p HN.p).mono ?_;rintro e1 w4 ⟨rfl,hb⟩;rw [dU.p];refine ⟨_,rfl,?_⟩;go_frame;replace HC:=U (HC.p.jj hb);replace RP:=U (RP.p.jj hb);replace bM:=U (bM.p.jj hb);replace RT:=U (RT.p.jj hb);replace B0:=U (B0.p.jj hb);replace B1:=U (B1.p.jj hb);replace B2:=U (B2.p.jj hb);replace B3:=U (B3.p.jj hb);replace BT:=U (BT.p.jj hb)
 replace C4:=U (C4.p.jj hb);replace K:=U (Rg.acc K.p hb);clear hb;refine d6 6 (.int .i64 ck) ?_;go_frame;have xi:=U (show w.heap.size+3<=w4.heap.size by have:=C4.p.lt; omega);clear AY mq iD Bi
 by_cases hz:ck=0
 case neg =>
  skip
  go_upto_region 2 with (fail);refine d3 ?_;refine d5 16 (.int .i64 ck) ?_;go_frame;refine d4 17 (g9 (.bool true) .neq (h:=aU _ (decide_eq_true hz))) ?_;go_frame;go_upto_region 3 with (fail);refine d3 ?_;refine d4 18 (ep rfl) ?_;go_frame;refine d5 19 (.int .i64 ck) ?_;go_frame;refine Rg.aD none rfl rfl (Rg.ai _ _ _ rfl _ rfl _ rfl (aW _ _ _ _ _ _ _ C4.p)) ?_;go_frame;have y4:=C4.p.set (.int .i64 0) (.slice none 0 0) (.slice none 0 0);have hk:Below w.heap.size w (((w4.setCell ⟨w.heap.size+2,0,none⟩ (.int .i64 0)).setCell ⟨w.heap.size+2,1,none⟩ (.slice none 0 0)).setCell ⟨w.heap.size+2,2,none⟩ (.slice none 0 0)):=((K.p.setCell (p:=⟨w.heap.size+2,0,none⟩) (show w.heap.size<=w.heap.size+2 by omega) _).setCell (p:=⟨w.heap.size+2,1,none⟩) (show w.heap.size<=w.heap.size+2 by omega) _).setCell (p:=⟨w.heap.size+2,2,none⟩) (show w.heap.size<=w.heap.size+2 by omega) _
  generalize ((w4.setCell ⟨w.heap.size+2,0,none⟩ (.int .i64 0)).setCell ⟨w.heap.size+2,1,none⟩ (.slice none 0 0)).setCell ⟨w.heap.size+2,2,none⟩ (.slice none 0 0)=w5 at *;refine d6 5 (.int .i64 ck) ?_;go_frame;go_wp2;exact RF.leaves w.heap.size [] _ (by simp) (by simp) (fun W' l1 l2 l3=>⟨_,bz rfl _ rfl rfl (Jp y4 l2 l3 l1.size),hk.trans l1,.inl ⟨hz,rfl⟩⟩)
 case pos =>
  subst hz;go_upto_region 2 with (fail);refine d3 ?_;refine d5 16 (.int .i64 0) ?_;go_frame;refine d4 17 (g9 (.bool false) .neq (h:=aU _ f9)) ?_;go_frame;obtain ⟨bs,dI,Ve,Vf,Vg,Rc⟩:=gl dU.p;obtain ⟨N,O,R,en,bQ,cC,eo,er,cK,hH⟩:=fL (l_ bs _ (List.getElem_mem (show 0<CS.length by omega)));obtain ⟨AO,aE⟩:=Oy.p rfl;have Vh:=U aE;have Oz:=U (show zt c0 N O R from by rw [<- dK.p]; exact ⟨en,bQ,cC,eo,er,cK,hH⟩)
  have OA:(CS[0]'(by omega)).1.toNat=N:=by rw [en]; simp
  have TH:=U (show kH N (.iface ty vv) Pb Fk A w from by rw [<- OA,dK.p]; exact AO);replace TH:=U (TH.p.jj K.p);have ew:=U cK;have BV:=U hH;have y8:=U (OE Oz.p (by rw [<- dK.p]; exact Rc));obtain ⟨oa,on,oc,ra,rn,rc,q0,q1,q2,q3⟩:=BU.p.at_ 0 (by omega);rw [en] at q0;rw [eo,er] at q3;have tV:=jI ((K.p.cell (p:=⟨b,0*3,none⟩) BU.p.lt).trans q0) ((K.p.cell (p:=⟨b,0*3+1,none⟩) BU.p.lt).trans q1) ((K.p.cell (p:=⟨b,0*3+2,none⟩) BU.p.lt).trans q2);have OB:=U q3;clear q0 q1 q2 q3 bs dI Ve Vf Vg Rc aE AO OA en eo er cK hH Oy;go_upto_region 4 with (fail);refine d3 ?_;refine d4 20 (af _ rfl rfl (uF _ _)) ?_;go_frame;refine d4 21 (g8 (.slice (some ⟨b,0,none⟩) CS.length cc) ⟨w.heap.size,0,none⟩ (Rg.ae _ _ Tryz.underlying71 B0.p.cell)) ?_;go_frame;refine d4 22 (bD _ _ rfl Tryz.underlying71 l9 b (CS.length) (cc) (0) rfl rfl (by omega)) ?_;go_frame
  refine d4 23 (Rg.fq (v:=(.agg #[.int .i64 ((N:Nat):Int),.slice oa on oc,.slice ra rn rc])) _ _ rfl ⟨b,0*3,none⟩ rfl tV) ?_;go_frame;refine d4 7 (bw rfl) ?_;go_frame;refine Rg.aD none rfl rfl (Rg.ai _ _ _ rfl _ rfl _ rfl (aW _ _ _ _ _ _ _ (cq.new w4 (.int .i64 0) (.slice none 0 0) (.slice none 0 0)))) ?_;go_frame;have jH:=(cq.new w4 (.int .i64 0) (.slice none 0 0) (.slice none 0 0)).set (.int .i64 ((N:Nat):Int)) (.slice oa on oc) (.slice ra rn rc);have hb:=((((Below.refl w4.heap.size w4).alloc (Nat.le_refl _) (.cells #[.int .i64 0,.slice none 0 0,.slice none 0 0] 25)).setCell (p:=⟨w4.heap.size,0,none⟩) (Nat.le_refl _) (.int .i64 ((N:Nat):Int))).setCell (p:=⟨w4.heap.size,1,none⟩) (Nat.le_refl _) (.slice oa on oc)).setCell (p:=⟨w4.heap.size,2,none⟩) (Nat.le_refl _) (.slice ra rn rc);generalize (((w4.alloc (.cells #[.int .i64 0,.slice none 0 0,.slice none 0 0] 25)).setCell ⟨w4.heap.size,0,none⟩ (.int .i64 ((N:Nat):Int))).setCell ⟨w4.heap.size,1,none⟩ (.slice oa on oc)).setCell ⟨w4.heap.size,2,none⟩ (.slice ra rn rc)=eV at *
  replace HC:=U (HC.p.jj hb);replace RP:=U (RP.p.jj hb);replace bM:=U (bM.p.jj hb);replace RT:=U (RT.p.jj hb);replace B0:=U (B0.p.jj hb);replace B1:=U (B1.p.jj hb);replace B2:=U (B2.p.jj hb);replace B3:=U (B3.p.jj hb);replace BT:=U (BT.p.jj hb);replace C4:=U (C4.p.jj hb);replace TH:=U (TH.p.jj hb);replace K:=U (Rg.acc K.p hb);clear hb;have T7:=U jH;clear jH;clear tV;have h7:w.heap.size+3<=w4.heap.size:=xi.p;have h78:w4.heap.size<eV.heap.size:=T7.p.lt;go_upto_region 5 with (fail);refine d3 ?_;have cD:=CW.new eV (.slice none 0 0) 41;refine d4 8 (lB rfl) ?_;go_frame;have hb:=(Below.refl eV.heap.size eV).alloc (Nat.le_refl _) (.cells #[.slice none 0 0] 41);generalize eV.alloc (.cells #[.slice none 0 0] 41)=vz at *;replace HC:=U (HC.p.jj hb);replace RP:=U (RP.p.jj hb)
  replace bM:=U (bM.p.jj hb);replace RT:=U (RT.p.jj hb);replace B0:=U (B0.p.jj hb);replace B1:=U (B1.p.jj hb);replace B2:=U (B2.p.jj hb);replace B3:=U (B3.p.jj hb);replace BT:=U (BT.p.jj hb);replace C4:=U (C4.p.jj hb);replace TH:=U (TH.p.jj hb);replace T7:=U (T7.p.jj hb);replace K:=U (Rg.acc K.p hb);clear hb;have C8:=U cD;clear cD;have Za:=U (show eV.heap.size<vz.heap.size from C8.p.lt);go_upto_region 6 with (fail);refine d3 ?_;refine d4 25 (af _ rfl rfl (gP _ _)) ?_;go_frame;refine d4 26 (g8 (.int .i64 ((N:Nat):Int)) ⟨w4.heap.size,0,none⟩ (ah T7.p.c0)) ?_;go_frame;refine f7 27 (aw 42 _ _ _ rfl rfl rfl (B8 _ _)) ?_;refine (rX bQ cC (gs:=[]) (by simp) (fun s hs=>by simp at hs) (.slice none 0 0) vz (cV _)).mono ?_;rintro e1 fk ⟨ma,mn,mc,na,nn,nc,O0,R0,rfl,gB,hb⟩
  have OG:=U gB;clear gB;have HY0:=U hb.size;have EX:LD fk fk:=⟨Below.refl _ _⟩;refine ⟨_,rfl,?_⟩;go_frame;replace HC:=U (HC.p.jj hb);replace RP:=U (RP.p.jj hb);replace bM:=U (bM.p.jj hb);replace RT:=U (RT.p.jj hb);replace B0:=U (B0.p.jj hb);replace B1:=U (B1.p.jj hb);replace B2:=U (B2.p.jj hb);replace B3:=U (B3.p.jj hb);replace BT:=U (BT.p.jj hb);replace C4:=U (C4.p.jj hb);replace TH:=U (TH.p.jj hb);replace T7:=U (T7.p.jj hb);replace C8:=U (C8.p.jj hb);replace K:=U (Rg.acc K.p hb);clear hb;have KY:=U EX;refine d5 24 ((.tuple #[.agg #[.int .i64 ((N:Nat):Int),.slice ma mn mc,.slice na nn nc],.int .i64 0])) ?_;go_frame;refine d4 28 (i6 (.agg #[.int .i64 ((N:Nat):Int),.slice ma mn mc,.slice na nn nc])) ?_;go_frame;refine d4 29 (i6 (.int .i64 0)) ?_;go_frame
  refine d4 9 (bw rfl) ?_;go_frame;refine Rg.aD none rfl rfl (Rg.ai _ _ _ rfl _ rfl _ rfl (aW _ _ _ _ _ _ _ (cq.new fk (.int .i64 0) (.slice none 0 0) (.slice none 0 0)))) ?_;go_frame;have jH:=(cq.new fk (.int .i64 0) (.slice none 0 0) (.slice none 0 0)).set (.int .i64 ((N:Nat):Int)) (.slice ma mn mc) (.slice na nn nc);have hb:=((((Below.refl fk.heap.size fk).alloc (Nat.le_refl _) (.cells #[.int .i64 0,.slice none 0 0,.slice none 0 0] 25)).setCell (p:=⟨fk.heap.size,0,none⟩) (Nat.le_refl _) (.int .i64 ((N:Nat):Int))).setCell (p:=⟨fk.heap.size,1,none⟩) (Nat.le_refl _) (.slice ma mn mc)).setCell (p:=⟨fk.heap.size,2,none⟩) (Nat.le_refl _) (.slice na nn nc);generalize (((fk.alloc (.cells #[.int .i64 0,.slice none 0 0,.slice none 0 0] 25)).setCell ⟨fk.heap.size,0,none⟩ (.int .i64 ((N:Nat):Int))).setCell ⟨fk.heap.size,1,none⟩ (.slice ma mn mc)).setCell ⟨fk.heap.size,2,none⟩ (.slice na nn nc)=Zb at *
  replace HC:=U (HC.p.jj hb);replace RP:=U (RP.p.jj hb);replace bM:=U (bM.p.jj hb);replace RT:=U (RT.p.jj hb);replace B0:=U (B0.p.jj hb);replace B1:=U (B1.p.jj hb);replace B2:=U (B2.p.jj hb);replace B3:=U (B3.p.jj hb);replace BT:=U (BT.p.jj hb);replace C4:=U (C4.p.jj hb);replace TH:=U (TH.p.jj hb);replace T7:=U (T7.p.jj hb);replace C8:=U (C8.p.jj hb);replace KY:=U (KY.p.jj hb);replace K:=U (Rg.acc K.p hb);clear hb;have T9:=U jH;clear jH;refine d6 10 (.int .i64 0) ?_;go_frame;clear EX;have Zc:=U (show eV.heap.size<fk.heap.size from Nat.lt_of_lt_of_le Za.p HY0.p);have HB9:=U (show fk.heap.size<=fk.heap.size from Nat.le_refl _);have T9L:=U T9.p.lt;go_upto_region 7 with (fail);refine d3 ?_;refine d4 30 (g8 ((.agg #[.int .i64 ((N:Nat):Int),.slice oa on oc,.slice ra rn rc])) ⟨w4.heap.size,0,none⟩ (aM T7.p.c0 T7.p.c1 T7.p.c2)) ?_;go_frame
  refine f7 31 (aF 79 _ _ rfl rfl (Ow _ _)) ?_;refine (uH (((N:Nat):Int)) (.slice oa on oc) (.slice ra rn rc) Zb).mono ?_;rintro e1 zw ⟨cb,Y5,rfl,wK,hb⟩;refine ⟨_,rfl,?_⟩;go_frame;replace HC:=U (HC.p.jj hb);replace RP:=U (RP.p.jj hb);replace bM:=U (bM.p.jj hb);replace RT:=U (RT.p.jj hb);replace B0:=U (B0.p.jj hb);replace B1:=U (B1.p.jj hb);replace B2:=U (B2.p.jj hb);replace B3:=U (B3.p.jj hb);replace BT:=U (BT.p.jj hb);replace C4:=U (C4.p.jj hb);replace TH:=U (TH.p.jj hb);replace T7:=U (T7.p.jj hb);replace C8:=U (C8.p.jj hb);replace KY:=U (KY.p.jj hb);replace T9:=U (T9.p.jj hb);replace K:=U (Rg.acc K.p hb);clear hb;have E0:=U wK.1;have E1:=U wK.2.1;have E2:=U wK.2.2;clear wK;have h89:eV.heap.size<fk.heap.size:=Zc.p;have h79:w4.heap.size<eV.heap.size:=h78
  have h9c:fk.heap.size<cb:=Nat.lt_of_lt_of_le T9L.p Y5;have pB:cb<zw.heap.size:=E0.p.lt;have BZ:=U (Rg.Kp.az (M:=fun _=>False) K.p);have OC:Rg.aH (fun z=>z<zw.heap.size/\¬ oU eV.heap.size fk.heap.size (.slice none 0 0) z) zw (.slice oa on oc) (O.map Ma.ag):=((Rg.aH.pz OB.p.1).kp BZ.p (fun _ _=>id)).mono (fun z hz=>⟨by have:=K.p.size; omega,fun hc=>by have:=kI hc; omega⟩);have OD:bf (fun z=>z<zw.heap.size/\¬ oU eV.heap.size fk.heap.size (.slice none 0 0) z) zw (.slice ra rn rc) (R.map (List.map Ma.ag)):=((lg OB.p.2).kp BZ.p (fun _ _=>id)).mono (fun z hz=>⟨by have:=K.p.size; omega,fun hc=>by have:=kI hc; omega⟩);have Zd:jJ N eV.heap.size fk.heap.size [] (.slice none 0 0) (.slice none 0 0) (.slice ma mn mc) (.slice na nn nc) zw:=⟨b_.nil _ _ _ _ (Nat.le_of_lt T9.p.lt),C8.p,T9.p,h89⟩
  have Vk:tZ N eV.heap.size fk.heap.size [] (.slice none 0 0) (.slice ma mn mc) (.slice na nn nc) O0 R0 zw:=by
   obtain ⟨g1,g2,g3⟩:=OG.p;have hsY:=KY.p.h.size;have Ql:=Za.p;have hB9:=HB9.p;exact ⟨(g1.kp (M:=fun _=>False) (Rg.Kp.az KY.p.h) (fun _ _=>id)).mono (fun z hz=>⟨by omega,by omega,fun hc=>by have:=kI hc; omega⟩),bf.mono (g2.kp (M:=fun _=>False) (Rg.Kp.az KY.p.h) (fun _ _=>id)) (fun z hz=>⟨by omega,by omega,fun hc=>by have:=kI hc; omega⟩),g3⟩
  go_wp2
  refine xL bQ cC (Gr.dC BV.p) ew.p (cb:=cb) (by exact rfl) (by exact rfl) (F:=fun z=>z<zw.heap.size/\¬ oU eV.heap.size fk.heap.size (.slice none 0 0) z) (C0:=oU eV.heap.size fk.heap.size (.slice none 0 0)) ⟨pB,fun hc=>by have:=kI hc; omega⟩ E0.p.cell E1.p.cell E2.p.cell OC OD (fun z hz=>hz.1) (fun z hz=>hz.2)
   (QtI N (du N O R) Pb Fk A (w.heap.size+1) (w.heap.size+2) w4.heap.size eV.heap.size fk.heap.size zw.heap.size (.iface ty vv)) (fun _ _=>False)
   (fun t C W W' h hb=>⟨h.a.jj hb,h.ct.jj hb,h.c7.jj hb,h.c4.jj hb,h.Rh,by obtain ⟨v,gs,o1,o2,o3,r1,r2,r3,O1,R1,e,g,m,d⟩:=h.x; exact ⟨v,gs,o1,o2,o3,r1,r2,r3,O1,R1,e,g,m.jj hb,d.jj hb⟩⟩)
   (fun t C W W' h hb=>⟨h.a.same hb,h.ct.same hb,h.c7.same hb,h.c4.same hb,h.Rh,by obtain ⟨v,gs,o1,o2,o3,r1,r2,r3,O1,R1,e,g,m,d⟩:=h.x; exact ⟨v,gs,o1,o2,o3,r1,r2,r3,O1,R1,e,g,m.same hb,d.same hb⟩⟩)
   (fun _ _ _ h _=>h) (fun t C W h z hz=>by
    have hf:=h.Rh z hz;obtain ⟨v,gs,o1,o2,o3,r1,r2,r3,O1,R1,e,g,m,d⟩:=h.x;rw [e] at hz
    exact ⟨m.lt z hz,by omega,by omega⟩)
   ⟨TH.p,CL.mk BT.p.c BT.p.lt,CL.mk T7.p.c0 T7.p.lt,C4.p,fun z hz=>by have:=kI hz; exact .inl (by omega),⟨_,_,_,_,_,_,_,_,_,_,rfl,rW.nil Vk.ch,Zd,Vk⟩⟩ (fun x=>{ tmps:=#[(.agg #[.slice (some ⟨b,0,none⟩) CS.length cc,.slice pa PS.length pc,.slice sa SS.length sc,.slice ta TS.length tc]),.iface ty vv,.pointer (some ⟨w.heap.size,0,none⟩),.pointer (some ⟨(w.heap.size+1),0,none⟩),.pointer (some ⟨(w.heap.size+2),0,none⟩),.int .i64 ((0:Nat):Int),.int .i64 0,.pointer (some ⟨w4.heap.size,0,none⟩),.pointer (some ⟨eV.heap.size,0,none⟩),.pointer (some ⟨fk.heap.size,0,none⟩),.int .i64 0,x,undef,undef,(.agg #[.slice (some ⟨b,0,none⟩) CS.length cc,.slice pa PS.length pc,.slice sa SS.length sc,.slice ta TS.length tc]),.int .i64 0,.int .i64 0,.bool false,undef,undef,.pointer (some ⟨w.heap.size,0,none⟩),.slice (some ⟨b,0,none⟩) CS.length cc,.pointer (some ⟨b,0*3,none⟩),(.agg #[.int .i64 ((N:Nat):Int),.slice oa on oc,.slice ra rn rc]),(.tuple #[.agg #[.int .i64 ((N:Nat):Int),.slice ma mn mc,.slice na nn nc],.int .i64 0]),.pointer (some ⟨w4.heap.size,0,none⟩),.int .i64 ((N:Nat):Int),(.tuple #[.agg #[.int .i64 ((N:Nat):Int),.slice ma mn mc,.slice na nn nc],.int .i64 0]),(.agg #[.int .i64 ((N:Nat):Int),.slice ma mn mc,.slice na nn nc]),.int .i64 0,(.agg #[.int .i64 ((N:Nat):Int),.slice oa on oc,.slice ra rn rc]),(.func (.func 107) #[] #[.pointer (some ⟨cb,0,none⟩)]),x,undef,undef,undef,undef,undef,undef,undef,undef,undef,undef,undef,undef,undef,undef,undef,undef,undef,undef,undef,undef,undef,undef,undef,undef],defers:=[] }) ?asg ?body ?done (fun _ _ hx=>hx.elim)
  case asg =>
   intro n l x W K hK
   gi_wp2
   exact hK
  case body =>
   rintro n l t C x W hi ht B6 hsW;obtain ⟨v,gs,o1,o2,o3,r1,r2,r3,O1,R1,rfl,hg,hm,hd⟩:=hi.x;obtain ⟨va,vc,rfl⟩:=hm.sl;obtain ⟨xm,xa,xc,Y6,rfl,-⟩:=B6.len;obtain ⟨F0,recv,hinv,iA⟩:=hi.a.th.m;obtain ⟨q,hq⟩:∃ q,Hid ((du N O R).getD t []=q):=⟨_,U rfl⟩;rw [hq.p] at B6;have GQ:=U (show Gd N q by rw [<- hq.p,List.getD_eq_getElem?_getD,List.getElem?_eq_getElem ht]; exact (Gr.dC BV.p).gd _ (((dA BV.p ew.p).2 _).1 (List.getElem_mem ht)));obtain ⟨pb,rS⟩:∃ z,Hid (Pb q=z):=⟨_,U rfl⟩;obtain ⟨ib,EN⟩:∃ z,Hid (pF ((N:Nat):Int) (O1.map Ma.ag) (R1.map (List.map Ma.ag)) (Ma.ag q)=z):=⟨_,U rfl⟩;have FX:=U B6;have HG:=U hg;have zj:=U hd.ch;have OH:=U (hg.le BV.p (dA BV.p ew.p) y8.p);have HT:=U ht;have TT:=U hi.a;have TC:=U hi.ct;have C7:=U hi.c7;have D4:=U hi.c4;have PM:=U hm
   have PD:=U hd;have Vl:=U hi.Rh;have KR:=U (Below.refl W.heap.size W);clear hi B6 ht OC OD BZ Zd Vk hm hd hg
   cases pb
   case false =>
    skip
    gi_upto_region 9 with (fail)
    refine wpIn_region_list ?_;refine Rg.ax (some 33) rfl rfl (fun _ hh=>by cases hh) (g8 (.iface ty vv) ⟨w.heap.size+1,0,none⟩ (oT TC.p.cell)) ?_;go_frame;refine Rg.ax (some 34) rfl rfl (fun _ hh=>by cases hh) (a7 (.slice xa xm xc) _ rfl rfl) ?_;go_frame;refine Rg.o8 (some 35) rfl rfl (fun _ hh=>by cases hh) _ _ (tY (recv:=recv) _ _ _ rfl rfl rfl (hinv _ _)) ?_;refine (iA W _ q TT.p.a (FX.p.ints) GQ.p).mono ?_;rintro e1 Qi ⟨rfl,hb⟩;rw [rS.p];refine ⟨_,rfl,?_⟩;go_frame;replace FX:=U (FX.p.jj hb);replace TT:=U (TT.p.jj hb);replace TC:=U (TC.p.jj hb);replace C7:=U (C7.p.jj hb);replace D4:=U (D4.p.jj hb);replace PM:=U (PM.p.jj hb);replace PD:=U (PD.p.jj hb);replace KR:=U (Rg.acc KR.p hb);clear hb;refine Rg.ax (some 36) rfl rfl (fun _ hh=>by cases hh) (bm _ _ false rfl rfl) ?_;go_frame
    gi_wp2
    exact ⟨_,⟨TT.p,TC.p,C7.p,D4.p,Vl.p,⟨_,_,_,_,_,_,_,_,_,_,rfl,HG.p.skip (by rw [hq.p]; intro _ h; rw [rS.p] at h; cases h),PM.p,PD.p⟩⟩,Rg.Kp.az KR.p,fun z h=>.inl h⟩
   case true =>
    skip
    gi_upto_region 9 with (fail)
    refine wpIn_region_list ?_;refine Rg.ax (some 33) rfl rfl (fun _ hh=>by cases hh) (g8 (.iface ty vv) ⟨w.heap.size+1,0,none⟩ (oT TC.p.cell)) ?_;go_frame;refine Rg.ax (some 34) rfl rfl (fun _ hh=>by cases hh) (a7 (.slice xa xm xc) _ rfl rfl) ?_;go_frame;refine Rg.o8 (some 35) rfl rfl (fun _ hh=>by cases hh) _ _ (tY (recv:=recv) _ _ _ rfl rfl rfl (hinv _ _)) ?_;refine (iA W _ q TT.p.a (FX.p.ints) GQ.p).mono ?_;rintro e1 G8 ⟨rfl,hb⟩;rw [rS.p];refine ⟨_,rfl,?_⟩;go_frame;replace FX:=U (FX.p.jj hb);replace TT:=U (TT.p.jj hb);replace TC:=U (TC.p.jj hb);replace C7:=U (C7.p.jj hb);replace D4:=U (D4.p.jj hb);replace PM:=U (PM.p.jj hb);replace PD:=U (PD.p.jj hb);replace KR:=U (Rg.acc KR.p hb);clear hb;refine Rg.ax (some 36) rfl rfl (fun _ hh=>by cases hh) (bm _ _ true rfl rfl) ?_;go_frame
    cases ib
    case true =>
     skip
     gi_upto_region 10 with (fail)
     refine wpIn_region_list ?_;refine Rg.ax (some 38) rfl rfl (fun _ hh=>by cases hh) (g8 ((.agg #[.int .i64 ((N:Nat):Int),.slice o1 o2 o3,.slice r1 r2 r3])) ⟨fk.heap.size,0,none⟩ (aM PM.p.c9.c0 PM.p.c9.c1 PM.p.c9.c2)) ?_;go_frame;refine Rg.ax (some 39) rfl rfl (fun _ hh=>by cases hh) (a7 (.slice xa xm xc) _ rfl rfl) ?_;go_frame;refine Rg.o8 (some 40) rfl rfl (fun _ hh=>by cases hh) _ _ (aw 67 _ _ _ rfl rfl rfl (Il _ _)) ?_;refine (tK (PD.p.ce) (FX.p.ints)).mono ?_;rintro e1 Bw ⟨rfl,hb⟩;rw [EN.p,qD bQ cC HG.p.gd zj.p GQ.p];refine ⟨_,rfl,?_⟩;go_frame;replace FX:=U (FX.p.jj hb);replace TT:=U (TT.p.jj hb);replace TC:=U (TC.p.jj hb);replace C7:=U (C7.p.jj hb);replace D4:=U (D4.p.jj hb);replace PM:=U (PM.p.jj hb);replace PD:=U (PD.p.jj hb);replace KR:=U (Rg.acc KR.p hb)
     clear hb;refine Rg.ax (some 37) rfl rfl (fun _ hh=>by cases hh) (a7 (.tuple #[.bool true,.int .i64 0]) _ rfl rfl) ?_;go_frame;refine Rg.ax (some 41) rfl rfl (fun _ hh=>by cases hh) (i6 (.bool true)) ?_;go_frame;refine Rg.ax (some 42) rfl rfl (fun _ hh=>by cases hh) (i6 (.int .i64 0)) ?_;go_frame;refine Rg.ax (some 12) rfl rfl (fun _ hh=>by cases hh) (c6 (.bool true) _ rfl rfl) ?_;go_frame;refine Rg.ax (some 13) rfl rfl (fun _ hh=>by cases hh) (c6 (.int .i64 0) _ rfl rfl) ?_;go_frame
     gi_upto_region 11 with (fail)
     refine wpIn_region_list ?_;refine Rg.ax (some 43) rfl rfl (fun _ hh=>by cases hh) (a7 (.bool true) _ rfl rfl) ?_;go_frame;refine Rg.ax (some 44) rfl rfl (fun _ hh=>by cases hh) (bm _ _ true rfl rfl) ?_;go_frame
     gi_wp2
     exact ⟨_,⟨TT.p,TC.p,C7.p,D4.p,Vl.p,⟨_,_,_,_,_,_,_,_,_,_,rfl,HG.p.skip (by rw [hq.p]; intro _ _; exact (ph bQ cC HG.p.gd zj.p GQ.p).1 EN.p),PM.p,PD.p⟩⟩,Rg.Kp.az KR.p,fun z h=>.inl h⟩
    case false =>
     skip
     gi_upto_region 10 with (fail)
     refine wpIn_region_list ?_;refine Rg.ax (some 38) rfl rfl (fun _ hh=>by cases hh) (g8 ((.agg #[.int .i64 ((N:Nat):Int),.slice o1 o2 o3,.slice r1 r2 r3])) ⟨fk.heap.size,0,none⟩ (aM PM.p.c9.c0 PM.p.c9.c1 PM.p.c9.c2)) ?_;go_frame;refine Rg.ax (some 39) rfl rfl (fun _ hh=>by cases hh) (a7 (.slice xa xm xc) _ rfl rfl) ?_;go_frame;refine Rg.o8 (some 40) rfl rfl (fun _ hh=>by cases hh) _ _ (aw 67 _ _ _ rfl rfl rfl (Il _ _)) ?_;refine (tK (PD.p.ce) (FX.p.ints)).mono ?_;rintro e1 iE ⟨rfl,hb⟩;rw [EN.p,qD bQ cC HG.p.gd zj.p GQ.p];refine ⟨_,rfl,?_⟩;go_frame;replace FX:=U (FX.p.jj hb);replace TT:=U (TT.p.jj hb);replace TC:=U (TC.p.jj hb);replace C7:=U (C7.p.jj hb);replace D4:=U (D4.p.jj hb);replace PM:=U (PM.p.jj hb);replace PD:=U (PD.p.jj hb);replace KR:=U (Rg.acc KR.p hb)
     clear hb;refine Rg.ax (some 37) rfl rfl (fun _ hh=>by cases hh) (a7 (.tuple #[.bool false,.int .i64 0]) _ rfl rfl) ?_;go_frame;refine Rg.ax (some 41) rfl rfl (fun _ hh=>by cases hh) (i6 (.bool false)) ?_;go_frame;refine Rg.ax (some 42) rfl rfl (fun _ hh=>by cases hh) (i6 (.int .i64 0)) ?_;go_frame;refine Rg.ax (some 12) rfl rfl (fun _ hh=>by cases hh) (c6 (.bool false) _ rfl rfl) ?_;go_frame;refine Rg.ax (some 13) rfl rfl (fun _ hh=>by cases hh) (c6 (.int .i64 0) _ rfl rfl) ?_;go_frame
     gi_upto_region 11 with (fail)
     refine wpIn_region_list ?_;refine Rg.ax (some 43) rfl rfl (fun _ hh=>by cases hh) (a7 (.bool false) _ rfl rfl) ?_;go_frame;refine Rg.ax (some 44) rfl rfl (fun _ hh=>by cases hh) (bm _ _ false rfl rfl) ?_;go_frame
     gi_upto_region 12 with (fail)
     refine wpIn_region_list ?_;refine Rg.ax (some 45) rfl rfl (fun _ hh=>by cases hh) (g8 (.slice va gs.length vc) ⟨eV.heap.size,0,none⟩ (Rg.ae _ _ Tryz.underlying41 PM.p.c8.c)) ?_;go_frame;refine Rg.ax (some 46) rfl rfl (fun _ hh=>by cases hh) (a7 (.slice xa xm xc) _ rfl rfl) ?_;go_frame;have gD:=OH.p;obtain ⟨a9,c9,X9,q1,AZ,bZ,Ze⟩:=PM.p.push FX.p ⟨_,_,_,rfl⟩ (by omega) 41;refine Rg.ax (some 47) rfl rfl (fun _ hh=>by cases hh) (Rg.aC _ _ _ rfl (.slice xa xm xc) rfl (cG iE _ ⟨_,_,_,rfl⟩)) ?_;go_frame;refine Rg.ax (some 48) rfl rfl (fun _ hh=>by cases hh) (Rg.bu _ _ _ rfl rfl rfl q1) ?_;go_frame;refine Rg.fJ none rfl rfl (fun _ hh=>by cases hh) (Rg.ai _ _ _ rfl _ rfl _ rfl (Rg.bn _ dF AZ.c8.c AZ.c8.f)) ?_;go_frame;have AI:=PM.p.ge (Nat.le_refl eV.heap.size)
     have Ar:Rg.Kp (oU eV.heap.size fk.heap.size (.slice va gs.length vc)) iE (X9.setCell ⟨eV.heap.size,0,none⟩ (.slice a9 (gs.length+1) c9)):=bZ.trans (Rg.Kp.aL (.inl rfl)) (fun _ _ h=>h);have OI:=AZ.Y8 (.slice a9 (gs.length+1) c9);generalize X9.setCell ⟨eV.heap.size,0,none⟩ (.slice a9 (gs.length+1) c9)=Vm at *;have Vn:=U (TT.p.kp Ar (fun z hz hc=>by have:=AI z hc; have:=Vh.p z hz; omega));have Vo:=U (TC.p.kp Ar (fun hc=>by have:=AI _ hc; omega));have Rl:=U (C7.p.kp Ar (fun hc=>by have:=AI _ hc; omega));have Vp:=U (D4.p.kp Ar (fun hc=>by have:=AI _ hc; omega));have Iq:=U OI;have KU:=U OI.lt;have Zf:=U Ar;have HC9:=U Ze;have kC:=U (show ∀ s∈gs++[q],Gd N s from fun s hs=>(List.mem_append.1 hs).elim (HG.p.gd s) fun e=>by rw [List.mem_singleton] at e; exact e▸GQ.p)
     have Vq:=U (Below.refl Vm.heap.size Vm);clear AZ bZ Ze q1 Ar OI TT TC C7 D4 PM PD FX
     gi_upto_region 13 with (fail)
     refine wpIn_region_list ?_;refine Rg.ax (some 50) rfl rfl (fun _ hh=>by cases hh) (af _ rfl rfl (gP _ _)) ?_;go_frame;refine Rg.ax (some 51) rfl rfl (fun _ hh=>by cases hh) (g8 (.int .i64 ((N:Nat):Int)) ⟨w4.heap.size,0,none⟩ (ah Rl.p.cell)) ?_;go_frame;refine Rg.ax (some 52) rfl rfl (fun _ hh=>by cases hh) (g8 (.slice a9 (gs.length+1) c9) ⟨eV.heap.size,0,none⟩ (Rg.ae _ _ Tryz.underlying41 Iq.p.c8.c)) ?_;go_frame;refine Rg.o8 (some 53) rfl rfl (fun _ hh=>by cases hh) _ _ (aw 42 _ _ _ rfl rfl rfl (B8 _ _)) ?_;refine (rX bQ cC (gs:=gs++[q]) (by rw [List.length_append]; have:=OH.p; simp; omega) kC.p (.slice a9 (gs.length+1) c9) Vm (Iq.p.row.rows (by rw [List.length_append]; have:=OH.p; simp; omega))).mono ?_;rintro e1 tC ⟨m1,m2,m3,n1,n2,n3,O2,R2,rfl,gB,hb⟩;have HM2:=U gB
     clear gB;refine ⟨_,rfl,?_⟩;go_frame;replace Vn:=U (Vn.p.jj hb);replace Vo:=U (Vo.p.jj hb);replace Rl:=U (Rl.p.jj hb);replace Vp:=U (Vp.p.jj hb);replace Iq:=U (Iq.p.jj hb);replace Vq:=U (Rg.acc Vq.p hb);clear hb;refine Rg.ax (some 49) rfl rfl (fun _ hh=>by cases hh) (a7 ((.tuple #[.agg #[.int .i64 ((N:Nat):Int),.slice m1 m2 m3,.slice n1 n2 n3],.int .i64 0])) _ rfl rfl) ?_;go_frame;refine Rg.ax (some 54) rfl rfl (fun _ hh=>by cases hh) (i6 (.agg #[.int .i64 ((N:Nat):Int),.slice m1 m2 m3,.slice n1 n2 n3])) ?_;go_frame;refine Rg.ax (some 55) rfl rfl (fun _ hh=>by cases hh) (i6 (.int .i64 0)) ?_;go_frame;refine Rg.fJ none rfl rfl (fun _ hh=>by cases hh) (Rg.ai _ _ _ rfl _ rfl _ rfl (aW _ _ _ _ _ _ _ Iq.p.c9)) ?_;go_frame;obtain ⟨Zg,j9⟩:=Iq.p.Y9 (.slice m1 m2 m3) (.slice n1 n2 n3)
     obtain ⟨g1,g2,g3⟩:=HM2.p;have hpd:=tZ.mk9 KU.p (by have:=KU.p eV.heap.size (.inl rfl); omega) g1 g2 g3 j9;have aam:=Iq.p.ge (Nat.le_refl eV.heap.size);have Dq:=HC9.p;have aan:=KR.p.size;generalize ((tC.setCell ⟨fk.heap.size,0,none⟩ (.int .i64 ((N:Nat):Int))).setCell ⟨fk.heap.size,1,none⟩ (.slice m1 m2 m3)).setCell ⟨fk.heap.size,2,none⟩ (.slice n1 n2 n3)=W14 at *
     gi_wp2
     refine ⟨_,⟨Vn.p.kp j9 (fun z hz hc=>by have:=Vh.p z hz; omega),Vo.p.kp j9 (by omega),Rl.p.kp j9 (by omega),Vp.p.kp j9 (by omega),fun z hz=>?_,⟨_,_,_,_,_,_,_,_,_,_,rfl,HG.p.push HT.p hq.p GQ.p rS.p (fun hc=>by have:=(ph bQ cC HG.p.gd zj.p GQ.p).2 hc; rw [EN.p] at this; cases this) g3,Zg,hpd⟩⟩,?_,fun z hz=>?_⟩
     ·rcases Dq z hz with h | h
      ·exact Vl.p z h
      ·exact .inr (by omega)
     ·exact (((Rg.Kp.az KR.p).trans Zf.p (fun _ _ h=>h)).trans (Rg.Kp.az (M:=fun _=>False) Vq.p) (fun _ _ h=>h.elim)).trans j9 (fun z _ h=>.inr (.inl h))
     ·rcases Dq z hz with h | h
      ·exact .inl h
      ·exact .inr (by omega)
  case done =>
   rintro C W hi hD hk;obtain ⟨v,gs,o1,o2,o3,r1,r2,r3,O1,R1,rfl,hg,hm,hd⟩:=hi.x;have LC:=Rg.Kp.jj K.p hk (fun z hz=>by have:=kI hz; omega);have D4:=U hi.c4;have PM:=U hm;have PD:=U hd;have HG:=U hg;have BZ:=U LC;have HD:=U hD;clear hi hm hd hg hk LC hD;go_upto_region 14 with (fail);refine d3 ?_;refine d4 56 (g8 ((.agg #[.int .i64 ((N:Nat):Int),.slice o1 o2 o3,.slice r1 r2 r3])) ⟨fk.heap.size,0,none⟩ (aM PM.p.c9.c0 PM.p.c9.c1 PM.p.c9.c2)) ?_;go_frame;refine Rg.aD none rfl rfl (Rg.ai _ _ _ rfl _ rfl _ rfl (aW _ _ _ _ _ _ _ D4.p)) ?_;go_frame;refine d6 5 (.int .i64 ((0:Nat):Int)) ?_;go_frame;have y4:=D4.p.set (.int .i64 ((N:Nat):Int)) (.slice o1 o2 o3) (.slice r1 r2 r3);have k4:Rg.Kp (fun z=>z=w.heap.size+2) W (((W.setCell ⟨w.heap.size+2,0,none⟩ (.int .i64 ((N:Nat):Int))).setCell ⟨w.heap.size+2,1,none⟩ (.slice o1 o2 o3)).setCell ⟨w.heap.size+2,2,none⟩ (.slice r1 r2 r3)):=fQ _ _ _ _ _
   have iu:=Rg.Kp.jj BZ.p k4 (fun z hz=>by omega);have oz:=((HD.p.setCell ⟨w.heap.size+2,0,none⟩ (.int .i64 ((N:Nat):Int))).setCell ⟨w.heap.size+2,1,none⟩ (.slice o1 o2 o3)).setCell ⟨w.heap.size+2,2,none⟩ (.slice r1 r2 r3);have g1:=PD.p.o.kp k4 (fun z hz e=>by omega);have g2:=PD.p.r.kp k4 (fun z hz e=>by omega);generalize ((W.setCell ⟨w.heap.size+2,0,none⟩ (.int .i64 ((N:Nat):Int))).setCell ⟨w.heap.size+2,1,none⟩ (.slice o1 o2 o3)).setCell ⟨w.heap.size+2,2,none⟩ (.slice r1 r2 r3)=dT at *;go_wp2;exact RF.leaves w.heap.size [_] _ (by simp) (by intro D gH; simp at gH; subst gH; exact ⟨oz,by omega⟩) (fun W' l1 l2 l3=>⟨_,bz rfl _ rfl rfl (Jp y4 l2 l3 l1.size),iu.trans l1,.inr ⟨rfl,N,O,R,Oz.p,gs,_,_,_,_,_,_,O1,R1,rfl,(rY g1 l2 l1.size).mono (fun z hz=>by omega),bf.mono (zu g2 l2 l1.size) (fun z hz=>by omega),PD.p.ch,HG.p.Re,fun x h1 h2=>HG.p.done h1 h2⟩⟩)
end
end Go.Proofs.YtpedbljnhnoohaaGreat
