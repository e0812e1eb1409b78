/- Lemmas and contracts on the way to the statement; no condition of their own beyond those written. -/
import Derived.Test.YtpedbljnhnoohaaGreatXWntoZe
import Derived.Shelf.SlSortCmp.Whole1
import Derived.Ground.SlsfProg
import Derived.Lib.SmallJoins
import Derived.Deep.Matrix
import Derived.Deep.Strs
import Derived.RangeFuncBound
set_option linter.unusedVariables false
set_option linter.unusedSimpArgs false
set_option maxRecDepth 100000
set_option maxHeartbeats 8000000
variable {n B N L D tc j tb base tf n₀ bytes:Nat} {v rv ov z v1 xv v2 yv u1 u2 cv tv:Go.Value} {W w' W' X w0:Go.World} {F M F' F0 Fk:Nat->Prop} {ll OO PS:List (List Int)} {O gs A:List (List Nat)} {R:List (List (List Nat))} {RR fQ:List (List (List Int))} {H:List Nat->Prop} {q:List Nat} {d ck:Int} {xs:List Go.Value} {xl l1 l2:List Int}
set_option linter.unusedVariables false
namespace Go.Proofs.YtpedbljnhnoohaaGreat
open Go.Proofs
section
open Go.RowKit
open Go.Proofs.Ob
open Go.Shelf
attribute [local irreducible] Go.Calls Go.wpList
theorem Gb {o:Oper} {a:Act} {w:World} {ad:Addr} {c:Nat} (x y:Operand) (ho:o.op=.binOp .eql 26 x y 26) (hx:a.eval x=.slice (some ad) n c) (hy:a.eval y=.slice none 0 0):(execOp a.eval o).run Tryz.prog w=.ok (.value (.bool false)) w:=by
 have h1:(binOp .eql 26 (.slice (some ad) n c) (.slice none 0 0)).run Tryz.prog w=.ok (.bool false) w:=by kernel_rfl
 have hg:(eqGuard .eql 26 x y (.slice (some ad) n c) (.slice none 0 0)).run Tryz.prog w=.ok () w:=by
  simp [eqGuard]
 unfold execOp;simp only [ho,hx,hy,Sem.run_bind,Sem.run_pure,hg,h1,Result.andThen_ok]
theorem Gc (v:Value) (l:List Int) (w:World) (h:Rg.Ints w v l) (h1:1<=l.length) (hl:l.length<=1000000) :
  Calls Tryz.prog 109 #[v] w fun e w'=>∃ v',e=.returned v'/\w'.ownsRow w.heap.size 3 1 v' l.length (l.map (Value.int .i64))/\Below w.heap.size w w':=by
 obtain ⟨la,lc,rfl,_,_,_,hs⟩:=h.shape;obtain ⟨b,o,rfl,_⟩:=hs (by omega);have HI:=U h;have K:=U (Below.refl w.heap.size w);clear h hs
 go_enter Tryz.func109,Tryz.ntmps109
 go_upto_region 1 with fail
 refine b6<|j7 rfl<|k5 (Gb _ _ rfl rfl rfl) ?_;go_frame
 go_upto_region 3 with fail;refine b6 ?_;have cj:=rD.new (B:=w.heap.size) w (Nat.le_refl _);refine k5 (Rg.nY aO rfl w) ?_;go_frame;have hb:=(Below.refl w.heap.size w).alloc (Nat.le_refl _) (.cells #[] 3);generalize w.alloc (.cells #[] 3)=w1 at *;replace HI:=U (HI.u.p hb);replace K:=U (Rg.acc K.u hb);clear hb;have FO:=U cj;refine j7 rfl ?_;go_frame;obtain ⟨v5,X5,r1,r2,r3⟩:=Rg.u_ (P:=Tryz.prog) aO 26 FO.u.1 K.u.size HI.u pR (by rw [List.length_map]; omega)
 refine k5 (Rg.bw _ _ _ rfl rfl rfl r1)<|j5 (v5) rfl ?_;go_frame
 rw [List.length_map,Nat.zero_add,List.nil_append] at r2;have R2:=U r2;have K5:=U (K.u.grown r3 K.u.size (fun j hj=>(FO.u.1.lt j hj).1));clear r1 r2 r3 FO;go_wp2;go_ret;exact ⟨_,rfl,R2.u,K5.u⟩
def MK (tc:Nat) (ov rv:Value) (z:Nat):Prop:=z=tc∨ov.ownBlock=some z∨rv.ownBlock=some z
theorem oH {e:TypeId} {size:Nat} (h:W.ownsRow B e size v n xs):∀ k,v.ownBlock=some k->∃ o:Obj,W.heap[k]?=some o/\o.isCells=true:=fun k e1=>by
 obtain ⟨_,h3⟩:=h
 rcases h3 with ⟨h4,_⟩ | ⟨g,cap,cur,h4,_,h5,_⟩
 ·rw [h4] at e1; simp [Value.ownBlock] at e1
 ·rw [h4] at e1
  simp [Value.ownBlock] at e1;subst e1;exact ⟨_,h5,rfl⟩
theorem AD {a:Addr} (h:W.cell? a=some v):∃ o:Obj,W.heap[a.block]?=some o/\o.isCells=true:=by
 unfold World.cell? at h
 cases e:W.heap[a.block]? with
 | none=>rw [e] at h; cases h
 | some o =>
  rw [e] at h;refine ⟨o,rfl,?_⟩
  cases o <;> simp at h <;> rfl
theorem fe.isCells {B:Nat} {W:World} {tc:Nat} {c0 c1 c2 ov rv:Value} {O:List (List Int)} {R:List (List (List Int))} (h:fe B W tc c0 c1 c2 ov rv O R):∀ z,MK tc ov rv z->∃ o:Obj,W.heap[z]?=some o/\o.isCells=true:=by
 obtain ⟨us,vs,h1,h2,_⟩:=h.own
 rintro z (e | e | e)
 ·subst e; exact AD h.kl.c0
 ·exact oH h1 z e
 ·exact oH h2 z e
theorem vP {row:Option Nat} (hg:W.grownBy W' row) (hr:∀ r,row=some r->∃ o:Obj,W.heap[r]?=some o/\o.isCells=false) {us:List Value} (h:Rg.bL F W us ll):Rg.bL F W' us ll :=
 ⟨h.1,fun i a b=>vN hg hr (h.2 i a b)⟩
theorem M7 {row:Option Nat} (hg:W.grownBy W' row) (hr:∀ r,row=some r->∃ o:Obj,W.heap[r]?=some o/\o.isCells=false) (h:Rg.aM F W v ll):Rg.aM F W' v ll:=by
 obtain ⟨us,h1,h2⟩:=h;exact ⟨us,vN hg hr h1,vP hg hr h2⟩
theorem DD {row:Option Nat} (hg:W.grownBy W' row) (hr:∀ r,row=some r->∃ o:Obj,W.heap[r]?=some o/\o.isCells=false) {e:TypeId} {size:Nat} (h:W.ownsRow B e size v n xs):W'.ownsRow B e size v n xs :=
 iB h (Rg.Kp.cH hg (M:=fun k=>row=some k) fun _ e=>e) (fun k e1 e2=>by
  obtain ⟨o,h1,h2⟩:=oH h k e2;obtain ⟨o',h3,h4⟩:=hr k e1
  rw [h1] at h3; cases h3; rw [h2] at h4; cases h4)
theorem fe.nc {c0 c1 c2:Value} {O:List (List Int)} {R:List (List (List Int))} (h:fe B W tc c0 c1 c2 ov rv O R) {row:Option Nat} (hg:W.grownBy W' row) (hr:∀ r,row=some r->∃ o:Obj,W.heap[r]?=some o/\o.isCells=false):fe B W' tc c0 c1 c2 ov rv O R:=by
 obtain ⟨us,vs,h1,h2,h3,h4⟩:=h.own;have hk:Rg.Kp (fun k=>row=some k) W W':=Rg.Kp.cH hg fun _ e=>e;refine ⟨h.kl.kp hk (fun e=>?_),h.low,⟨us,vs,DD hg hr h1,DD hg hr h2,(vP hg hr h3).mono fun _ g=>g.up hg.size,bT.mono ⟨h4.1,fun i a b=>M7 hg hr (h4.2 i a b)⟩ fun _ g=>g.up hg.size⟩,h.apart,h.ot,h.rt⟩;obtain ⟨o,q1,q2⟩:=h.isCells tc (.inl rfl);obtain ⟨o',q3,q4⟩:=hr tc e;rw [q1] at q3; cases q3; rw [q2] at q4; cases q4
theorem xe (hc:∀ a,W'.cell? a=W.cell? a) (hs:W.heap.size<=W'.heap.size) {us:List Value} (h:Rg.cN W v us):Rg.cN W' v us:=by
 obtain ⟨a,cap,e,h1,h2,h3,h4⟩:=h;refine ⟨a,cap,e,h1,h2,h3,fun h0=>?_⟩;obtain ⟨b,o,e1,e2,e4⟩:=h4 h0;exact ⟨b,o,e1,Nat.lt_of_lt_of_le e2 hs,fun i hi=>(hc _).trans (e4 i hi)⟩
theorem Ge (hc:∀ a,W'.cell? a=W.cell? a) (hs:W.heap.size<=W'.heap.size) (h:Rg.Rows W v ll):Rg.Rows W' v ll:=by
 obtain ⟨us,h1,h2,h3⟩:=h;exact ⟨us,xe hc hs h1,h2,fun i a b=>xe hc hs (h3 i a b)⟩
theorem BH {α:Type} {l:List (List α)} {i:Nat} (h:i<l.length):l.getD i []=l[i]:=by rw [List.getD_eq_getElem?_getD,List.getElem?_eq_getElem h]; rfl
theorem Qg {m:Nat} {α:Type} (f:Nat->α):(eh m m).map (fun z=>f z.1)=(List.range m).map f:=by
 rw [<- lQ (Nat.le_refl m),List.map_map];rfl
end
section
open Go.RowKit
open Go.Proofs.Ob
open Go.Proofs.Cm (Gd)
attribute [local irreducible] Go.Calls Go.wpList
def fM (w:World) (g n:Nat) (f:Nat->Int):Prop:=g<w.heap.size/\(∀ i,i<n->w.cell? ⟨g,i,none⟩=some (.int .i64 (f i)))/\∀ i,w.frozen? ⟨g,i,none⟩=false
theorem fM.congr {w:World} {g:Nat} {f f':Nat->Int} (h:fM w g n f) (e:∀ i,i<n->f i=f' i):fM w g n f' :=
 ⟨h.1,fun i hi=>by rw [<- e i hi]; exact h.2.1 i hi,h.2.2⟩
theorem fM.set {w:World} {g:Nat} {f:Nat->Int} (h:fM w g n f) (k:Nat) (v:Int) (hk:k<n):fM (w.setCell ⟨g,k,none⟩ (.int .i64 v)) g n (fun i=>if i=k then v else f i):=by
 refine ⟨by simpa using h.1,fun i hi=>?_,fun i=>by rw [World.frozen?_setCell]; exact h.2.2 i⟩;show _=some (Value.int .i64 (if i=k then v else f i))
 by_cases e:i=k
 ·subst e
  rw [if_pos rfl];exact World.cell?_setCell_same (h:=h.2.1 i hi) ..
 ·rw [if_neg e,World.cell?_setCell_other (h:=by intro h; injection h with h1 h2; omega) ..]
  exact h.2.1 i hi
theorem fM.kp {w:World} {g:Nat} {f:Nat->Int} (h:fM w g n f) (hk:Rg.Kp M w w') (hM:¬ M g):fM w' g n f :=
 ⟨Nat.lt_of_lt_of_le h.1 hk.size,fun i hi=>(World.cell?_of_block (a:=⟨g,i,none⟩) (hk.block g h.1 hM)).trans (h.2.1 i hi),fun i=>(World.frozen?_of_block (a:=⟨g,i,none⟩) (hk.block g h.1 hM)).trans (h.2.2 i)⟩
theorem fM.p {w:World} {g:Nat} {f:Nat->Int} (h:fM w g n f) (hb:Below w.heap.size w w'):fM w' g n f:=h.kp (M:=fun _=>False) (Rg.Kp.aF hb) id
theorem fM.np {w:World} {g cap:Nat} {f:Nat->Int} (h:fM w g n f) (l:List Nat) (hl:l.length=n) (hc:n<=cap) (hm:cap<=maxLen) (hn:n<=1000) (e:∀ i (hi:i<l.length),f i=((l[i]:Nat):Int)):Rg.NP w (.slice (some ⟨g,0,none⟩) n cap) l:=by
 refine Rg.Ints.mk (by simp [Ma.ah,hl]) h.1 (by simp [Ma.ah]; omega) hm (by simp [Ma.ah]; omega) fun i hi=>?_
 have s4:i<l.length:=by simpa [Ma.ah] using hi
 rw [Nat.zero_add,h.2.1 i (by omega),e i s4];simp [Ma.ah]
end
section
open Go.RowKit
open Go.Proofs.Ob
open Go.Proofs.Cm (Gd Gr ar)
attribute [local irreducible] Go.Calls Go.wpList
theorem zj (w:World) (n:Nat):fM (w.alloc (.cells (madeCells #[.int .i64 0] n) 3)) w.heap.size n (fun _=>0):=by
 have h:=World.rowIs_made w (.int .i64 0) n 3;exact ⟨by simp,fun i hi=>h.cell hi,fun i=>h.frozen i⟩
theorem fj.WX (h:fj B W v ll) (hB:B<=W.heap.size) {u:Value} {l:List Int} (hv:Rg.FI (PG B W v) W u l) (OX:∃ a n c,u=.slice a n c) (hn:ll.length<1000000) (ty:TypeId) :
  ∃ a c X,(Builtin.append_ #[41,41] ty #[v,.slice (some ⟨W.heap.size,0,none⟩) 1 1]).run Tryz.prog (W.alloc (.cells #[u] 27))=.ok (.slice a (ll.length+1) c) X/\fj B X (.slice a (ll.length+1) c) (ll++[l])/\(∀ {B':Nat} {W0:World},B'<=B->Below B' W0 W->Below B' W0 X):=by
 obtain ⟨us,h1,h2⟩:=h.own;have hb:Below W.heap.size W (W.alloc (.cells #[u] 27)):=(Below.refl _ _).alloc (Nat.le_refl _) _;obtain ⟨ua,un,uc,OX⟩:=OX;have aw:=fun k e=>(h1.lt k e).2;obtain ⟨v',X,r1,r2,r3,r4,a,c,rfl⟩:=fA (P:=Tryz.prog) aK ty (Rg.bV h1 hb) (Nat.le_trans hB hb.size) W.heap.size 1 (u:=u) (by rw [Rg.aT]; rfl) (by rw [OX]; rfl) hn;have fY:Rg.Kp (fun _=>False) W (W.alloc (.cells #[u] 27)):=Rg.Kp.aF hb
 have cO:(W.alloc (.cells #[u] 27)).heap.size=W.heap.size+1:=by simp
 have hk:Rg.Kp (fun k=>v.ownBlock=some k) W X:=Rg.Kp.trans (M:=fun k=>v.ownBlock=some k) (fY.gO fun _=>False.elim) (Rg.Kp.cH r3 fun _ e=>e) (fun _ _ e=>e);have hg:∀ k,PG B W v k->¬ v.ownBlock=some k:=fun k g=>g.2.2
 have hm:∀ k,PG B W v k->PG B X (.slice a (ll.length+1) c) k:=fun k g=>by
  refine ⟨g.1,Nat.lt_of_lt_of_le g.2.1 hk.size,fun e=>?_⟩
  rcases r4 with r4 | r4
  ·rw [r4] at e; exact g.2.2 e
  ·rw [r4] at e; injection e with e; have:=g.2.1; omega
 refine ⟨a,c,X,r1,⟨us++[u],by rw [List.length_append]; exact r2,(bL.snoc (h2.kp hk hg) (hv.kp hk hg)).mono hm⟩,fun {B' W0} IJ lI=>?_⟩;refine (lI.trans ⟨hk.os,hk.tape,hk.output,hk.size,fun k N_=>hk.block k ?_ fun e=>?_⟩)
 ·have:=lI.size; omega
 ·have:=(h1.lt k e).1; omega
theorem cW.mono {B B':Nat} {w:World} {d:Int} {ll:List (List Int)} {cv:Value} {c:Int} (h:cW B w d ll cv c) (hB:B'<=B):cW B' w d ll cv c:=by
 rcases h with h | ⟨h0,n,gs,h1,h2,h3,h4,ov,rv,O,R,h5,h6,h7,h8⟩
 ·exact .inl h
 ·exact .inr ⟨h0,n,gs,h1,h2,h3,h4,ov,rv,O,R,h5,aM.mono h6 (fun z hz=>Nat.le_trans hB hz),bs.mono h7 (fun z hz=>Nat.le_trans hB hz),h8⟩
theorem cW.p {w:World} {c:Int} (h:cW B w d ll cv c) (hb:Below w.heap.size w w'):cW B w' d ll cv c:=h.kp (M:=fun _=>False) (Rg.Kp.aF hb) (fun _ e=>e.elim)
end
section
open Go.RowKit
open Go.Proofs.Ob
open Go.Proofs.Cm (Gd Gr)
attribute [local irreducible] Go.Calls Go.wpList
def Qh (F:FuncId) (iM:Array Value) (mv:List Int) (p:Int->Bool) (w:World):Prop :=
 ∀ x,x∈mv->∀ w1,Below w.heap.size w w1->Calls Tryz.prog F (#[.int .i64 x]++iM) w1 fun e w2=>e=.returned (.bool (p x))/\Below w1.heap.size w1 w2
def xf (mv:List Int) (p:Int->Bool):Int:=match mv.findIdx? p with
 | some i=>i
 | none=>-1
theorem M8 {mv:List Int} {p:Int->Bool} {k:Nat} (hk:k<mv.length) (h:∀ i (hi:i<mv.length),i<k->p mv[i]=false) (hp:p mv[k]=true):xf mv p=k:=by
 have:mv.findIdx? p=some k:=by
  rw [List.findIdx?_eq_some_iff_getElem];exact ⟨hk,hp,fun j hj=>by simp [h j (by omega) hj]⟩
 unfold xf; rw [this]
theorem JC {mv:List Int} {p:Int->Bool} (h:∀ i (hi:i<mv.length),p mv[i]=false):xf mv p = -1:=by
 have:mv.findIdx? p=none:=by
  rw [List.findIdx?_eq_none_iff];intro x hx;obtain ⟨i,hi,rfl⟩:=List.getElem_of_mem hx;exact h i hi
 unfold xf; rw [this]
theorem M9 (mv:List Int) (p:Int->Bool):decide (0<=xf mv p)=mv.any p:=by
 unfold xf
 cases h:mv.findIdx? p with
 | none =>
  rw [List.findIdx?_eq_none_iff] at h
  have:mv.any p=false:=by rw [List.any_eq_false]; intro x hx; simp [h x hx]
  rw [this]; rfl
 | some i =>
  rw [List.findIdx?_eq_some_iff_getElem] at h;obtain ⟨h1,h2,_⟩:=h
  have:mv.any p=true:=by rw [List.any_eq_true]; exact ⟨_,List.getElem_mem h1,h2⟩
  rw [this]; simp
theorem xI (vu:Value) (mv:List Int) (F:FuncId) (iM:Array Value) (p:Int->Bool) (w:World) (h:Rg.Ints w vu mv) (hl:mv.length<=1000) (hF:∀ args w,(callFunc F args).run Tryz.prog w=.ok (.enter F args) w) (hf:Qh F iM mv p w) :
  Calls Tryz.prog 136 #[vu,.func (.func F) #[] iM] w fun e w'=>e=.returned (.int .i64 (xf mv p))/\Below w.heap.size w w':=by
 obtain ⟨ad,cap,rfl,hc,hm,_,aN⟩:=h.shape;have Hr:=U aN;have HF:=U hf;clear h aN hf
 go_enter Tryz.func136,Tryz.ntmps136
 go_wp2
 go_loopw [8] (fun vi wr=>∃ k:Nat,k<=mv.length/\vi=.int .i64 k/\Hid (∀ i (hi:i<mv.length),i<k->p mv[i]=false)/\Hid (Below w.heap.size w wr)) (fun vi _=>mv.length - (intOf vi).toNat)
 case atStart=>exact ⟨0,by omega,rfl,fun i hi h0=>by omega,Below.refl _ _⟩
 case round =>
  obtain ⟨k,hk,rfl,lZ,hb⟩:=hrel
  by_cases aw:k<mv.length
  ·obtain ⟨b,o,rfl,Mt,Oa⟩:=Hr.u (by omega)
   have eu:=Oa k aw;obtain ⟨x,hx⟩:∃ x,x=mv[k]:=⟨_,rfl⟩;rw [<- hx] at eu;have e0:wr.cell? ⟨b,o+k,none⟩=some (.int .i64 x):=(hb.u.cell (p:=⟨b,o+k,none⟩) Mt).trans eu;have jw:=HF.u x (by rw [hx]; exact List.getElem_mem _) wr hb.u;have nt:=U aw;have Hx:=U hx;clear Oa eu hx
   cases hp:p x
   ·have Hp:=U hp
    have rW:=U (show Calls Tryz.prog F (#[.int .i64 x]++iM) wr (fun e w2=>e=.returned (.bool false)/\Below wr.heap.size wr w2) from jw.mono fun e w2 ⟨h1,h2⟩=>⟨h1.trans (by rw [Hp.u]),h2⟩);clear jw hp
    go_wp2_with (refine rW.u.mono ?_; rintro e w1 ⟨rfl,bW⟩)
    go_roundw
    case rel=>exact ⟨k+1,by omega,by go_num,fun i hi h0=>(by
     rcases Nat.lt_or_ge i k with h1 | h1
     ·exact lZ.u i hi h1
     ·obtain rfl:i=k:=by omega
      rw [<- Hx.u]; exact Hp.u),Rg.acc hb.u bW⟩
    case measure=>simp [intOf]; omega
   ·have Hp:=U hp
    have rW:=U (show Calls Tryz.prog F (#[.int .i64 x]++iM) wr (fun e w2=>e=.returned (.bool true)/\Below wr.heap.size wr w2) from jw.mono fun e w2 ⟨h1,h2⟩=>⟨h1.trans (by rw [Hp.u]),h2⟩);clear jw hp
    go_wp2_with (refine rW.u.mono ?_; rintro e w1 ⟨rfl,bW⟩)
    go_ret;exact ⟨Rg.iH (M8 nt.u lZ.u (by rw [<- Hx.u]; exact Hp.u)).symm,Rg.acc hb.u bW⟩
  ·obtain rfl:k=mv.length:=by omega
   go_wp2;go_ret;exact ⟨Rg.iH (JC (fun i hi=>lZ.u i hi hi)).symm,hb.u⟩
theorem fP (vu:Value) (mv:List Int) (F:FuncId) (iM:Array Value) (p:Int->Bool) (w:World) (h:Rg.Ints w vu mv) (hl:mv.length<=1000) (hF:∀ args w,(callFunc F args).run Tryz.prog w=.ok (.enter F args) w) (hf:Qh F iM mv p w) :
  Calls Tryz.prog 105 #[vu,.func (.func F) #[] iM] w fun e w'=>e=.returned (.bool (mv.any p))/\Below w.heap.size w w':=by
 have hi:=U (xI vu mv F iM p w h hl hF hf);have ha:=M9 mv p;generalize xf mv p=r at hi ha;generalize mv.any p=b at ha ⊢;have Ha:=U ha;clear ha h hf hF
 go_enter Tryz.func105,Tryz.ntmps105
 go_wp2_with (refine hi.u.mono ?_; rintro e w1 ⟨rfl,bW⟩)
 go_ret;exact ⟨Rg.cG Ha.u,bW⟩
end
section
open Go.RowKit
open Go.Proofs.Ob
open Go.Proofs.Cm (Gd Gr ar ap)
attribute [local irreducible] Go.Calls Go.wpList
theorem ep {w:World} (hc:ar N H O R) (h:ba w ov rv (O.map Ma.ah) (R.map (List.map Ma.ah))) {i:Nat} (hi:i<N) :
  ∃ ob oo oc rb ro rc,ov=.slice (some ⟨ob,oo,none⟩) N oc/\rv=.slice (some ⟨rb,ro,none⟩) N rc/\(∃ ua uc,CL w ob (oo+i) (.slice ua (O.getD i []).length uc)/\Rg.Ints w (.slice ua (O.getD i []).length uc) (Ma.ah (O.getD i []))) /\
   (∃ va vc,CL w rb (ro+i) (.slice va (O.getD i []).length vc)/\Rg.Rows w (.slice va (O.getD i []).length vc) ((R.getD i []).map Ma.ah)):=by
 have sf:(O.map Ma.ah).length=N:=by rw [List.length_map,hc.iK]
 have Gf:(R.map (List.map Ma.ah)).length=N:=by rw [List.length_map,hc.iy]
 obtain ⟨oa,oc,rfl,-⟩:=h.1.shape;obtain ⟨ra,rc,rfl⟩:=h.2.shape;have h1:=h.1;have h2:=h.2;rw [sf] at h1;rw [Gf] at h2;obtain ⟨ob,oo,ua,uc,e5,r7,nC,ly⟩:=Jv h1 (i:=i) (by rw [sf]; exact hi);subst e5;obtain ⟨rb,ro,e6,JD,u,nE,hu⟩:=h2.ML (k:=i) (by rw [Gf]; exact hi);subst e6
 have TB:(O.map Ma.ah)[i]'(by rw [sf]; exact hi)=Ma.ah (O.getD i []):=by
  have TF:i<O.length:=by rw [hc.iK]; exact hi
  rw [List.getElem_map,dI TF]
 rw [TB] at nC ly;rw [Ma.aB] at nC ly
 have F8:(R.map (List.map Ma.ah))[i]'(by rw [Gf]; exact hi)=(R.getD i []).map Ma.ah:=by
  have DB:i<R.length:=by rw [hc.iy]; exact hi
  rw [List.getElem_map,dI DB]
 rw [F8] at hu;obtain ⟨va,vc,rfl,-⟩:=hu.shape;rw [List.length_map,hc.len i hi] at nE hu;rw [sf,Gf];exact ⟨ob,oo,oc,rb,ro,rc,rfl,rfl,⟨ua,uc,CL.mk nC r7,ly⟩,⟨va,vc,CL.mk nE JD,hu⟩⟩

theorem M_ (w:World):Rg.Ints w (.slice none 0 0) []:=(show FP (fun _=>True) w (.slice none 0 0) [] from ⟨none,0,rfl,Nat.le_refl _,Nat.zero_le _,Nat.zero_le _,fun h=>absurd h (Nat.lt_irrefl 0)⟩).np
end
section
open Go.RowKit
open Go.Proofs.Cm (Gd Gr ar)
structure dw (w:World) (v:Value) (l:List Int):Prop where
 i:Rg.Ints w v l
theorem dw.p {w w':World} {v:Value} {l:List Int} (h:dw w v l) (hb:Below w.heap.size w w'):dw w' v l:=⟨h.i.p hb⟩
theorem dw.at {w:World} {lv:Value} {M:List Nat} (h:dw w lv (Ma.ah M)) (hM:M.length=D) (hD:1<=D):∃ b o c,lv=.slice (some ⟨b,o,none⟩) D c/\∀ i,i<D->CL w b (o+i) (.int .i64 ((M.getD i 0:Nat):Int)):=by
 obtain ⟨a,c,rfl,hc,hm,_,aN⟩:=Rg.NP.shape (show Rg.NP w lv M from h.i);obtain ⟨b,o,rfl,hb,hr⟩:=aN (by omega);refine ⟨b,o,c,by rw [hM],fun i hi=>⟨?_,hb⟩⟩;rw [List.getD_eq_getElem?_getD,List.getElem?_eq_getElem (show i<M.length by omega),Option.getD_some];exact hr i (by omega)
theorem dY {w:World} {a:Option Addr} {c:Nat} {T:List (List Int)} (h:Rg.Rows w (.slice a n c) T) {i:Nat} (hi:i<T.length):∃ b o ua uc,a=some ⟨b,o,none⟩/\b<w.heap.size/\w.cell? ⟨b,o+i,none⟩=some (.slice ua T[i].length uc)/\Rg.Ints w (.slice ua T[i].length uc) T[i]:=by
 obtain ⟨a',c',e,-,-,-,hx⟩:=h.shape;simp only [Value.slice.injEq] at e;obtain ⟨rfl,rfl,rfl⟩:=e;obtain ⟨b,o,e1,e2,e3⟩:=hx (by omega);obtain ⟨u,h1,h2⟩:=e3 i hi;obtain ⟨ua,uc,e4,-⟩:=Rg.Ints.shape h2;subst e4;exact ⟨b,o,ua,uc,e1,e2,h1,h2⟩
theorem lD {w:World} {a:Option Addr} {c:Nat} {l:List Int} (h:Rg.Ints w (.slice a n c) l) {k:Nat} (hk:k<l.length):∃ b o,a=some ⟨b,o,none⟩/\b<w.heap.size/\w.cell? ⟨b,o+k,none⟩=some (.int .i64 l[k]):=by
 obtain ⟨a',c',e,-,-,-,hx⟩:=h.shape;simp only [Value.slice.injEq] at e;obtain ⟨rfl,rfl,rfl⟩:=e;obtain ⟨b,o,e1,e2,e3⟩:=hx (by omega);exact ⟨b,o,e1,e2,e3 k hk⟩
structure gL (w:World) (v:Value) (T:List (List Int)):Prop where
 r:Rg.Rows w v T
theorem gL.p {w w':World} {v:Value} {T:List (List Int)} (h:gL w v T) (hb:Below w.heap.size w w'):gL w' v T:=⟨Rg.Rows.p h.r hb⟩
theorem Na {W0:World} (hb:Below B W0 W) (hB:B<=W.heap.size) (hk:Rg.Kp M W X) (hM:∀ k,M k->B<=k):Below B W0 X :=
 hb.trans ⟨hk.os,hk.tape,hk.output,hk.size,fun k h=>hk.block k (Nat.lt_of_lt_of_le h hB) fun e=>Nat.lt_irrefl _ (Nat.lt_of_lt_of_le h (hM k e))⟩
theorem BI {D:Nat} (h1:1<=D) (h2:D<=64):∀ {gs:List (List Nat)},(∀ s∈gs,Gd D s)->Ma.js ((D:Nat):Int) (gs.map Ma.ah)=0
 | [],_=>rfl
 | s :: gs,h=>by
  have g:=h s (List.mem_cons_self ..);have e1:Ma.bU (Ma.ah s)=0:=Ma.nj (by rw [Ma.aB,g.2]; exact h1) (by rw [Ma.aB,g.2]; exact h2) (Ma.sY g.1)
  have e2:((Ma.ah s).length:Int)=((D:Nat):Int):=by rw [Ma.aB,g.2]
  show (if Ma.bU (Ma.ah s)=0 then (if ((Ma.ah s).length:Int)=((D:Nat):Int) then Ma.js ((D:Nat):Int) (gs.map Ma.ah) else 10) else Ma.bU (Ma.ah s))=0;rw [if_pos e1,if_pos e2];exact BI h1 h2 (fun x hx=>h x (List.mem_cons_of_mem _ hx))
theorem xg (h1:1<=D) (h2:D<=64) (hl:gs.length<=4096) (h:∀ s∈gs,Gd D s):bG ((D:Nat):Int) (gs.map Ma.ah)=0:=by
 unfold bG;rw [if_pos (by omega),if_pos (by rw [List.length_map]; exact hl)];exact BI h1 h2 h
theorem Nb {w:World} {d:Nat} (h:ow w ((d:Nat):Int) (gs.map Ma.ah) cv 0) :
  ∃ oa on oc ra rn rc O R,cv=.agg #[.int .i64 ((d:Nat):Int),.slice oa on oc,.slice ra rn rc]/\ba w (.slice oa on oc) (.slice ra rn rc) (O.map Ma.ah) (R.map (List.map Ma.ah))/\ar d (Gr d (·∈gs)) O R:=by
 rcases h with ⟨h,_⟩ | ⟨_,n,gs',h1,h2,_,_,ov,rv,O,R,rfl,h3,h4,h5⟩
 ·exact absurd rfl h
 ·obtain rfl:d=n:=by omega
  obtain rfl:=dQ h2;obtain ⟨oa,oc,rfl,-⟩:=h3.shape;obtain ⟨ra,rc,rfl⟩:=h4.shape;exact ⟨_,_,_,_,_,_,O,R,rfl,⟨h3,h4⟩,h5⟩
end
section
open Go.RowKit
open Go.Proofs.Ob
open Go.Proofs.Cm (Gd ap)
attribute [local irreducible] Go.Calls Go.wpList
theorem JE (args:Array Value) (w:World):(callFunc 57 args).run Tryz.prog w=.ok (.enter 57 args) w:=by kernel_rfl
theorem Qi (args:Array Value) (w:World):(callFunc 58 args).run Tryz.prog w=.ok (.enter 58 args) w:=by kernel_rfl
theorem uk {n n':Int} {q_ sC:Value} {nK:List (List Int)} {iD:List (List (List Int))} {w:World} {b:Bool} (h1:ba w ov rv OO RR) (h2:ba w q_ sC nK iD) (hb:Hid (b=true↔(n=n'/\OO=nK/\RR=iD))) :
  Calls Tryz.prog 13 #[.agg #[.int .i64 n,ov,rv],.agg #[.int .i64 n',q_,sC]] w fun e w'=>e=.returned (.bool b)/\Below w.heap.size w w':=by
 obtain ⟨oa,oc,rfl,_⟩:=h1.1.shape;obtain ⟨ra,rc,rfl⟩:=h1.2.shape;obtain ⟨oe,od,rfl,_⟩:=h2.1.shape;obtain ⟨re,rd,rfl⟩:=h2.2.shape
 have eG:RR.length<=1000000000:=by
  obtain ⟨us,⟨_,_,_,_,_,h4,_⟩,h5,_⟩:=h1.2;have:us.length<=Rg.nU:=h4;unfold Rg.nU at this; omega
 have aaX:iD.length<=1000000000:=by
  obtain ⟨us,⟨_,_,_,_,_,h4,_⟩,h5,_⟩:=h2.2;have:us.length<=Rg.nU:=h4;unfold Rg.nU at this; omega
 have H1:=U h1;have H2:=U h2;have aJ:=dX w (.int .i64 n) (.slice oa OO.length oc) (.slice ra RR.length rc);have mF:Below w.heap.size w (w.alloc (.cells #[.int .i64 n,.slice oa OO.length oc,.slice ra RR.length rc] 25)):=(Below.refl _ _).alloc (Nat.le_refl _) _;clear h1 h2
 go_enter Tryz.func13,Tryz.ntmps13
 obtain ⟨ca,Nc⟩:∃ ca,w.heap.size=ca:=⟨_,rfl⟩;rw [Nc] at aJ;go_upto_region 0 with fail
 refine b6<|k5 (Rg.aS _ _ rfl rfl) ?_;go_frame
 rw [Nc];generalize w.alloc (.cells #[.int .i64 n,.slice oa OO.length oc,.slice ra RR.length rc] 25)=w0 at *;have Gg:=dX w0 (.int .i64 n') (.slice oe nK.length od) (.slice re iD.length rd);have df:Below w0.heap.size w0 (w0.alloc (.cells #[.int .i64 n',.slice oe nK.length od,.slice re iD.length rd] 25)):=(Below.refl _ _).alloc (Nat.le_refl _) _;obtain ⟨cb,sJ⟩:∃ cb,w0.heap.size=cb:=⟨_,rfl⟩;rw [sJ] at Gg;refine k5 (Rg.aS _ _ rfl rfl) ?_;go_frame;rw [sJ];refine j9 rfl ?_;go_frame;generalize w0.alloc (.cells #[.int .i64 n',.slice oe nK.length od,.slice re iD.length rd] 25)=w1 at *;have fC:=U (Rg.acc mF df);have A0:=U (aJ.1.up df);have A1:=U (aJ.2.1.up df);have A2:=U (aJ.2.2.up df);have B0:=U Gg.1;have B1:=U Gg.2.1;have B2:=U Gg.2.2;have yJ:=U (gL.mk (Rg.Rows.p H1.u.1 fC.u));have C_:=U (gL.mk (Rg.Rows.p H2.u.1 fC.u))
 have HR1:=U (H1.u.2.p fC.u);have HR2:=U (H2.u.2.p fC.u);have K:=U (Below.refl w1.heap.size w1);clear aJ Gg mF df Nc sJ H1 H2
 by_cases hn:n=n'
 case neg =>
  have JF:=U (show b=false from by
   cases e:b with
   | false=>rfl
   | true=>exact absurd ((hb.u.1 e).1) (by assumption))
  go_upto_region 1 with fail
  refine b6<|k5 (j0 (cP _ _))<|k5 (g7 (.int .i64 n) ⟨ca,0,none⟩ (af ((Below.cell (p:=⟨ca,0,none⟩) K.u A0.u.lt).trans A0.u.cell)))<|k5 (j0 (cP _ _))<|k5 (g7 (.int .i64 n') ⟨cb,0,none⟩ (af ((Below.cell (p:=⟨cb,0,none⟩) K.u B0.u.lt).trans B0.u.cell))) ?_;go_frame
  refine k5 (g8 (.bool true) .neq (h:=az _ (decide_eq_true hn)))<|j9 rfl<|f9 12<|f9 13<|f9 14 ?_;go_frame
  refine f9 15<|f9 16<|f9 17<|k5 (i4 (.bool true))<|j9 rfl ?_;go_frame
  refine f9 20<|f9 21<|f9 22<|f9 23<|f9 24 ?_;go_frame
  refine f9 25<|f9 26<|k5 (i4 (.bool true)) ?_;go_frame
  go_upto_region 2 with fail
  refine b6<|j9 rfl ?_;go_frame
  go_wp2;go_ret;exact ⟨by rw [JF.u]; rfl,Rg.acc fC.u K.u⟩
 case pos =>
  obtain ⟨bo,rq⟩:∃ t,Hid (decide (OO=nK)=t):=⟨_,U rfl⟩
  cases bo
  case false =>
   have fT:¬ OO=nK:=of_decide_eq_false rq.u
   have JF:=U (show b=false from by
    cases e:b with
    | false=>rfl
    | true=>exact absurd ((hb.u.1 e).2.1) (by assumption))
   go_upto_region 1 with fail
   refine b6<|k5 (j0 (cP _ _))<|k5 (g7 (.int .i64 n) ⟨ca,0,none⟩ (af ((Below.cell (p:=⟨ca,0,none⟩) K.u A0.u.lt).trans A0.u.cell)))<|k5 (j0 (cP _ _))<|k5 (g7 (.int .i64 n') ⟨cb,0,none⟩ (af ((Below.cell (p:=⟨cb,0,none⟩) K.u B0.u.lt).trans B0.u.cell))) ?_;go_frame
   refine k5 (g8 (.bool false) .neq (h:=az _ (decide_eq_false (fun h=>h hn))))<|j9 rfl<|k5 (j0 (cn _ _))<|k5 (g7 (.slice oa OO.length oc) ⟨ca,1,none⟩ (Rg.ae _ _ Tryz.underlying22 ((Below.cell (p:=⟨ca,1,none⟩) K.u A1.u.lt).trans A1.u.cell)))<|k5 (j0 (cn _ _)) ?_;go_frame
   refine k5 (g7 (.slice oe nK.length od) ⟨cb,1,none⟩ (Rg.ae _ _ Tryz.underlying22 ((Below.cell (p:=⟨cb,1,none⟩) K.u B1.u.lt).trans B1.u.cell))) ?_;go_frame;refine eD (some 16) rfl rfl _ _ (aC 57 _ _ _ rfl rfl rfl (JE _ _)) ?_;refine (ox (yJ.u.p K.u).r (C_.u.p K.u).r rq).mono ?_;rintro e1 jn ⟨rfl,hb⟩;refine ⟨_,rfl,?_⟩;go_frame;replace K:=U (Rg.acc K.u hb);clear hb
   refine k5 (bn _ _ false rfl rfl)<|k5 (i3 (.bool true))<|j9 rfl<|f9 20<|f9 21 ?_;go_frame
   refine f9 22<|f9 23<|f9 24<|f9 25<|f9 26 ?_;go_frame
   refine k5 (i4 (.bool true)) ?_;go_frame;go_upto_region 2 with fail
   refine b6<|j9 rfl ?_;go_frame
   go_wp2;go_ret;exact ⟨by rw [JF.u]; rfl,Rg.acc fC.u K.u⟩
  case true =>
   have hoy:OO=nK:=of_decide_eq_true rq.u;have HOY:=U hoy;have HNY:=U hn
   by_cases hlen:RR.length=iD.length
   case neg =>
    have gG:¬ RR=iD:=fun e=>hlen (by rw [e])
    have JF:=U (show b=false from by
     cases e:b with
     | false=>rfl
     | true=>exact absurd ((hb.u.1 e).2.2) (by assumption))
    go_upto_region 1 with fail
    refine b6<|k5 (j0 (cP _ _))<|k5 (g7 (.int .i64 n) ⟨ca,0,none⟩ (af ((Below.cell (p:=⟨ca,0,none⟩) K.u A0.u.lt).trans A0.u.cell)))<|k5 (j0 (cP _ _))<|k5 (g7 (.int .i64 n') ⟨cb,0,none⟩ (af ((Below.cell (p:=⟨cb,0,none⟩) K.u B0.u.lt).trans B0.u.cell))) ?_;go_frame
    refine k5 (g8 (.bool false) .neq (h:=az _ (decide_eq_false (fun h=>h hn))))<|j9 rfl<|k5 (j0 (cn _ _))<|k5 (g7 (.slice oa OO.length oc) ⟨ca,1,none⟩ (Rg.ae _ _ Tryz.underlying22 ((Below.cell (p:=⟨ca,1,none⟩) K.u A1.u.lt).trans A1.u.cell)))<|k5 (j0 (cn _ _)) ?_;go_frame
    refine k5 (g7 (.slice oe nK.length od) ⟨cb,1,none⟩ (Rg.ae _ _ Tryz.underlying22 ((Below.cell (p:=⟨cb,1,none⟩) K.u B1.u.lt).trans B1.u.cell))) ?_;go_frame;refine eD (some 16) rfl rfl _ _ (aC 57 _ _ _ rfl rfl rfl (JE _ _)) ?_;refine (ox (yJ.u.p K.u).r (C_.u.p K.u).r rq).mono ?_;rintro e1 w33 ⟨rfl,hb⟩;refine ⟨_,rfl,?_⟩;go_frame;replace K:=U (Rg.acc K.u hb);clear hb
    refine k5 (bn _ _ true rfl rfl)<|k5 (i3 (.bool false))<|j9 rfl<|k5 (j0 (cK _ _))<|k5 (g7 (.slice ra RR.length rc) ⟨ca,2,none⟩ (Rg.ae _ _ Tryz.underlying23 ((Below.cell (p:=⟨ca,2,none⟩) K.u A2.u.lt).trans A2.u.cell))) ?_;go_frame
    refine k5 (g9 Tryz.underlying23)<|k5 (j0 (cK _ _))<|k5 (g7 (.slice re iD.length rd) ⟨cb,2,none⟩ (Rg.ae _ _ Tryz.underlying23 ((Below.cell (p:=⟨cb,2,none⟩) K.u B2.u.lt).trans B2.u.cell)))<|k5 (g9 Tryz.underlying23)<|k5 (g8 (.bool true) .neq (h:=az _ f7)) ?_;go_frame
    refine k5 (i3 (.bool true)) ?_;go_frame;go_upto_region 2 with fail
    refine b6<|j9 rfl ?_;go_frame
    go_wp2;go_ret;exact ⟨by rw [JF.u]; rfl,Rg.acc fC.u K.u⟩
   case pos =>
    have Fc:=U hlen;have kF:RR.length<=iD.length:=Nat.le_of_eq hlen;have mG:iD.length<=RR.length:=Nat.le_of_eq hlen.symm;go_upto_region 1 with fail
    refine b6<|k5 (j0 (cP _ _))<|k5 (g7 (.int .i64 n) ⟨ca,0,none⟩ (af ((Below.cell (p:=⟨ca,0,none⟩) K.u A0.u.lt).trans A0.u.cell)))<|k5 (j0 (cP _ _))<|k5 (g7 (.int .i64 n') ⟨cb,0,none⟩ (af ((Below.cell (p:=⟨cb,0,none⟩) K.u B0.u.lt).trans B0.u.cell))) ?_;go_frame
    refine k5 (g8 (.bool false) .neq (h:=az _ (decide_eq_false (fun h=>h hn))))<|j9 rfl<|k5 (j0 (cn _ _))<|k5 (g7 (.slice oa OO.length oc) ⟨ca,1,none⟩ (Rg.ae _ _ Tryz.underlying22 ((Below.cell (p:=⟨ca,1,none⟩) K.u A1.u.lt).trans A1.u.cell)))<|k5 (j0 (cn _ _)) ?_;go_frame
    refine k5 (g7 (.slice oe nK.length od) ⟨cb,1,none⟩ (Rg.ae _ _ Tryz.underlying22 ((Below.cell (p:=⟨cb,1,none⟩) K.u B1.u.lt).trans B1.u.cell))) ?_;go_frame;refine eD (some 16) rfl rfl _ _ (aC 57 _ _ _ rfl rfl rfl (JE _ _)) ?_;refine (ox (yJ.u.p K.u).r (C_.u.p K.u).r rq).mono ?_;rintro e1 w54 ⟨rfl,hb⟩;refine ⟨_,rfl,?_⟩;go_frame;replace K:=U (Rg.acc K.u hb);clear hb
    refine k5 (bn _ _ true rfl rfl)<|k5 (i3 (.bool false))<|j9 rfl<|k5 (j0 (cK _ _))<|k5 (g7 (.slice ra RR.length rc) ⟨ca,2,none⟩ (Rg.ae _ _ Tryz.underlying23 ((Below.cell (p:=⟨ca,2,none⟩) K.u A2.u.lt).trans A2.u.cell))) ?_;go_frame
    refine k5 (g9 Tryz.underlying23)<|k5 (j0 (cK _ _))<|k5 (g7 (.slice re iD.length rd) ⟨cb,2,none⟩ (Rg.ae _ _ Tryz.underlying23 ((Below.cell (p:=⟨cb,2,none⟩) K.u B2.u.lt).trans B2.u.cell)))<|k5 (g9 Tryz.underlying23)<|k5 (g8 (.bool false) .neq (h:=az _ f8)) ?_;go_frame
    refine k5 (i3 (.bool false)) ?_;go_frame;go_upto_region 3 with fail
    refine b6<|j6 rfl ?_;go_frame
    have DE:=U (show ∀ j (h:j<RR.length) (h':j<iD.length),j<0->RR[j]=iD[j] from fun j _ _ h=>absurd h (Nat.not_lt_zero _));clear hlen hoy hn;go_wp2
    go_loopw [5] (fun iv wr=>∃ i:Nat,iv=.int .i64 ((i:Nat):Int)/\i<=RR.length/\Hid (∀ j (h:j<RR.length) (h':j<iD.length),j<i->RR[j]=iD[j])/\Hid (Below w1.heap.size w1 wr)) (fun iv _=>RR.length - (intOf iv).toNat)
    case atStart=>exact ⟨0,rfl,Nat.zero_le _,DE,K⟩
    case round =>
     clear DE K;obtain ⟨i,rfl,hi,DE,K⟩:=hrel;generalize wr=wd at *
     by_cases JG:i<RR.length
     case neg =>
      have HBT:=U (show b=true from hb.u.2 ⟨HNY.u,HOY.u,List.ext_getElem Fc.u fun j h h'=>DE.u j h h' (by omega)⟩);go_upto_region 4 with fail
      refine b6<|j6 rfl<|k5 (j0 (cK _ _))<|k5 (g7 (.slice ra RR.length rc) ⟨ca,2,none⟩ (Rg.ae _ _ Tryz.underlying23 ((Below.cell (p:=⟨ca,2,none⟩) K.u A2.u.lt).trans A2.u.cell)))<|k5 (g9 Tryz.underlying23) ?_;go_frame
      refine k5 (g8 (.bool false) .lss (h:=aH _ f8)) ?_;go_frame;go_upto_region 8 with fail
      refine b6<|j9 rfl ?_;go_frame
      go_wp2;go_ret;exact ⟨by rw [HBT.u]; rfl,Rg.acc fC.u K.u⟩
     case pos =>
      have AE:=U JG
      have Qj:i<iD.length:=by omega
      have Vf:=U Qj;obtain ⟨xb,xo,e1,xlt,u1,Af,cp⟩:=HR1.u.ML JG;subst e1;obtain ⟨yb,yo,e1,ylt,u2,ve,pK⟩:=HR2.u.ML Qj;subst e1;obtain ⟨x,hx⟩:∃ x,Hid (RR[i]'JG=x):=⟨_,U rfl⟩;obtain ⟨y,hy⟩:∃ x,Hid (iD[i]'Qj=x):=⟨_,U rfl⟩;rw [hx.u] at cp;rw [hy.u] at pK;obtain ⟨pa,pc,rfl,_⟩:=cp.shape;obtain ⟨pb,pd,rfl,_⟩:=pK.shape;have CX:=U (CL.mk Af xlt);have CY:=U (CL.mk ve ylt);have RX:=U (gL.mk cp);have RY:=U (gL.mk pK);obtain ⟨t,ht⟩:∃ t,Hid (decide (x=y)=t):=⟨_,U rfl⟩;clear Af ve cp pK xlt ylt
      cases t
      case false =>
       have JF:=U (show b=false from by
        cases e:b with
        | false=>rfl
        | true =>
         have h5:=(hb.u.1 e).2.2;subst h5;rw [hx.u] at hy
         exact absurd hy.u (of_decide_eq_false ht.u))
       go_upto_region 4 with fail
       refine b6<|j6 rfl<|k5 (j0 (cK _ _))<|k5 (g7 (.slice (some ⟨xb,xo,none⟩) RR.length rc) ⟨ca,2,none⟩ (Rg.ae _ _ Tryz.underlying23 ((Below.cell (p:=⟨ca,2,none⟩) K.u A2.u.lt).trans A2.u.cell)))<|k5 (g9 Tryz.underlying23) ?_;go_frame
       refine k5 (g8 (.bool true) .lss (h:=aH _ f7)) ?_;go_frame;go_upto_region 6 with fail;have aj:Below wd.heap.size wd wd.drew:=(Below.refl _ _).drew;replace K:=U (Rg.acc K.u aj);clear aj;refine Rg.Any.begin (S:=Rg.aG 11 (fun _=>True) (fun W=>Below w1.heap.size w1 W)) mix ?_;generalize wd.drew=w85 at *;have hS:∀ (l:Array Bool) W,Below w1.heap.size w1 W->Rg.aG 11 (fun _=>True) (fun W=>Below w1.heap.size w1 W) l W:=fun l W h=>⟨.inr trivial,h⟩;have hI:=K.u
       refine d7 0 11 (.pointer (some ⟨ca,2,none⟩)) 35 rfl rfl (i9 fun w=>aA _ rfl rfl (cK _ _)) (hS _ _ hI)<|d7 1 11 (.slice (some ⟨xb,xo,none⟩) RR.length rc) 36 rfl rfl (i8 ⟨ca,2,none⟩ (fun W hW=>Rg.ae _ _ Tryz.underlying23 ((Below.cell (p:=⟨ca,2,none⟩) hW A2.u.lt).trans A2.u.cell))) (hS _ _ hI)<|d8 2 11 (.int .i64 ((i:Nat):Int)) 37 (hS _ _ hI)<|d7 3 11 (.pointer (some ⟨xb,xo+i,none⟩)) 38 rfl rfl (Rg.ai bE _ _ rfl rfl xb (xo) (RR.length) rc (i) rfl rfl AE.u) (hS _ _ hI)<|d7 4 11 (.slice pa x.length pc) 39 rfl rfl (i8 ⟨xb,xo+i,none⟩ (fun W hW=>Rg.ae _ _ Tryz.underlying41 ((Below.cell (p:=⟨xb,xo+i,none⟩) hW CX.u.lt).trans CX.u.cell))) (hS _ _ hI) ?_;go_frame
       refine d7 5 11 (.pointer (some ⟨cb,2,none⟩)) 40 rfl rfl (i9 fun w=>aA _ rfl rfl (cK _ _)) (hS _ _ hI)<|d7 6 11 (.slice (some ⟨yb,yo,none⟩) iD.length rd) 41 rfl rfl (i8 ⟨cb,2,none⟩ (fun W hW=>Rg.ae _ _ Tryz.underlying23 ((Below.cell (p:=⟨cb,2,none⟩) hW B2.u.lt).trans B2.u.cell))) (hS _ _ hI)<|d8 7 11 (.int .i64 ((i:Nat):Int)) 42 (hS _ _ hI)<|d7 8 11 (.pointer (some ⟨yb,yo+i,none⟩)) 43 rfl rfl (Rg.ai bE _ _ rfl rfl yb (yo) (iD.length) rd (i) rfl rfl Vf.u) (hS _ _ hI)<|d7 9 11 (.slice pb y.length pd) 44 rfl rfl (i8 ⟨yb,yo+i,none⟩ (fun W hW=>Rg.ae _ _ Tryz.underlying41 ((Below.cell (p:=⟨yb,yo+i,none⟩) hW CY.u.lt).trans CY.u.cell))) (hS _ _ hI) ?_;go_frame
       refine Rg.Any.one (i:=10) (by kernel_rfl) (Rg.Any.ask (some 45) rfl rfl rfl _ _ (aC 58 _ _ _ rfl rfl rfl (Qi _ _)) ?_);refine (tJ (RX.u.p hI).r (RY.u.p hI).r ht).mono ?_;rintro e1 w86 ⟨rfl,hb⟩;have bj:=Rg.acc hI hb;have dA:=hb;clear hb hI;refine ⟨_,rfl,(hS _ _ bj),?_⟩;go_frame;refine i7 11 46 rfl rfl (bn _ _ false rfl rfl) (hS _ _ bj) ?_;go_frame;refine Rg.Any.done (by kernel_rfl) ?_ _;replace K:=U bj;clear hS bj dA;go_upto_region 7 with fail
       refine b6<|j9 rfl ?_;go_frame
       go_wp2;go_ret;exact ⟨by rw [JF.u]; rfl,Rg.acc fC.u K.u⟩
      case true =>
       have Aw:=U (show ∀ j (h:j<RR.length) (h':j<iD.length),j<i+1->RR[j]=iD[j] from fun j h h' hj=>by
        by_cases e:j=i
        ·subst e; rw [hx.u,hy.u]; exact of_decide_eq_true ht.u
        ·exact DE.u j h h' (by omega))
       go_upto_region 4 with fail
       refine b6<|j6 rfl<|k5 (j0 (cK _ _))<|k5 (g7 (.slice (some ⟨xb,xo,none⟩) RR.length rc) ⟨ca,2,none⟩ (Rg.ae _ _ Tryz.underlying23 ((Below.cell (p:=⟨ca,2,none⟩) K.u A2.u.lt).trans A2.u.cell)))<|k5 (g9 Tryz.underlying23) ?_;go_frame
       refine k5 (g8 (.bool true) .lss (h:=aH _ f7)) ?_;go_frame;go_upto_region 6 with fail;have aj:Below wd.heap.size wd wd.drew:=(Below.refl _ _).drew;replace K:=U (Rg.acc K.u aj);clear aj;refine Rg.Any.begin (S:=Rg.aG 11 (fun _=>True) (fun W=>Below w1.heap.size w1 W)) mix ?_;generalize wd.drew=aah at *;have hS:∀ (l:Array Bool) W,Below w1.heap.size w1 W->Rg.aG 11 (fun _=>True) (fun W=>Below w1.heap.size w1 W) l W:=fun l W h=>⟨.inr trivial,h⟩;have hI:=K.u
       refine d7 0 11 (.pointer (some ⟨ca,2,none⟩)) 35 rfl rfl (i9 fun w=>aA _ rfl rfl (cK _ _)) (hS _ _ hI)<|d7 1 11 (.slice (some ⟨xb,xo,none⟩) RR.length rc) 36 rfl rfl (i8 ⟨ca,2,none⟩ (fun W hW=>Rg.ae _ _ Tryz.underlying23 ((Below.cell (p:=⟨ca,2,none⟩) hW A2.u.lt).trans A2.u.cell))) (hS _ _ hI)<|d8 2 11 (.int .i64 ((i:Nat):Int)) 37 (hS _ _ hI)<|d7 3 11 (.pointer (some ⟨xb,xo+i,none⟩)) 38 rfl rfl (Rg.ai bE _ _ rfl rfl xb (xo) (RR.length) rc (i) rfl rfl AE.u) (hS _ _ hI)<|d7 4 11 (.slice pa x.length pc) 39 rfl rfl (i8 ⟨xb,xo+i,none⟩ (fun W hW=>Rg.ae _ _ Tryz.underlying41 ((Below.cell (p:=⟨xb,xo+i,none⟩) hW CX.u.lt).trans CX.u.cell))) (hS _ _ hI) ?_;go_frame
       refine d7 5 11 (.pointer (some ⟨cb,2,none⟩)) 40 rfl rfl (i9 fun w=>aA _ rfl rfl (cK _ _)) (hS _ _ hI)<|d7 6 11 (.slice (some ⟨yb,yo,none⟩) iD.length rd) 41 rfl rfl (i8 ⟨cb,2,none⟩ (fun W hW=>Rg.ae _ _ Tryz.underlying23 ((Below.cell (p:=⟨cb,2,none⟩) hW B2.u.lt).trans B2.u.cell))) (hS _ _ hI)<|d8 7 11 (.int .i64 ((i:Nat):Int)) 42 (hS _ _ hI)<|d7 8 11 (.pointer (some ⟨yb,yo+i,none⟩)) 43 rfl rfl (Rg.ai bE _ _ rfl rfl yb (yo) (iD.length) rd (i) rfl rfl Vf.u) (hS _ _ hI)<|d7 9 11 (.slice pb y.length pd) 44 rfl rfl (i8 ⟨yb,yo+i,none⟩ (fun W hW=>Rg.ae _ _ Tryz.underlying41 ((Below.cell (p:=⟨yb,yo+i,none⟩) hW CY.u.lt).trans CY.u.cell))) (hS _ _ hI) ?_;go_frame
       refine Rg.Any.one (i:=10) (by kernel_rfl) (Rg.Any.ask (some 45) rfl rfl rfl _ _ (aC 58 _ _ _ rfl rfl rfl (Qi _ _)) ?_);refine (tJ (RX.u.p hI).r (RY.u.p hI).r ht).mono ?_;rintro e1 aaY ⟨rfl,hb⟩;have bC:=Rg.acc hI hb;have cF:=hb;clear hb hI;refine ⟨_,rfl,(hS _ _ bC),?_⟩;go_frame;refine i7 11 46 rfl rfl (bn _ _ true rfl rfl) (hS _ _ bC) ?_;go_frame;refine Rg.Any.done (by kernel_rfl) ?_ _;replace K:=U bC;clear hS bC cF;go_upto_region 5 with fail
       refine b6<|j6 rfl<|k5 (g8 (.int .i64 (((i+1):Nat):Int)) .add (h:=bQ _ (by omega) (by omega)))<|j6 rfl ?_;go_frame
       go_wp2
       go_roundw
       case rel=>exact ⟨i+1,by go_num,AE.u,Aw,K⟩
       case measure=>simp [intOf]; have:=AE.u; omega
end
section
open Go.RowKit
open Go.Proofs.Ob
open Go.Proofs.Cm (Gd)
attribute [local irreducible] Go.Calls Go.wpList
theorem fM.up {w:World} {g:Nat} {f:Nat->Int} (h:fM w g n f) (hb:Below w.heap.size w w'):fM w' g n f:=h.p hb
def GM (tk gb rb z:Nat):Prop:=z=tk∨z=gb∨z=rb
structure dn (B:Nat) (F M:Nat->Prop) (W:World) (v:Value) (l:List (List Nat)):Prop where
 size:B<=W.heap.size
 own:∃ us,W.ownsRow B 27 1 v l.length us/\Rg.bL F W us (l.map Ma.ah)
 off:∀ k,v.ownBlock=some k->¬ F k/\¬ M k
theorem dn.lt {B:Nat} {F M:Nat->Prop} {W:World} {v:Value} {l:List (List Nat)} (h:dn B F M W v l):∀ k,v.ownBlock=some k->B<=k/\k<W.heap.size:=fun k e=>by
 obtain ⟨us,h1,h2⟩:=h.own;exact h1.lt k e
theorem dn.shape {l:List (List Nat)} (h:dn B F M W v l):∃ a c,v=.slice a l.length c:=by
 obtain ⟨us,h1,h2⟩:=h.own;exact Rg.cZ h1
theorem dn.nil (B:Nat) (F M:Nat->Prop) (W:World) (hB:B<=W.heap.size):dn B F M W (.slice none 0 0) [] :=
 ⟨hB,⟨[],World.ownsRow_nil _ _ _ _,Rg.bL.nil _ _⟩,fun k e=>by simp [Value.ownBlock] at e⟩
theorem dn.rows {l:List (List Nat)} (h:dn B F M W v l) (hl:l.length<=1000000000):Rg.Rows W v (l.map Ma.ah):=by
 obtain ⟨us,h1,h2⟩:=h.own;exact Rg.Rows.dL h1 hl h2.1 (fun i a b=>(h2.2 i a b).ints)
theorem dn.kp {B:Nat} {F M N:Nat->Prop} {W W':World} {v:Value} {l:List (List Nat)} (h:dn B F M W v l) (hk:Rg.Kp N W W') (hF:∀ k,F k->¬ N k) (hN:∀ k,v.ownBlock=some k->¬ N k):dn B F M W' v l:=by
 obtain ⟨us,h1,h2⟩:=h.own;exact ⟨Nat.le_trans h.size hk.size,⟨us,iB h1 hk (fun k hn e=>hN k e hn),h2.kp hk hF⟩,h.off⟩
theorem dn.upk {N:Nat->Prop} {l:List (List Nat)} (h:dn B F M W v l) (hk:Rg.Kp N W W') (hF:∀ k,F k->¬ N k) (hN:∀ k,N k->M k):dn B (cB F W W') M W' v l:=by
 obtain ⟨us,h1,h2⟩:=h.own;refine ⟨Nat.le_trans h.size hk.size,⟨us,iB h1 hk (fun k hn e=>(h.off k e).2 (hN k hn)),(h2.kp hk hF).mono fun k=>.inl⟩,fun k e=>⟨fun g=>?_,(h.off k e).2⟩⟩;have:=(h.lt k e).2
 rcases g with g | g
 ·exact (h.off k e).1 g
 ·omega
theorem dn.push {l:List (List Nat)} (h:dn B F M W v l) {u:Value} {x:List Nat} (hu:FP F W u x) (hs:∃ a m c,u=.slice a m c) (hF:∀ k,F k->k<W.heap.size) (hM:∀ k,M k->k<W.heap.size) (hn:l.length<1000000) (ty:TypeId) :
  ∃ a c X,(Builtin.append_ #[41,41] ty #[v,.slice (some ⟨W.heap.size,0,none⟩) 1 1]).run Tryz.prog (W.alloc (.cells #[u] 27))=.ok (.slice a (l.length+1) c) X/\dn B F M X (.slice a (l.length+1) c) (l++[x])/\Rg.Kp (fun k=>v.ownBlock=some k) W X:=by
 obtain ⟨us,h1,h2⟩:=h.own;obtain ⟨a0,m0,c0,rfl⟩:=hs;have hb:Below W.heap.size W (W.alloc (.cells #[.slice a0 m0 c0] 27)):=(Below.refl _ _).alloc (Nat.le_refl _) _;obtain ⟨v',X,r1,r2,r3,r4,a,c,rfl⟩:=fA (P:=Tryz.prog) aK ty (Rg.bV h1 hb) (Nat.le_trans h.size hb.size) W.heap.size 1 (u:=.slice a0 m0 c0) (by rw [Rg.aT]; rfl) rfl hn;have hk:Rg.Kp (fun k=>v.ownBlock=some k) W X:=Rg.Kp.trans (M:=fun k=>v.ownBlock=some k) ((Rg.Kp.aF hb).gO fun _=>False.elim) (Rg.Kp.cH r3 fun _ e=>e) (fun _ _ e=>e);have hg:∀ k,F k->¬ v.ownBlock=some k:=fun k g e=>(h.off k e).1 g;refine ⟨a,c,X,r1,⟨Nat.le_trans h.size hk.size,⟨us++[.slice a0 m0 c0],by rw [List.length_append]; exact r2,by rw [List.map_append]; exact bL.snoc (h2.kp hk hg) (Rg.FI.kp hu hk hg)⟩,fun k e=>?_⟩,hk⟩
 rcases r4 with r4 | r4
 ·exact h.off k (by rw [<- r4]; exact e)
 ·rw [r4] at e
  injection e with e
  have e2:(W.alloc (.cells #[.slice a0 m0 c0] 27)).heap.size=W.heap.size+1:=by simp
  exact ⟨fun g=>by have:=hF _ g; omega,fun g=>by have:=hM _ g; omega⟩
end
section
open Go.RowKit
open Go.Proofs.Ob
open Go.Proofs.Cm (Gd ap Gr ar)
attribute [local irreducible] Go.Calls Go.wpList
theorem WY (args:Array Value) (w:World):(callFunc 115 args).run Tryz.prog w=.ok (.enter 115 args) w:=by kernel_rfl
theorem Qk (args:Array Value) (w:World):(callFunc 13 args).run Tryz.prog w=.ok (.enter 13 args) w:=by kernel_rfl
theorem sK {n:Int} (h:1<=n/\n<=64) (hk:¬ fk n OO RR):bF n OO RR=3:=by unfold bF; rw [if_pos h,if_neg hk]
theorem xh {n:Int} (h:¬ (1<=n/\n<=64)):bF n OO RR=2:=by unfold bF; rw [if_neg h]
theorem Ql {w:World} (h:Rg.Rows w v ll) {i:Nat} (hi:i<ll.length):∃ u,Rg.Ints w u ll[i]:=by
 obtain ⟨us,_,h2,h3⟩:=h;exact ⟨_,h3 i (by omega) hi⟩
structure zk (w W:World) (v:Value) (gs:List (List Nat)):Prop where
 dP:Below w.heap.size w W
 row:dn w.heap.size (fun z=>z<w.heap.size) (fun _=>False) W v gs
theorem zk.nil {w W:World} (h:Below w.heap.size w W):zk w W (.slice none 0 0) []:=⟨h,dn.nil _ _ _ _ h.size⟩
theorem zk.p {w:World} (h:zk w W v gs) (hb:Below W.heap.size W W'):zk w W' v gs :=
 ⟨Rg.acc h.dP hb,h.row.kp (N:=fun _=>False) (Rg.Kp.aF hb) (fun _ _=>id) (fun _ _=>id)⟩
theorem zk.push {w W:World} {v u:Value} {gs:List (List Nat)} {x:List Nat} (h:zk w W v gs) (hu:Rg.NP w u x) (hs:∃ a m c,u=.slice a m c) (hT:gs.length<1000000) (ty:TypeId) :
  ∃ a c Y,(Builtin.append_ #[41,41] ty #[v,.slice (some ⟨W.heap.size,0,none⟩) 1 1]).run Tryz.prog (W.alloc (.cells #[u] 27))=.ok (.slice a (gs.length+1) c) Y/\zk w Y (.slice a (gs.length+1) c) (gs++[x]):=by
 obtain ⟨a,c,Y,r1,r2,r3⟩:=h.row.push ((FP.yx hu).p h.dP) hs (fun k hk=>Nat.lt_of_lt_of_le hk h.dP.size) (fun _ e=>e.elim) hT ty;exact ⟨a,c,Y,r1,Na h.dP h.dP.size r3 (fun k e=>(h.row.lt k e).1),r2⟩
theorem ql {n:Int} {w:World} (h:ba w ov rv OO RR) :
  Calls Tryz.prog 80 #[.agg #[.int .i64 n,ov,rv]] w fun e w'=>e=.returned (.int .i64 (bF n OO RR))/\Below w.heap.size w w':=by
 obtain ⟨oa,oc,rfl,-,kL,-⟩:=h.1.shape;obtain ⟨ra,rc,rfl⟩:=h.2.shape
 have eG:RR.length<=1000000000:=by
  obtain ⟨us,⟨_,_,_,_,_,h4,_⟩,h5,_⟩:=h.2;have:us.length<=Rg.nU:=h4;unfold Rg.nU at this; omega
 have H:=U h;have aJ:=dX w (.int .i64 n) (.slice oa OO.length oc) (.slice ra RR.length rc);have hb:Below w.heap.size w (w.alloc (.cells #[.int .i64 n,.slice oa OO.length oc,.slice ra RR.length rc] 25)):=(Below.refl _ _).alloc (Nat.le_refl _) _;clear h
 go_enter Tryz.func80,Tryz.ntmps80
 obtain ⟨cb,sJ⟩:∃ cb,w.heap.size=cb:=⟨_,rfl⟩;rw [sJ] at aJ;go_upto_region 0 with fail
 refine b6<|k5 (Rg.aS _ _ rfl rfl)<|j6 rfl ?_;go_frame
 rw [sJ];clear sJ;generalize w.alloc (.cells #[.int .i64 n,.slice oa OO.length oc,.slice ra RR.length rc] 25)=w0 at *;have A0:=U aJ.1;have A1:=U aJ.2.1;have A2:=U aJ.2.2;have fC:=U hb;have HO:=U (Rg.Rows.p H.u.1 fC.u);have HR:=U (H.u.2.p fC.u);have K:=U (Below.refl w0.heap.size w0);clear aJ hb H;go_upto_region 1 with fail
 refine b6<|k5 (j0 (cP _ _))<|k5 (g7 (.int .i64 n) ⟨cb,0,none⟩ (af ((Below.cell (p:=⟨cb,0,none⟩) K.u A0.u.lt).trans A0.u.cell)))<|j6 rfl ?_;go_frame
 by_cases aR:n<1
 case pos =>
  have oI:=U (xh (OO:=OO) (RR:=RR) (fun h:1<=n/\n<=64=>by omega));go_upto_region 2 with fail
  refine b6<|j6 rfl<|k5 (g8 (.bool true) .lss (h:=aH _ (decide_eq_true aR)))<|j9 rfl<|f9 14 ?_;go_frame
  refine f9 15<|k5 (i4 (.bool true)) ?_;go_frame
  go_upto_region 3 with fail
  refine b6<|j6 rfl ?_;go_frame
  go_wp2;go_ret;exact ⟨by rw [oI.u]; rfl,Rg.acc fC.u K.u⟩
 case neg =>
  by_cases aX:64<n
  case pos =>
   have oI:=U (xh (OO:=OO) (RR:=RR) (fun h:1<=n/\n<=64=>by omega));go_upto_region 2 with fail
   refine b6<|j6 rfl<|k5 (g8 (.bool false) .lss (h:=aH _ (decide_eq_false aR)))<|j9 rfl<|j6 rfl ?_;go_frame
   refine k5 (g8 (.bool true) .gtr (h:=bl _ (decide_eq_true aX)))<|k5 (i3 (.bool true)) ?_;go_frame
   go_upto_region 3 with fail
   refine b6<|j6 rfl ?_;go_frame
   go_wp2;go_ret;exact ⟨by rw [oI.u]; rfl,Rg.acc fC.u K.u⟩
  case neg =>
   have HN:=U (show 1<=n/\n<=64 from by omega)
   by_cases sf:(OO.length:Int)=n
   case neg =>
    have oI:=U (sK HN.u (OO:=OO) (RR:=RR) (fun h=>sf h.lens.1));go_upto_region 2 with fail
    refine b6<|j6 rfl<|k5 (g8 (.bool false) .lss (h:=aH _ (decide_eq_false aR)))<|j9 rfl<|j6 rfl ?_;go_frame
    refine k5 (g8 (.bool false) .gtr (h:=bl _ (decide_eq_false aX)))<|k5 (i3 (.bool false)) ?_;go_frame
    go_upto_region 4 with fail
    refine b6<|k5 (j0 (cn _ _))<|k5 (g7 (.slice oa OO.length oc) ⟨cb,1,none⟩ (Rg.ae _ _ Tryz.underlying22 ((Below.cell (p:=⟨cb,1,none⟩) K.u A1.u.lt).trans A1.u.cell)))<|k5 (g9 Tryz.underlying22)<|j6 rfl ?_;go_frame
    refine k5 (g8 (.bool true) .neq (h:=az _ (decide_eq_true sf)))<|j9 rfl<|f9 23<|f9 24<|f9 25 ?_;go_frame
    refine f9 26<|f9 27<|k5 (i4 (.bool true)) ?_;go_frame
    go_upto_region 5 with fail
    refine b6<|j6 rfl ?_;go_frame
    go_wp2;go_ret;exact ⟨by rw [oI.u]; rfl,Rg.acc fC.u K.u⟩
   case pos =>
    by_cases Gf:(RR.length:Int)=n
    case neg =>
     have oI:=U (sK HN.u (OO:=OO) (RR:=RR) (fun h=>Gf h.lens.2));go_upto_region 2 with fail
     refine b6<|j6 rfl<|k5 (g8 (.bool false) .lss (h:=aH _ (decide_eq_false aR)))<|j9 rfl<|j6 rfl ?_;go_frame
     refine k5 (g8 (.bool false) .gtr (h:=bl _ (decide_eq_false aX)))<|k5 (i3 (.bool false)) ?_;go_frame
     go_upto_region 4 with fail
     refine b6<|k5 (j0 (cn _ _))<|k5 (g7 (.slice oa OO.length oc) ⟨cb,1,none⟩ (Rg.ae _ _ Tryz.underlying22 ((Below.cell (p:=⟨cb,1,none⟩) K.u A1.u.lt).trans A1.u.cell)))<|k5 (g9 Tryz.underlying22)<|j6 rfl ?_;go_frame
     refine k5 (g8 (.bool false) .neq (h:=az _ (decide_eq_false (fun h=>h sf))))<|j9 rfl<|k5 (j0 (cK _ _))<|k5 (g7 (.slice ra RR.length rc) ⟨cb,2,none⟩ (Rg.ae _ _ Tryz.underlying23 ((Below.cell (p:=⟨cb,2,none⟩) K.u A2.u.lt).trans A2.u.cell)))<|k5 (g9 Tryz.underlying23) ?_;go_frame
     refine j6 rfl<|k5 (g8 (.bool true) .neq (h:=az _ (decide_eq_true Gf)))<|k5 (i3 (.bool true)) ?_;go_frame
     go_upto_region 5 with fail
     refine b6<|j6 rfl ?_;go_frame
     go_wp2;go_ret;exact ⟨by rw [oI.u]; rfl,Rg.acc fC.u K.u⟩
    case pos =>
     obtain ⟨N,hN⟩:∃ N:Nat,RR.length=N:=⟨_,rfl⟩
     have hnN:n=((N:Nat):Int):=by omega
     subst hnN
     have WZ:OO.length=N:=by omega
     have HON:=U WZ;have W5:=U hN
     have eB:1<=N:=by omega
     have za:N<=64:=by omega
     rw [WZ] at A1 ⊢;rw [hN] at A2 ⊢;clear sf Gf WZ hN aR aX;go_upto_region 2 with fail
     refine b6<|j6 rfl<|k5 (g8 (.bool false) .lss (h:=aH _ f8))<|j9 rfl<|j6 rfl ?_;go_frame
     refine k5 (g8 (.bool false) .gtr (h:=bl _ f8))<|k5 (i3 (.bool false)) ?_;go_frame
     go_upto_region 4 with fail
     refine b6<|k5 (j0 (cn _ _))<|k5 (g7 (.slice oa N oc) ⟨cb,1,none⟩ (Rg.ae _ _ Tryz.underlying22 ((Below.cell (p:=⟨cb,1,none⟩) K.u A1.u.lt).trans A1.u.cell)))<|k5 (g9 Tryz.underlying22)<|j6 rfl ?_;go_frame
     refine k5 (g8 (.bool false) .neq (h:=az _ (decide_eq_false (fun h=>h rfl))))<|j9 rfl<|k5 (j0 (cK _ _))<|k5 (g7 (.slice ra N rc) ⟨cb,2,none⟩ (Rg.ae _ _ Tryz.underlying23 ((Below.cell (p:=⟨cb,2,none⟩) K.u A2.u.lt).trans A2.u.cell)))<|k5 (g9 Tryz.underlying23) ?_;go_frame
     refine j6 rfl<|k5 (g8 (.bool false) .neq (h:=az _ (decide_eq_false (fun h=>h rfl))))<|k5 (i3 (.bool false)) ?_;go_frame
     go_upto_region 6 with fail
     refine b6<|j7 rfl ?_;go_frame
     go_upto_region 7 with fail
     refine b6<|j6 rfl ?_;go_frame
     have CK:=U (zk.nil K.u);have pT:=U (show ([]:List (List Nat)).map Ma.ah=(RR.take 0).flatten from by rw [List.take_zero]; rfl);have ko:=U (show ∀ s∈([]:List (List Nat)),Gd N s from fun s hs=>(List.not_mem_nil hs).elim);have k6:=U (fun hk:¬ fk ((N:Nat):Int) OO RR=>sK (OO:=OO) (RR:=RR) HN.u hk);clear K;go_wp2
     go_loopw [4,5] (fun lv iv wr=>∃ (i:Nat) (gs:List (List Nat)),iv=.int .i64 ((i:Nat):Int)/\i<=N/\Hid (zk w0 wr lv gs)/\Hid (gs.map Ma.ah=(RR.take i).flatten)/\Hid (∀ s∈gs,Gd N s)/\Hid (gs.length<=i*64)) (fun _ iv _=>N - (intOf iv).toNat)
     case atStart=>exact ⟨0,[],rfl,Nat.zero_le _,CK,pT,ko,U (Nat.zero_le _)⟩
     case round =>
      clear CK pT ko;obtain ⟨i,gs,rfl,hi,CK,pT,ko,Ay⟩:=hrel;obtain ⟨la,lc,rfl⟩:=CK.u.row.shape;generalize wr=wd at *;have K:=U CK.u.dP
      have ke:gs.length<=4096:=by have:=Ay.u; omega
      by_cases aP:i<N
      case neg =>
       have xC:i=N:=by omega
       have Df:=U (show RR.flatten=gs.map Ma.ah by rw [pT.u,List.take_of_length_le (by rw [W5.u]; omega)]);have JH:=U (xg eB za ke ko.u);go_upto_region 8 with fail
       refine b6<|j6 rfl<|j6 rfl<|k5 (g8 (.bool false) .lss (h:=aH _ f8)) ?_;go_frame
       go_upto_region 18 with fail
       refine b6<|j7 rfl<|k5 (g9 Tryz.underlying41)<|k5 (g8 (.bool false) .gtr (h:=bl _ f8)) ?_;go_frame
       have LR:=U (gL.mk (CK.u.row.rows (by omega)));have C0:=U (A0.u.up K.u);have C1:=U (A1.u.up K.u);have C2:=U (A2.u.up K.u);have HC:=U (show ba wd (.slice oa N oc) (.slice ra N rc) OO RR from ⟨by have h5:=Rg.Rows.p HO.u K.u; rwa [HON.u] at h5,by have h5:=HR.u.p K.u; rwa [W5.u] at h5⟩);clear CK;go_upto_region 20 with fail
       refine b6<|j6 rfl<|j7 rfl ?_;go_frame
       refine f3 107 (aC 115 _ _ _ rfl rfl rfl (WY _ _)) ?_;refine (Jj _ ((N:Nat):Int) (gs.map Ma.ah) wd LR.u.r).mono ?_;rintro e1 vQ ⟨cv,rfl,hcv,hb⟩;rw [JH.u] at hcv ⊢;obtain ⟨AG,AH,vD,AI,AJ,AK,O2,R2,rfl,hce,uf⟩:=Nb hcv.Dj;have Iy:=U uf;clear hcv uf;refine ⟨_,rfl,?_⟩;go_frame;replace LR:=U (LR.u.p hb);replace C0:=U (C0.u.p hb);replace C1:=U (C1.u.p hb);replace C2:=U (C2.u.p hb);replace HC:=U (HC.u.p hb);replace K:=U (Rg.acc K.u hb);clear hb;have E2:=U hce
       refine j5 (.tuple #[(.agg #[.int .i64 ((N:Nat):Int),.slice AG AH vD,.slice AI AJ AK]),.int .i64 0]) rfl<|k5 (i5 ((.agg #[.int .i64 ((N:Nat):Int),.slice AG AH vD,.slice AI AJ AK])))<|k5 (i5 (.int .i64 0))<|k5 (bN rfl)<|Rg.aL none rfl rfl (Rg.aq _ _ _ rfl _ rfl _ rfl (aV _ _ _ _ _ _ _ (cD.new vQ (.int .i64 0) (.slice none 0 0) (.slice none 0 0)))) ?_;go_frame
       have kO:=(cD.new vQ (.int .i64 0) (.slice none 0 0) (.slice none 0 0)).set (.int .i64 ((N:Nat):Int)) (.slice AG AH vD) (.slice AI AJ AK);have hb:=((((Below.refl vQ.heap.size vQ).alloc (Nat.le_refl _) (.cells #[.int .i64 0,.slice none 0 0,.slice none 0 0] 25)).setCell (p:=⟨vQ.heap.size,0,none⟩) (Nat.le_refl _) (.int .i64 ((N:Nat):Int))).setCell (p:=⟨vQ.heap.size,1,none⟩) (Nat.le_refl _) (.slice AG AH vD)).setCell (p:=⟨vQ.heap.size,2,none⟩) (Nat.le_refl _) (.slice AI AJ AK);generalize (((vQ.alloc (.cells #[.int .i64 0,.slice none 0 0,.slice none 0 0] 25)).setCell ⟨vQ.heap.size,0,none⟩ (.int .i64 ((N:Nat):Int))).setCell ⟨vQ.heap.size,1,none⟩ (.slice AG AH vD)).setCell ⟨vQ.heap.size,2,none⟩ (.slice AI AJ AK)=w53 at *;replace LR:=U (LR.u.p hb);replace C0:=U (C0.u.p hb);replace C1:=U (C1.u.p hb)
       replace C2:=U (C2.u.p hb);replace HC:=U (HC.u.p hb);replace E2:=U (E2.u.p hb);replace K:=U (Rg.acc K.u hb);clear hb;have TD:=U kO;clear kO;refine j6 rfl ?_;go_frame;clear hce;obtain ⟨bb,mF⟩:∃ t,Hid (decide (OO=O2.map Ma.ah/\RR=R2.map (List.map Ma.ah))=t):=⟨_,U rfl⟩;have um:=U (fk.same (OO:=OO) eB za ko.u Df.u Iy.u)
       have TK:Hid (bb=true↔(((N:Nat):Int)=((N:Nat):Int)/\OO=O2.map Ma.ah/\RR=R2.map (List.map Ma.ah))):=U (by
        rw [<- mF.u,decide_eq_true_iff]
        exact ⟨fun h=>⟨rfl,h⟩,fun h=>h.2⟩)
       cases bb
       case false =>
        have oI:=U (k6.u (fun h=>Bool.false_ne_true (TK.u.2 ⟨rfl,um.u.1 h⟩)));go_upto_region 21 with fail
        refine b6<|k5 (g7 ((.agg #[.int .i64 ((N:Nat):Int),.slice oa N oc,.slice ra N rc])) ⟨cb,0,none⟩ (aD C0.u.cell C1.u.cell C2.u.cell))<|k5 (g7 ((.agg #[.int .i64 ((N:Nat):Int),.slice AG AH vD,.slice AI AJ AK])) ⟨vQ.heap.size,0,none⟩ (aD TD.u.c0 TD.u.c1 TD.u.c2)) ?_;go_frame
        refine f3 112 (aC 13 _ _ _ rfl rfl rfl (Qk _ _)) ?_;refine (uk HC.u E2.u TK).mono ?_;rintro e1 w54 ⟨rfl,hb⟩;refine ⟨_,rfl,?_⟩;go_frame;replace LR:=U (LR.u.p hb);replace C0:=U (C0.u.p hb);replace C1:=U (C1.u.p hb);replace C2:=U (C2.u.p hb);replace HC:=U (HC.u.p hb);replace E2:=U (E2.u.p hb);replace TD:=U (TD.u.p hb);replace K:=U (Rg.acc K.u hb);clear hb;refine k5 (bn _ _ false rfl rfl) ?_;go_frame;go_upto_region 22 with fail
        refine b6<|j6 rfl ?_;go_frame
        go_wp2;go_ret;exact ⟨by rw [oI.u]; rfl,Rg.acc fC.u K.u⟩
       case true =>
        have oI:=U (oD (um.u.2 (TK.u.1 rfl).2));go_upto_region 21 with fail
        refine b6<|k5 (g7 ((.agg #[.int .i64 ((N:Nat):Int),.slice oa N oc,.slice ra N rc])) ⟨cb,0,none⟩ (aD C0.u.cell C1.u.cell C2.u.cell))<|k5 (g7 ((.agg #[.int .i64 ((N:Nat):Int),.slice AG AH vD,.slice AI AJ AK])) ⟨vQ.heap.size,0,none⟩ (aD TD.u.c0 TD.u.c1 TD.u.c2)) ?_;go_frame
        refine f3 112 (aC 13 _ _ _ rfl rfl rfl (Qk _ _)) ?_;refine (uk HC.u E2.u TK).mono ?_;rintro e1 WI ⟨rfl,hb⟩;refine ⟨_,rfl,?_⟩;go_frame;replace LR:=U (LR.u.p hb);replace C0:=U (C0.u.p hb);replace C1:=U (C1.u.p hb);replace C2:=U (C2.u.p hb);replace HC:=U (HC.u.p hb);replace E2:=U (E2.u.p hb);replace TD:=U (TD.u.p hb);replace K:=U (Rg.acc K.u hb);clear hb;refine k5 (bn _ _ true rfl rfl) ?_;go_frame;go_upto_region 23 with fail
        refine b6<|j6 rfl ?_;go_frame
        go_wp2;go_ret;exact ⟨by rw [oI.u]; rfl,Rg.acc fC.u K.u⟩
      case pos =>
       have bJ:=U aP
       have TM:i<OO.length:=by rw [HON.u]; exact aP
       have Ds:i<RR.length:=by rw [W5.u]; exact aP
       obtain ⟨ob,oo,qa,qc,e1,r7,nC,-⟩:=dY HO.u TM;subst e1;obtain ⟨rb,ro,e1,JD,ru,hru,pD⟩:=HR.u.ML Ds;subst e1;obtain ⟨ol,kL⟩:∃ ol,Hid (OO[i]'TM=ol):=⟨_,U rfl⟩;obtain ⟨rl,eG⟩:∃ rl,Hid (RR[i]'Ds=rl):=⟨_,U rfl⟩;rw [kL.u] at nC;rw [eG.u] at pD;obtain ⟨ua,uc,rfl,-,Qm,-⟩:=pD.shape
       have aaZ:ol.length<=1000000000:=by
        obtain ⟨u,hu⟩:=Ql HO.u TM;obtain ⟨_,_,_,_,h5,_⟩:=hu.shape;rw [kL.u] at h5;exact h5
       have CO:=U (CL.mk nC r7);have CR:=U (CL.mk hru JD);have RI:=U pD
       have mh:=U (show fk ((N:Nat):Int) OO RR->rl.length=ol.length/\(rl.length:Int)<=((N:Nat):Int) - (i:Int) from fun h=>by
        have h5:=h.row Ds TM
        rwa [eG.u,kL.u] at h5)
       have Vg:=U (show fk ((N:Nat):Int) OO RR->∀ x∈rl,(x.length:Int)=((N:Nat):Int)/\Ma.bU x=0 from fun h x hx=>h.perm Ds (by rw [eG.u]; exact hx))
       have HTK:=U (show (RR.take (i+1)).flatten=(RR.take i).flatten++rl by
        rw [List.take_add_one,List.getElem?_eq_getElem Ds,eG.u]
        simp)
       clear nC r7 hru JD pD
       by_cases cz:N<ol.length
       case pos =>
        have oI:=U (k6.u (fun h=>by have:=mh.u h; omega));go_upto_region 8 with fail
        refine b6<|j6 rfl<|j6 rfl<|k5 (g8 (.bool true) .lss (h:=aH _ f7)) ?_;go_frame
        go_upto_region 10 with fail;have aj:Below wd.heap.size wd wd.drew:=(Below.refl _ _).drew;replace CK:=U (CK.u.p aj);replace K:=U (Rg.acc K.u aj);clear aj;refine Rg.Any.begin (S:=Rg.aG 22 (fun _=>True) (fun W=>Below w0.heap.size w0 W)) mix ?_;generalize wd.drew=w85 at *;have hS:∀ (l:Array Bool) W,Below w0.heap.size w0 W->Rg.aG 22 (fun _=>True) (fun W=>Below w0.heap.size w0 W) l W:=fun l W h=>⟨.inr trivial,h⟩;have hI:=K.u
        refine d7 0 22 (.pointer (some ⟨cb,1,none⟩)) 34 rfl rfl (i9 fun w=>aA _ rfl rfl (cn _ _)) (hS _ _ hI)<|d7 1 22 (.slice (some ⟨ob,oo,none⟩) N oc) 35 rfl rfl (i8 ⟨cb,1,none⟩ (fun W hW=>Rg.ae _ _ Tryz.underlying22 ((Below.cell (p:=⟨cb,1,none⟩) hW A1.u.lt).trans A1.u.cell))) (hS _ _ hI)<|d8 2 22 (.int .i64 ((i:Nat):Int)) 36 (hS _ _ hI)<|d7 3 22 (.pointer (some ⟨ob,oo+i,none⟩)) 37 rfl rfl (Rg.ai bI _ _ rfl rfl ob (oo) (N) oc (i) rfl rfl aP) (hS _ _ hI)<|d7 4 22 (.slice qa ol.length qc) 38 rfl rfl (i8 ⟨ob,oo+i,none⟩ (fun W hW=>Rg.ae _ _ Tryz.underlying26 ((Below.cell (p:=⟨ob,oo+i,none⟩) hW CO.u.lt).trans CO.u.cell))) (hS _ _ hI) ?_;go_frame
        refine d7 5 22 (.int .i64 ((ol.length:Nat):Int)) 39 rfl rfl (i9 fun w=>dU _ _ _ rfl Tryz.underlying26 _ _ _ rfl) (hS _ _ hI)<|d8 6 22 (.int .i64 ((N:Nat):Int)) 40 (hS _ _ hI)<|d7 7 22 (.bool true) 41 rfl rfl (i9 fun w=>bY (R:=.bool true) .gtr _ _ _ rfl rfl rfl (bl _ f7)) (hS _ _ hI)<|d8 8 22 (.bool true) 42 (hS _ _ hI)<|d7 9 22 (undef) 43 rfl rfl (.inr ⟨rfl,rfl⟩) (hS _ _ hI) ?_;go_frame
        refine d7 10 22 (undef) 44 rfl rfl (.inr ⟨rfl,rfl⟩) (hS _ _ hI)<|d7 11 22 (undef) 45 rfl rfl (.inr ⟨rfl,rfl⟩) (hS _ _ hI)<|d7 12 22 (undef) 46 rfl rfl (.inr ⟨rfl,rfl⟩) (hS _ _ hI)<|d7 13 22 (undef) 47 rfl rfl (.inr ⟨rfl,rfl⟩) (hS _ _ hI)<|d7 14 22 (undef) 48 rfl rfl (.inr ⟨rfl,rfl⟩) (hS _ _ hI) ?_;go_frame
        refine d7 15 22 (undef) 49 rfl rfl (.inr ⟨rfl,rfl⟩) (hS _ _ hI)<|d7 16 22 (undef) 50 rfl rfl (.inr ⟨rfl,rfl⟩) (hS _ _ hI)<|d7 17 22 (undef) 51 rfl rfl (.inr ⟨rfl,rfl⟩) (hS _ _ hI)<|d7 18 22 (undef) 52 rfl rfl (.inr ⟨rfl,rfl⟩) (hS _ _ hI)<|d7 19 22 (undef) 53 rfl rfl (.inr ⟨rfl,rfl⟩) (hS _ _ hI) ?_;go_frame
        refine d7 20 22 (undef) 54 rfl rfl (.inr ⟨rfl,rfl⟩) (hS _ _ hI)<|d7 21 22 (undef) 55 rfl rfl (.inr ⟨rfl,rfl⟩) (hS _ _ hI)<|i7 22 56 rfl rfl (i4 (.bool true)) (hS _ _ hI) ?_;go_frame
        refine Rg.Any.done (by kernel_rfl) ?_ _;replace K:=U hI;clear hS hI;go_upto_region 11 with fail
        refine b6<|j6 rfl ?_;go_frame
        go_wp2;go_ret;exact ⟨by rw [oI.u]; rfl,Rg.acc fC.u K.u⟩
       case neg =>
        by_cases fS:ol.length=rl.length
        case neg =>
         have oI:=U (k6.u (fun h=>fS (mh.u h).1.symm));go_upto_region 8 with fail
         refine b6<|j6 rfl<|j6 rfl<|k5 (g8 (.bool true) .lss (h:=aH _ f7)) ?_;go_frame
         go_upto_region 10 with fail;have aj:Below wd.heap.size wd wd.drew:=(Below.refl _ _).drew;replace CK:=U (CK.u.p aj);replace K:=U (Rg.acc K.u aj);clear aj;refine Rg.Any.begin (S:=Rg.aG 22 (fun _=>True) (fun W=>Below w0.heap.size w0 W)) mix ?_;generalize wd.drew=w96 at *;have hS:∀ (l:Array Bool) W,Below w0.heap.size w0 W->Rg.aG 22 (fun _=>True) (fun W=>Below w0.heap.size w0 W) l W:=fun l W h=>⟨.inr trivial,h⟩;have hI:=K.u
         refine d7 0 22 (.pointer (some ⟨cb,1,none⟩)) 34 rfl rfl (i9 fun w=>aA _ rfl rfl (cn _ _)) (hS _ _ hI)<|d7 1 22 (.slice (some ⟨ob,oo,none⟩) N oc) 35 rfl rfl (i8 ⟨cb,1,none⟩ (fun W hW=>Rg.ae _ _ Tryz.underlying22 ((Below.cell (p:=⟨cb,1,none⟩) hW A1.u.lt).trans A1.u.cell))) (hS _ _ hI)<|d8 2 22 (.int .i64 ((i:Nat):Int)) 36 (hS _ _ hI)<|d7 3 22 (.pointer (some ⟨ob,oo+i,none⟩)) 37 rfl rfl (Rg.ai bI _ _ rfl rfl ob (oo) (N) oc (i) rfl rfl aP) (hS _ _ hI)<|d7 4 22 (.slice qa ol.length qc) 38 rfl rfl (i8 ⟨ob,oo+i,none⟩ (fun W hW=>Rg.ae _ _ Tryz.underlying26 ((Below.cell (p:=⟨ob,oo+i,none⟩) hW CO.u.lt).trans CO.u.cell))) (hS _ _ hI) ?_;go_frame
         refine d7 5 22 (.int .i64 ((ol.length:Nat):Int)) 39 rfl rfl (i9 fun w=>dU _ _ _ rfl Tryz.underlying26 _ _ _ rfl) (hS _ _ hI)<|d8 6 22 (.int .i64 ((N:Nat):Int)) 40 (hS _ _ hI)<|d7 7 22 (.bool false) 41 rfl rfl (i9 fun w=>bY (R:=.bool false) .gtr _ _ _ rfl rfl rfl (bl _ f8)) (hS _ _ hI)<|d8 8 22 (.bool false) 42 (hS _ _ hI)<|d7 9 22 (.pointer (some ⟨cb,1,none⟩)) 43 rfl rfl (i9 fun w=>aA _ rfl rfl (cn _ _)) (hS _ _ hI) ?_;go_frame
         refine d7 10 22 (.slice (some ⟨ob,oo,none⟩) N oc) 44 rfl rfl (i8 ⟨cb,1,none⟩ (fun W hW=>Rg.ae _ _ Tryz.underlying22 ((Below.cell (p:=⟨cb,1,none⟩) hW A1.u.lt).trans A1.u.cell))) (hS _ _ hI)<|d8 11 22 (.int .i64 ((i:Nat):Int)) 45 (hS _ _ hI)<|d7 12 22 (.pointer (some ⟨ob,oo+i,none⟩)) 46 rfl rfl (Rg.ai bI _ _ rfl rfl ob (oo) (N) oc (i) rfl rfl aP) (hS _ _ hI)<|d7 13 22 (.slice qa ol.length qc) 47 rfl rfl (i8 ⟨ob,oo+i,none⟩ (fun W hW=>Rg.ae _ _ Tryz.underlying26 ((Below.cell (p:=⟨ob,oo+i,none⟩) hW CO.u.lt).trans CO.u.cell))) (hS _ _ hI)<|d7 14 22 (.int .i64 ((ol.length:Nat):Int)) 48 rfl rfl (i9 fun w=>dU _ _ _ rfl Tryz.underlying26 _ _ _ rfl) (hS _ _ hI) ?_;go_frame
         refine d7 15 22 (.pointer (some ⟨cb,2,none⟩)) 49 rfl rfl (i9 fun w=>aA _ rfl rfl (cK _ _)) (hS _ _ hI)<|d7 16 22 (.slice (some ⟨rb,ro,none⟩) N rc) 50 rfl rfl (i8 ⟨cb,2,none⟩ (fun W hW=>Rg.ae _ _ Tryz.underlying23 ((Below.cell (p:=⟨cb,2,none⟩) hW A2.u.lt).trans A2.u.cell))) (hS _ _ hI)<|d8 17 22 (.int .i64 ((i:Nat):Int)) 51 (hS _ _ hI)<|d7 18 22 (.pointer (some ⟨rb,ro+i,none⟩)) 52 rfl rfl (Rg.ai bE _ _ rfl rfl rb (ro) (N) rc (i) rfl rfl aP) (hS _ _ hI)<|d7 19 22 (.slice ua rl.length uc) 53 rfl rfl (i8 ⟨rb,ro+i,none⟩ (fun W hW=>Rg.ae _ _ Tryz.underlying41 ((Below.cell (p:=⟨rb,ro+i,none⟩) hW CR.u.lt).trans CR.u.cell))) (hS _ _ hI) ?_;go_frame
         refine d7 20 22 (.int .i64 ((rl.length:Nat):Int)) 54 rfl rfl (i9 fun w=>dU _ _ _ rfl Tryz.underlying41 _ _ _ rfl) (hS _ _ hI)<|d7 21 22 (.bool true) 55 rfl rfl (i9 fun w=>bY (R:=.bool true) .neq _ _ _ rfl rfl rfl (az _ f7)) (hS _ _ hI)<|i7 22 56 rfl rfl (i3 (.bool true)) (hS _ _ hI) ?_;go_frame
         refine Rg.Any.done (by kernel_rfl) ?_ _;replace K:=U hI;clear hS hI;go_upto_region 11 with fail
         refine b6<|j6 rfl ?_;go_frame
         go_wp2;go_ret;exact ⟨by rw [oI.u]; rfl,Rg.acc fC.u K.u⟩
        case pos =>
         have hrN:rl.length<=N:=by omega
         have aai:=U hrN;have aa0:ol.length<=rl.length:=Nat.le_of_eq fS;have aa1:rl.length<=ol.length:=Nat.le_of_eq fS.symm;clear fS;go_upto_region 8 with fail
         refine b6<|j6 rfl<|j6 rfl<|k5 (g8 (.bool true) .lss (h:=aH _ f7)) ?_;go_frame
         go_upto_region 10 with fail;have aj:Below wd.heap.size wd wd.drew:=(Below.refl _ _).drew;replace CK:=U (CK.u.p aj);replace K:=U (Rg.acc K.u aj);clear aj;refine Rg.Any.begin (S:=Rg.aG 22 (fun _=>True) (fun W=>Below w0.heap.size w0 W)) mix ?_;generalize wd.drew=aah at *;have hS:∀ (l:Array Bool) W,Below w0.heap.size w0 W->Rg.aG 22 (fun _=>True) (fun W=>Below w0.heap.size w0 W) l W:=fun l W h=>⟨.inr trivial,h⟩;have hI:=K.u
         refine d7 0 22 (.pointer (some ⟨cb,1,none⟩)) 34 rfl rfl (i9 fun w=>aA _ rfl rfl (cn _ _)) (hS _ _ hI)<|d7 1 22 (.slice (some ⟨ob,oo,none⟩) N oc) 35 rfl rfl (i8 ⟨cb,1,none⟩ (fun W hW=>Rg.ae _ _ Tryz.underlying22 ((Below.cell (p:=⟨cb,1,none⟩) hW A1.u.lt).trans A1.u.cell))) (hS _ _ hI)<|d8 2 22 (.int .i64 ((i:Nat):Int)) 36 (hS _ _ hI)<|d7 3 22 (.pointer (some ⟨ob,oo+i,none⟩)) 37 rfl rfl (Rg.ai bI _ _ rfl rfl ob (oo) (N) oc (i) rfl rfl aP) (hS _ _ hI)<|d7 4 22 (.slice qa ol.length qc) 38 rfl rfl (i8 ⟨ob,oo+i,none⟩ (fun W hW=>Rg.ae _ _ Tryz.underlying26 ((Below.cell (p:=⟨ob,oo+i,none⟩) hW CO.u.lt).trans CO.u.cell))) (hS _ _ hI) ?_;go_frame
         refine d7 5 22 (.int .i64 ((ol.length:Nat):Int)) 39 rfl rfl (i9 fun w=>dU _ _ _ rfl Tryz.underlying26 _ _ _ rfl) (hS _ _ hI)<|d8 6 22 (.int .i64 ((N:Nat):Int)) 40 (hS _ _ hI)<|d7 7 22 (.bool false) 41 rfl rfl (i9 fun w=>bY (R:=.bool false) .gtr _ _ _ rfl rfl rfl (bl _ f8)) (hS _ _ hI)<|d8 8 22 (.bool false) 42 (hS _ _ hI)<|d7 9 22 (.pointer (some ⟨cb,1,none⟩)) 43 rfl rfl (i9 fun w=>aA _ rfl rfl (cn _ _)) (hS _ _ hI) ?_;go_frame
         refine d7 10 22 (.slice (some ⟨ob,oo,none⟩) N oc) 44 rfl rfl (i8 ⟨cb,1,none⟩ (fun W hW=>Rg.ae _ _ Tryz.underlying22 ((Below.cell (p:=⟨cb,1,none⟩) hW A1.u.lt).trans A1.u.cell))) (hS _ _ hI)<|d8 11 22 (.int .i64 ((i:Nat):Int)) 45 (hS _ _ hI)<|d7 12 22 (.pointer (some ⟨ob,oo+i,none⟩)) 46 rfl rfl (Rg.ai bI _ _ rfl rfl ob (oo) (N) oc (i) rfl rfl aP) (hS _ _ hI)<|d7 13 22 (.slice qa ol.length qc) 47 rfl rfl (i8 ⟨ob,oo+i,none⟩ (fun W hW=>Rg.ae _ _ Tryz.underlying26 ((Below.cell (p:=⟨ob,oo+i,none⟩) hW CO.u.lt).trans CO.u.cell))) (hS _ _ hI)<|d7 14 22 (.int .i64 ((ol.length:Nat):Int)) 48 rfl rfl (i9 fun w=>dU _ _ _ rfl Tryz.underlying26 _ _ _ rfl) (hS _ _ hI) ?_;go_frame
         refine d7 15 22 (.pointer (some ⟨cb,2,none⟩)) 49 rfl rfl (i9 fun w=>aA _ rfl rfl (cK _ _)) (hS _ _ hI)<|d7 16 22 (.slice (some ⟨rb,ro,none⟩) N rc) 50 rfl rfl (i8 ⟨cb,2,none⟩ (fun W hW=>Rg.ae _ _ Tryz.underlying23 ((Below.cell (p:=⟨cb,2,none⟩) hW A2.u.lt).trans A2.u.cell))) (hS _ _ hI)<|d8 17 22 (.int .i64 ((i:Nat):Int)) 51 (hS _ _ hI)<|d7 18 22 (.pointer (some ⟨rb,ro+i,none⟩)) 52 rfl rfl (Rg.ai bE _ _ rfl rfl rb (ro) (N) rc (i) rfl rfl aP) (hS _ _ hI)<|d7 19 22 (.slice ua rl.length uc) 53 rfl rfl (i8 ⟨rb,ro+i,none⟩ (fun W hW=>Rg.ae _ _ Tryz.underlying41 ((Below.cell (p:=⟨rb,ro+i,none⟩) hW CR.u.lt).trans CR.u.cell))) (hS _ _ hI) ?_;go_frame
         refine d7 20 22 (.int .i64 ((rl.length:Nat):Int)) 54 rfl rfl (i9 fun w=>dU _ _ _ rfl Tryz.underlying41 _ _ _ rfl) (hS _ _ hI)<|d7 21 22 (.bool false) 55 rfl rfl (i9 fun w=>bY (R:=.bool false) .neq _ _ _ rfl rfl rfl (az _ f8)) (hS _ _ hI)<|i7 22 56 rfl rfl (i3 (.bool false)) (hS _ _ hI) ?_;go_frame
         refine Rg.Any.done (by kernel_rfl) ?_ _;replace K:=U hI;clear hS hI;go_upto_region 12 with fail
         refine b6<|j6 rfl ?_;go_frame
         have Ju:=U (show gs.map Ma.ah=(RR.take i).flatten++rl.take 0 by rw [pT.u,List.take_zero,List.append_nil]);have BJ:=U (show gs.length<=i*64+0 from Ay.u);clear K pT Ay;go_wp2
         go_loopw [4,6] (fun lv kv wr=>∃ (k:Nat) (gs:List (List Nat)),kv=.int .i64 ((k:Nat):Int)/\k<=rl.length/\Hid (zk w0 wr lv gs)/\Hid (gs.map Ma.ah=(RR.take i).flatten++rl.take k)/\Hid (∀ s∈gs,Gd N s)/\Hid (gs.length<=i*64+k)) (fun _ kv _=>rl.length - (intOf kv).toNat)
         case atStart=>exact ⟨0,gs,rfl,Nat.zero_le _,CK,Ju,ko,BJ⟩
         case round =>
          clear CK Ju ko BJ;obtain ⟨k,gs,rfl,hk,CK,Ju,ko,BJ⟩:=hrel;obtain ⟨la,lc,rfl⟩:=CK.u.row.shape;generalize wr=we at *;have K:=U CK.u.dP;have aP:i<N:=bJ.u;have hrN:rl.length<=N:=aai.u
          by_cases bZ:k<rl.length
          case neg =>
           have aaj:=U (show gs.map Ma.ah=(RR.take (i+1)).flatten by rw [HTK.u,Ju.u,show rl.take k=rl from List.take_of_length_le (by omega)]);have Qn:=U (show gs.length<=(i+1)*64 by have:=BJ.u; omega);go_upto_region 13 with fail
           refine b6<|j6 rfl<|k5 (j0 (cK _ _))<|k5 (g7 (.slice (some ⟨rb,ro,none⟩) N rc) ⟨cb,2,none⟩ (Rg.ae _ _ Tryz.underlying23 ((Below.cell (p:=⟨cb,2,none⟩) K.u A2.u.lt).trans A2.u.cell)))<|j6 rfl ?_;go_frame
           refine k5 (ag bE _ _ rfl rb (ro) (N) rc (i) rfl rfl aP)<|k5 (g7 (.slice ua rl.length uc) ⟨rb,ro+i,none⟩ (Rg.ae _ _ Tryz.underlying41 ((Below.cell (p:=⟨rb,ro+i,none⟩) K.u CR.u.lt).trans CR.u.cell)))<|k5 (g9 Tryz.underlying41)<|k5 (g8 (.bool false) .lss (h:=aH _ f8)) ?_;go_frame
           go_upto_region 9 with fail
           refine b6<|j6 rfl<|k5 (g8 (.int .i64 (((i+1):Nat):Int)) .add (h:=bQ _ (by omega) (by omega)))<|j6 rfl ?_;go_frame
           go_wp2
           go_roundw
           case rel=>exact ⟨i+1,gs,by go_num,bJ.u,CK,aaj,ko,Qn⟩
           case measure=>simp [intOf]; have:=bJ.u; omega
          case pos =>
           have a_:=U bZ;obtain ⟨ub,uo,DG,sc,e1,pC,rh,ph⟩:=dY RI.u (i:=k) bZ;subst e1;obtain ⟨x,hx⟩:∃ x,Hid (rl[k]'bZ=x):=⟨_,U rfl⟩;rw [hx.u] at rh ph;have CS:=U (CL.mk rh pC);have XV0:=U ph;have XV:=U (dw.mk (Rg.Ints.p ph K.u))
           have aa3:x.length<=1000000000:=by
            obtain ⟨_,_,_,_,h5,_⟩:=ph.shape;exact h5
           have P3:=U (show x∈rl by rw [<- hx.u]; exact List.getElem_mem _);clear rh ph pC
           by_cases pA:x.length=N
           case neg =>
            have oI:=U (k6.u (fun h=>pA (by have:=(Vg.u h x P3.u).1; omega)));go_upto_region 13 with fail
            refine b6<|j6 rfl<|k5 (j0 (cK _ _))<|k5 (g7 (.slice (some ⟨rb,ro,none⟩) N rc) ⟨cb,2,none⟩ (Rg.ae _ _ Tryz.underlying23 ((Below.cell (p:=⟨cb,2,none⟩) K.u A2.u.lt).trans A2.u.cell)))<|j6 rfl ?_;go_frame
            refine k5 (ag bE _ _ rfl rb (ro) (N) rc (i) rfl rfl aP)<|k5 (g7 (.slice (some ⟨ub,uo,none⟩) rl.length uc) ⟨rb,ro+i,none⟩ (Rg.ae _ _ Tryz.underlying41 ((Below.cell (p:=⟨rb,ro+i,none⟩) K.u CR.u.lt).trans CR.u.cell)))<|k5 (g9 Tryz.underlying41)<|k5 (g8 (.bool true) .lss (h:=aH _ f7)) ?_;go_frame
            go_upto_region 15 with fail
            refine b6<|k5 (j0 (cK _ _))<|k5 (g7 (.slice (some ⟨rb,ro,none⟩) N rc) ⟨cb,2,none⟩ (Rg.ae _ _ Tryz.underlying23 ((Below.cell (p:=⟨cb,2,none⟩) K.u A2.u.lt).trans A2.u.cell)))<|j6 rfl<|k5 (ag bE _ _ rfl rb (ro) (N) rc (i) rfl rfl aP) ?_;go_frame
            refine k5 (g7 (.slice (some ⟨ub,uo,none⟩) rl.length uc) ⟨rb,ro+i,none⟩ (Rg.ae _ _ Tryz.underlying41 ((Below.cell (p:=⟨rb,ro+i,none⟩) K.u CR.u.lt).trans CR.u.cell)))<|j6 rfl<|k5 (ag aK _ _ rfl ub (uo) (rl.length) uc (k) rfl rfl a_.u)<|k5 (g7 (.slice DG x.length sc) ⟨ub,uo+k,none⟩ (Rg.ae _ _ Tryz.underlying27 ((Below.cell (p:=⟨ub,uo+k,none⟩) K.u CS.u.lt).trans CS.u.cell)))<|k5 (g9 Tryz.underlying27) ?_;go_frame
            refine j6 rfl<|k5 (g8 (.bool true) .neq (h:=az _ f7))<|j9 rfl<|f9 79<|f9 80 ?_;go_frame
            refine f9 81<|f9 82<|f9 83<|f9 84<|f9 85 ?_;go_frame
            refine f9 86<|f9 87<|f9 88<|k5 (i4 (.bool true)) ?_;go_frame
            go_upto_region 16 with fail
            refine b6<|j6 rfl ?_;go_frame
            go_wp2;go_ret;exact ⟨by rw [oI.u]; rfl,Rg.acc fC.u K.u⟩
           case pos =>
            obtain ⟨ck,dB⟩:∃ c,Hid (Ma.bU x=c):=⟨_,U rfl⟩;have aa4:x.length<=N:=Nat.le_of_eq pA;have aa5:N<=x.length:=Nat.le_of_eq pA.symm;have Wu:=U pA;clear pA
            by_cases cC:ck=0
            case neg =>
             have oI:=U (k6.u (fun h=>cC (by rw [<- dB.u]; exact (Vg.u h x P3.u).2)));go_upto_region 13 with fail
             refine b6<|j6 rfl<|k5 (j0 (cK _ _))<|k5 (g7 (.slice (some ⟨rb,ro,none⟩) N rc) ⟨cb,2,none⟩ (Rg.ae _ _ Tryz.underlying23 ((Below.cell (p:=⟨cb,2,none⟩) K.u A2.u.lt).trans A2.u.cell)))<|j6 rfl ?_;go_frame
             refine k5 (ag bE _ _ rfl rb (ro) (N) rc (i) rfl rfl aP)<|k5 (g7 (.slice (some ⟨ub,uo,none⟩) rl.length uc) ⟨rb,ro+i,none⟩ (Rg.ae _ _ Tryz.underlying41 ((Below.cell (p:=⟨rb,ro+i,none⟩) K.u CR.u.lt).trans CR.u.cell)))<|k5 (g9 Tryz.underlying41)<|k5 (g8 (.bool true) .lss (h:=aH _ f7)) ?_;go_frame
             go_upto_region 15 with fail
             refine b6<|k5 (j0 (cK _ _))<|k5 (g7 (.slice (some ⟨rb,ro,none⟩) N rc) ⟨cb,2,none⟩ (Rg.ae _ _ Tryz.underlying23 ((Below.cell (p:=⟨cb,2,none⟩) K.u A2.u.lt).trans A2.u.cell)))<|j6 rfl<|k5 (ag bE _ _ rfl rb (ro) (N) rc (i) rfl rfl aP) ?_;go_frame
             refine k5 (g7 (.slice (some ⟨ub,uo,none⟩) rl.length uc) ⟨rb,ro+i,none⟩ (Rg.ae _ _ Tryz.underlying41 ((Below.cell (p:=⟨rb,ro+i,none⟩) K.u CR.u.lt).trans CR.u.cell)))<|j6 rfl<|k5 (ag aK _ _ rfl ub (uo) (rl.length) uc (k) rfl rfl a_.u)<|k5 (g7 (.slice DG x.length sc) ⟨ub,uo+k,none⟩ (Rg.ae _ _ Tryz.underlying27 ((Below.cell (p:=⟨ub,uo+k,none⟩) K.u CS.u.lt).trans CS.u.cell)))<|k5 (g9 Tryz.underlying27) ?_;go_frame
             refine j6 rfl<|k5 (g8 (.bool false) .neq (h:=az _ f8))<|j9 rfl<|k5 (j0 (cK _ _))<|k5 (g7 (.slice (some ⟨rb,ro,none⟩) N rc) ⟨cb,2,none⟩ (Rg.ae _ _ Tryz.underlying23 ((Below.cell (p:=⟨cb,2,none⟩) K.u A2.u.lt).trans A2.u.cell))) ?_;go_frame
             refine j6 rfl<|k5 (ag bE _ _ rfl rb (ro) (N) rc (i) rfl rfl aP)<|k5 (g7 (.slice (some ⟨ub,uo,none⟩) rl.length uc) ⟨rb,ro+i,none⟩ (Rg.ae _ _ Tryz.underlying41 ((Below.cell (p:=⟨rb,ro+i,none⟩) K.u CR.u.lt).trans CR.u.cell)))<|j6 rfl<|k5 (ag aK _ _ rfl ub (uo) (rl.length) uc (k) rfl rfl a_.u) ?_;go_frame
             refine k5 (g7 (.slice DG x.length sc) ⟨ub,uo+k,none⟩ (Rg.ae _ _ Tryz.underlying27 ((Below.cell (p:=⟨ub,uo+k,none⟩) K.u CS.u.lt).trans CS.u.cell))) ?_;go_frame;refine eD (some 87) rfl rfl _ _ (ax 81 _ _ rfl rfl (Di _ _)) ?_;refine (gA _ x we XV.u.i).mono ?_;rintro e1 aa6 ⟨rfl,hb⟩;rw [dB.u];refine ⟨_,rfl,?_⟩;go_frame;replace CK:=U (CK.u.p hb);replace XV:=U (XV.u.p hb);replace K:=U (Rg.acc K.u hb);clear hb
             refine k5 (g8 (.bool true) .neq (h:=az _ (decide_eq_true cC)))<|k5 (i3 (.bool true)) ?_;go_frame
             go_upto_region 16 with fail
             refine b6<|j6 rfl ?_;go_frame
             go_wp2;go_ret;exact ⟨by rw [oI.u]; rfl,Rg.acc fC.u K.u⟩
            case pos =>
             obtain ⟨s,hs,hsk⟩:=Ma.lF (Ma.iT (dB.u.trans cC)).2.2;have aak:=U (show Gd N s from ⟨hsk,by rw [<- Wu.u,hs,Ma.aB]⟩);have HS:=U hs;have lN:=U cC
             have ke:gs.length<=8192:=by have:=BJ.u; omega
             clear hs hsk;go_upto_region 13 with fail
             refine b6<|j6 rfl<|k5 (j0 (cK _ _))<|k5 (g7 (.slice (some ⟨rb,ro,none⟩) N rc) ⟨cb,2,none⟩ (Rg.ae _ _ Tryz.underlying23 ((Below.cell (p:=⟨cb,2,none⟩) K.u A2.u.lt).trans A2.u.cell)))<|j6 rfl ?_;go_frame
             refine k5 (ag bE _ _ rfl rb (ro) (N) rc (i) rfl rfl aP)<|k5 (g7 (.slice (some ⟨ub,uo,none⟩) rl.length uc) ⟨rb,ro+i,none⟩ (Rg.ae _ _ Tryz.underlying41 ((Below.cell (p:=⟨rb,ro+i,none⟩) K.u CR.u.lt).trans CR.u.cell)))<|k5 (g9 Tryz.underlying41)<|k5 (g8 (.bool true) .lss (h:=aH _ f7)) ?_;go_frame
             go_upto_region 15 with fail
             refine b6<|k5 (j0 (cK _ _))<|k5 (g7 (.slice (some ⟨rb,ro,none⟩) N rc) ⟨cb,2,none⟩ (Rg.ae _ _ Tryz.underlying23 ((Below.cell (p:=⟨cb,2,none⟩) K.u A2.u.lt).trans A2.u.cell)))<|j6 rfl<|k5 (ag bE _ _ rfl rb (ro) (N) rc (i) rfl rfl aP) ?_;go_frame
             refine k5 (g7 (.slice (some ⟨ub,uo,none⟩) rl.length uc) ⟨rb,ro+i,none⟩ (Rg.ae _ _ Tryz.underlying41 ((Below.cell (p:=⟨rb,ro+i,none⟩) K.u CR.u.lt).trans CR.u.cell)))<|j6 rfl<|k5 (ag aK _ _ rfl ub (uo) (rl.length) uc (k) rfl rfl a_.u)<|k5 (g7 (.slice DG x.length sc) ⟨ub,uo+k,none⟩ (Rg.ae _ _ Tryz.underlying27 ((Below.cell (p:=⟨ub,uo+k,none⟩) K.u CS.u.lt).trans CS.u.cell)))<|k5 (g9 Tryz.underlying27) ?_;go_frame
             refine j6 rfl<|k5 (g8 (.bool false) .neq (h:=az _ f8))<|j9 rfl<|k5 (j0 (cK _ _))<|k5 (g7 (.slice (some ⟨rb,ro,none⟩) N rc) ⟨cb,2,none⟩ (Rg.ae _ _ Tryz.underlying23 ((Below.cell (p:=⟨cb,2,none⟩) K.u A2.u.lt).trans A2.u.cell))) ?_;go_frame
             refine j6 rfl<|k5 (ag bE _ _ rfl rb (ro) (N) rc (i) rfl rfl aP)<|k5 (g7 (.slice (some ⟨ub,uo,none⟩) rl.length uc) ⟨rb,ro+i,none⟩ (Rg.ae _ _ Tryz.underlying41 ((Below.cell (p:=⟨rb,ro+i,none⟩) K.u CR.u.lt).trans CR.u.cell)))<|j6 rfl<|k5 (ag aK _ _ rfl ub (uo) (rl.length) uc (k) rfl rfl a_.u) ?_;go_frame
             refine k5 (g7 (.slice DG x.length sc) ⟨ub,uo+k,none⟩ (Rg.ae _ _ Tryz.underlying27 ((Below.cell (p:=⟨ub,uo+k,none⟩) K.u CS.u.lt).trans CS.u.cell))) ?_;go_frame;refine eD (some 87) rfl rfl _ _ (ax 81 _ _ rfl rfl (Di _ _)) ?_;refine (gA _ x we XV.u.i).mono ?_;rintro e1 aal ⟨rfl,hb⟩;rw [dB.u];refine ⟨_,rfl,?_⟩;go_frame;replace CK:=U (CK.u.p hb);replace XV:=U (XV.u.p hb);replace K:=U (Rg.acc K.u hb);clear hb
             refine k5 (g8 (.bool false) .neq (h:=az _ (decide_eq_false (fun h=>h cC))))<|k5 (i3 (.bool false)) ?_;go_frame
             go_upto_region 17 with fail
             refine b6<|j7 rfl<|k5 (j0 (cK _ _))<|k5 (g7 (.slice (some ⟨rb,ro,none⟩) N rc) ⟨cb,2,none⟩ (Rg.ae _ _ Tryz.underlying23 ((Below.cell (p:=⟨cb,2,none⟩) K.u A2.u.lt).trans A2.u.cell)))<|j6 rfl ?_;go_frame
             refine k5 (ag bE _ _ rfl rb (ro) (N) rc (i) rfl rfl aP)<|k5 (g7 (.slice (some ⟨ub,uo,none⟩) rl.length uc) ⟨rb,ro+i,none⟩ (Rg.ae _ _ Tryz.underlying41 ((Below.cell (p:=⟨rb,ro+i,none⟩) K.u CR.u.lt).trans CR.u.cell)))<|j6 rfl<|k5 (ag aK _ _ rfl ub (uo) (rl.length) uc (k) rfl rfl a_.u)<|k5 (g7 (.slice DG x.length sc) ⟨ub,uo+k,none⟩ (Rg.ae _ _ Tryz.underlying27 ((Below.cell (p:=⟨ub,uo+k,none⟩) K.u CS.u.lt).trans CS.u.cell))) ?_;go_frame
             obtain ⟨a9,c9,X9,r1,xE⟩:=CK.u.push (Eq.mp (congrArg (fun z=>Rg.Ints w0 (.slice DG x.length sc) z) HS.u) XV0.u:Rg.NP w0 (.slice DG x.length sc) s) ⟨_,_,_,rfl⟩ (by omega) 41
             refine k5 (Rg.aI _ _ _ rfl (.slice DG x.length sc) rfl (cV aal _ ⟨_,_,_,rfl⟩))<|k5 (Rg.bw _ _ _ rfl rfl rfl r1)<|j7 rfl ?_;go_frame
             have CK2:=U xE
             have HG3:=U (show (gs++[s]).map Ma.ah=(RR.take i).flatten++rl.take (k+1) by
              rw [List.map_append,Ju.u,List.take_add_one,List.getElem?_eq_getElem a_.u,hx.u,HS.u,List.append_assoc]
              rfl)
             have aam:=U (show ∀ z∈gs++[s],Gd N z from fun z hz=>by
              rcases List.mem_append.1 hz with hz | hz
              ·exact ko.u z hz
              ·rw [List.mem_singleton] at hz; subst hz; exact aak.u)
             have Qn:=U (show (gs++[s]).length<=i*64+(k+1) by rw [List.length_append]; have:=BJ.u; simp; omega);clear r1 xE;go_upto_region 14 with fail
             refine b6<|j6 rfl<|k5 (g8 (.int .i64 (((k+1):Nat):Int)) .add (h:=bQ _ (by omega) (by omega)))<|j6 rfl ?_;go_frame
             go_wp2
             go_roundw
             case rel=>exact ⟨k+1,gs++[s],by go_num,a_.u,CK2,HG3,aam,Qn⟩
             case measure=>simp [intOf]; have:=a_.u; omega
end
section
open Go.RowKit
attribute [local irreducible] Go.Calls Go.wpStill
def dJ:List Int->List Int->Bool
 | [],[]=>false
 | [],_ :: _=>true
 | _ :: _,[]=>false
 | x :: a,y :: b=>if x=y then dJ a b else decide (x<y)
theorem sL:∀ a:List Int,dJ a a=false
 | []=>rfl
 | x :: a=>by rw [dJ,if_pos rfl]; exact sL a
theorem ur:∀ {a b c:List Int},dJ a b=true->dJ b c=true->dJ a c=true
 | [],[],_,h,_=>by simp [dJ] at h
 | [],_ :: _,[],_,h=>by simp [dJ] at h
 | [],_ :: _,_ :: _,_,_=>rfl
 | _ :: _,[],_,h,_=>by simp [dJ] at h
 | _ :: _,_ :: _,[],_,h=>by simp [dJ] at h
 | x :: a,y :: b,z :: c,h,h'=>by
  rw [dJ] at h h' ⊢
  by_cases e1:x=y
  ·rw [if_pos e1] at h
   by_cases e2:y=z
   ·rw [if_pos e2] at h'; rw [if_pos (e1.trans e2)]; exact ur h h'
   ·rw [if_neg e2] at h'; rw [if_neg (by omega)]; simp at h' ⊢; omega
  ·rw [if_neg e1] at h
   by_cases e2:y=z
   ·rw [if_neg (by omega)]; simp at h ⊢; omega
   ·rw [if_neg e2] at h'; simp at h h'; rw [if_neg (by omega)]; simp; omega
theorem oJ:∀ {a b:List Int},dJ a b=false->a≠b->dJ b a=true
 | [],[],_,h=>absurd rfl h
 | [],_ :: _,h,_=>by simp [dJ] at h
 | _ :: _,[],_,_=>rfl
 | x :: a,y :: b,h,hn=>by
  rw [dJ] at h ⊢
  by_cases e:x=y
  ·rw [if_pos e] at h; rw [if_pos e.symm]
   exact oJ h (fun e2=>hn (by rw [e,e2]))
  ·rw [if_neg e] at h; rw [if_neg (by omega)]; simp at h ⊢; omega
def Nd (L:List (List Int)):Prop:=∀ i j (hi:i<L.length) (hj:j<L.length),i<j->dJ L[i] L[j]=true
theorem jL (L:List (List Int)):Nd L↔L.Pairwise (fun a b=>dJ a b=true):=by
 rw [List.pairwise_iff_getElem];exact ⟨fun h i j hi hj vk=>h i j hi hj vk,fun h i j hi hj vk=>h i j hi hj vk⟩
end
section
open Go.RowKit
open Go.Proofs.Ob
open Go.Proofs.Cm (Gd Gr)
attribute [local irreducible] Go.Calls Go.wpList
def gC (d:Nat) (gs A:List (List Nat)):Prop:=Nd (A.map Ma.ah)/\∀ y,y∈A↔Gr d (·∈gs) y
theorem ja (h:Nd (A.map Ma.ah)):A.Nodup:=by
 rw [jL] at h;rw [List.pairwise_map] at h
 exact h.imp fun fX e=>by subst e; rw [sL] at fX; cases fX
theorem dn.at {l:List (List Nat)} (h:dn B F M W v l) {i:Nat} (hi:i<l.length):∃ b c u,v=.slice (some ⟨b,0,none⟩) l.length c/\l.length<=c/\b<W.heap.size/\W.cell? ⟨b,i,none⟩=some u/\FP F W u l[i]:=by
 obtain ⟨us,h1,h2⟩:=h.own;obtain ⟨-,a,c,rfl,h3,h4,h5⟩:=Rg.L9 h1 h2;rw [List.length_map] at h3;obtain ⟨g,rfl,hg,hx⟩:=h5 (by rw [List.length_map]; omega);obtain ⟨u,Af,ve⟩:=hx i (by simpa using hi);exact ⟨g,c,u,congrArg (fun n=>Value.slice _ n c) (List.length_map ..),h3,hg,Af,by rw [List.getElem_map] at ve; exact ve⟩
theorem dn.up0 {l:List (List Nat)} (h:dn B F (fun _=>False) W v l) (hb:Below W.heap.size W W'):dn B (cB F W W') (fun _=>False) W' v l :=
 h.upk (N:=fun _=>False) (Rg.Kp.aF hb) (fun _ _=>id) (fun _=>id)
theorem FP.Ph (F:Nat->Prop) (w:World):FP F w (.slice none 0 0) []:=⟨none,0,rfl,Nat.le_refl _,Nat.zero_le _,Nat.zero_le _,fun h=>absurd h (Nat.lt_irrefl 0)⟩

theorem dn.one {B:Nat} {F M:Nat->Prop} {W:World} {u:Value} {x:List Nat} (hB:B<=W.heap.size) (hu:FP F W u x) (hs:∃ a m c,u=.slice a m c) (hF:∀ k,F k->k<W.heap.size) (hM:∀ k,M k->k<W.heap.size) :
  dn B F M (W.alloc (.cells #[u] 27)) (.slice (some ⟨W.heap.size,0,none⟩) 1 1) [x]:=by
 have hb:Below W.heap.size W (W.alloc (.cells #[u] 27)):=(Below.refl _ _).alloc (Nat.le_refl _) _;refine ⟨Nat.le_trans hB hb.size,⟨[u],⟨rfl,.inr ⟨W.heap.size,1,#[u],rfl,hB,by show (W.heap.push _)[W.heap.size]?=_; simp,Nat.le_refl _,by decide,rfl,rfl⟩⟩,?_⟩,fun k e=>?_⟩
 ·exact Rg.bL.one (Rg.FI.kp hu (Rg.Kp.aF hb) (fun _ _=>id))
 ·simp only [Value.ownBlock,Option.some.injEq] at e
  subst e;exact ⟨fun h=>Nat.lt_irrefl _ (hF _ h),fun h=>Nat.lt_irrefl _ (hM _ h)⟩
end
section
open Go.Proofs.Cm (Gr Gd ar cy St Fx ap lq)
def lz (r A:List (List Nat)):List (List Nat):=r.flatMap fun u=>A.map (Ma.ak u)
theorem xi (r A:List (List Nat)):(lz r A).length=r.length*A.length:=by
 unfold lz
 induction r with
 | nil=>simp
 | cons u r ih=>rw [List.flatMap_cons,List.length_append,ih,List.length_map,List.length_cons,Nat.succ_mul,Nat.add_comm]
theorem mq {r:List (List Nat)} {x:List Nat}:x∈lz r A↔∃ u∈r,∃ z∈A,Ma.ak u z=x:=by
 unfold lz;simp only [List.mem_flatMap,List.mem_map]
def lS (n:Nat) (R:List (List (List Nat))):Nat->List (List Nat)
 | 0=>[Ma.bm n]
 | i+1=>lz (R.getD i []) (lS n R i)
structure PK (n:Nat) (H:List Nat->Prop) (i:Nat) (L:List (List Nat)):Prop where
 Qo:∀ z∈L,H z
 all:∀ x,H x->∃ s z,St H i s/\z∈L/\x=Ma.ak s z
 sep:∀ z z' s s',z∈L->z'∈L->St H i s->St H i s'->Ma.ak s z=Ma.ak s' z'->z=z'
 nd:L.Nodup
theorem PK.zero (hH:cy n H):PK n H 0 [Ma.bm n] :=
 ⟨fun z hz=>by rw [List.mem_singleton] at hz; subst hz; exact hH.one,fun x hx=>⟨x,Ma.bm n,⟨hx,fun j hj=>absurd hj (Nat.not_lt_zero _)⟩,by simp,(Cm.mul_one (hH.gd x hx)).symm⟩,fun z z' _ _ hz tE _ _ _=>by rw [List.mem_singleton] at hz tE; rw [hz,tE],by simp⟩
theorem xW (h:ar n H O R) {i:Nat} (hi:i<n) {k:Nat} (hk:k<(R.getD i []).length):lq n (fun z=>St H i z/\ap z i=(O.getD i []).getD k 0) (R.getD i [])[k]:=by
 have:=h.rep i k hi (by rw [<- h.len i hi]; exact hk)
 rwa [Cm.getD_in hk] at this
theorem uu (h:ar n H O R) {i:Nat} (hi:i<n) {u:List Nat} (hu:u∈R.getD i []):lq n (fun z=>St H i z/\ap z i=ap u i) u:=by
 obtain ⟨k,hk,rfl⟩:=List.getElem_of_mem hu;have:=xW h hi hk;have e:=this.1.2;rw [<- e] at this;exact this
theorem TN (h:ar n H O R) {i:Nat} (hi:i<n) {s:List Nat} (hs:St H i s):∃ u∈R.getD i [],St H i u/\ap u i=ap s i:=by
 obtain ⟨k,hk,e⟩:=List.getElem_of_mem ((h.orb i (ap s i) hi).2 ⟨s,hs,rfl⟩)
 have dy:k<(R.getD i []).length:=by rw [h.len i hi]; exact hk
 have h1:=(xW h hi dy).1;refine ⟨_,List.getElem_mem dy,h1.1,?_⟩;rw [h1.2,Cm.getD_in hk,e]
theorem Nf (h:ar n H O R) {i:Nat} (hi:i<n):(R.getD i []).Pairwise (fun u v=>ap u i<ap v i):=by
 rw [List.pairwise_iff_getElem];intro a b ha hb fX
 have iN:a<(O.getD i []).length:=by rw [<- h.len i hi]; exact ha
 have df:b<(O.getD i []).length:=by rw [<- h.len i hi]; exact hb
 rw [(xW h hi ha).1.2,(xW h hi hb).1.2,Cm.getD_in iN,Cm.getD_in df];exact (List.pairwise_iff_getElem.1 (h.jl i hi)) a b iN df fX
theorem PK.step (hH:cy n H) (h:ar n H O R) {i:Nat} (hi:i<n) {L:List (List Nat)} (hL:PK n H i L):PK n H (i+1) (lz (R.getD i []) L):=by
 have key:∀ u z u' z' s s',u∈R.getD i []->u'∈R.getD i []->z∈L->z'∈L->St H (i+1) s->St H (i+1) s'->Ma.ak s (Ma.ak u z)=Ma.ak s' (Ma.ak u' z')->z=z'/\u=u':=by
  intro u z u' z' s s' hu jt hz tE hs Ng e;have l1:=uu h hi hu;have l2:=uu h hi jt;have gs:=hH.gd _ hs.1;have gs':=hH.gd _ Ng.1;have gu:=hH.gd _ l1.1.1.1;have gu':=hH.gd _ l2.1.1.1;rw [<- Cm.mul_assoc gs gu,<- Cm.mul_assoc gs' gu'] at e;have a1:St H i (Ma.ak s u):=⟨hH.mul _ _ hs.1 l1.1.1.1,Fx.mul gs (Nat.le_of_lt hi) (hs.2.mono (Nat.le_succ _)) l1.1.1.2⟩;have a2:St H i (Ma.ak s' u'):=⟨hH.mul _ _ Ng.1 l2.1.1.1,Fx.mul gs' (Nat.le_of_lt hi) (Ng.2.mono (Nat.le_succ _)) l2.1.1.2⟩;have ez:=hL.sep z z' _ _ hz tE a1 a2 e;subst ez;have gz:=hH.gd _ (hL.Qo z hz);have e2:=congrArg (fun t=>Ma.ak t (Ma.aY z)) e;simp only [Cm.iO (Cm.bf gs gu) gz,Cm.iO (Cm.bf gs' gu') gz] at e2;have e3:=congrArg (fun t=>ap t i) e2;simp only [Cm.bM gs hi,Cm.bM gs' hi,hs.2 i (Nat.lt_succ_self _),Ng.2 i (Nat.lt_succ_self _)] at e3
  rw [<- e3] at l2;exact ⟨rfl,l1.uniq l2⟩
 refine ⟨fun y hy=>?_,fun x hx=>?_,fun y y' s s' hy x7 hs Ng e=>?_,?_⟩
 ·obtain ⟨u,hu,z,hz,rfl⟩:=mq.1 hy
  exact hH.mul _ _ (uu h hi hu).1.1.1 (hL.Qo z hz)
 ·obtain ⟨s,z,hs,hz,rfl⟩:=hL.all x hx
  obtain ⟨u,hu,su,eu⟩:=TN h hi hs;have gs:=hH.gd _ hs.1;have gu:=hH.gd _ su.1;refine ⟨Ma.ak s (Ma.aY u),Ma.ak u z,⟨hH.mul _ _ hs.1 (hH.inv _ su.1),fun j hj=>?_⟩,mq.2 ⟨u,hu,z,hz,rfl⟩,?_⟩
  ·rw [Cm.bM gs (by omega)]
   rcases Nat.lt_or_ge j i with e | e
   ·rw [hs.2 j e]
    exact Fx.inv gu (Nat.le_of_lt hi) su.2 j e
   ·obtain rfl:j=i:=by omega
    rw [<- eu];exact Cm.fl gu hi
  ·rw [<- Cm.mul_assoc (Cm.bf gs (Cm.aQ gu)) gu,Cm.mul_inv_cancel gs gu]
 ·obtain ⟨u,hu,z,hz,rfl⟩:=mq.1 hy
  obtain ⟨u',jt,z',tE,rfl⟩:=mq.1 x7;obtain ⟨rfl,rfl⟩:=key u z u' z' s s' hu jt hz tE hs Ng e;rfl
 ·have o1:St H (i+1) (Ma.bm n):=⟨hH.one,Fx.one (by omega)⟩
  have gm:∀ u∈R.getD i [],∀ z∈L,Gd n (Ma.ak u z):=fun u hu z hz=>Cm.bf (hH.gd _ (uu h hi hu).1.1.1) (hH.gd _ (hL.Qo z hz))
  have k2:∀ u∈R.getD i [],∀ u'∈R.getD i [],∀ z∈L,∀ z'∈L,Ma.ak u z=Ma.ak u' z'->z=z'/\u=u':=fun u hu u' jt z hz z' tE e =>
   key u z u' z' _ _ hu jt hz tE o1 o1 (by rw [e])
  unfold lz;rw [List.Nodup,List.pairwise_flatMap];refine ⟨fun u hu=>?_,?_⟩
  ·rw [List.pairwise_map]
   exact List.Pairwise.imp_of_mem (fun {a b} ha hb hne e=>hne (k2 u hu u hu a ha b hb e).1) hL.nd
  ·refine List.Pairwise.imp_of_mem (fun {u v} hu hv aw x hx y hy e=>?_) (Nf h hi)
   obtain ⟨z,hz,rfl⟩:=List.mem_map.1 hx;obtain ⟨z',tE,rfl⟩:=List.mem_map.1 hy;have:=(k2 u hu v hv z hz z' tE e).2;subst this;omega
theorem BK {n:Nat} {H:List Nat->Prop} (hH:cy n H) {O:List (List Nat)} {R:List (List (List Nat))} (h:ar n H O R):∀ {i:Nat},i<=n->PK n H i (lS n R i)
 | 0,_=>PK.zero hH
 | i+1,hi=>PK.step hH h hi (BK hH h (Nat.le_of_lt hi))
theorem zl (hH:cy n H) (h:ar n H O R):(lS n R n).Nodup/\∀ x,x∈lS n R n↔H x:=by
 have hp:=BK hH h (Nat.le_refl n);refine ⟨hp.nd,fun x=>⟨hp.Qo x,fun hx=>?_⟩⟩;obtain ⟨s,z,hs,hz,rfl⟩:=hp.all x hx;have e:=Fx.all (hH.gd _ hs.1) hs.2;rw [e,Cm.one_mul (hH.gd _ (hp.Qo z hz))];exact hz
theorem JI (hl:∀ i,i<n->(R.getD i []).length=(O.getD i []).length) (hO:O.length=n):(lS n R n).length=eH (O.map Ma.ah):=by
 have key:∀ i,i<=n->(lS n R i).length=eH ((O.take i).map Ma.ah):=by
  intro i
  induction i with
  | zero=>intro _; rfl
  | succ i ih =>
   intro hi;show (lz _ _).length=_;rw [xi,ih (by omega),hl i hi,List.take_succ_eq_append_getElem (by omega),List.map_append,List.map_singleton,qg,Ma.aB,dI (by omega),Nat.mul_comm]
 have:=key n (Nat.le_refl _)
 rwa [List.take_of_length_le (by omega)] at this
theorem gC.len {d:Nat} (hg:∀ s∈gs,Gd d s) (h:ar d (Gr d (·∈gs)) O R) (hA:gC d gs A):A.length=(lS d R d).length:=by
 obtain ⟨h1,h2⟩:=zl (Gr.dO hg) h;exact Nat.le_antisymm (eP (ja hA.1) fun x hx=>(h2 x).2 ((hA.2 x).1 hx)) (eP h1 fun x hx=>(hA.2 x).2 ((h2 x).1 hx))
end
section
open Go.Proofs.Cm (Gr Gd ar cy St Fx ap lq lexLt)
def Vh (i p:Nat) (a:List Nat) (j:Nat):Bool:=(ap a i == p) && (List.range j).all fun m=>ap a m == m
def JJ (i p:Nat) (a:List Nat):Bool:=Vh i p a i
theorem qm {i p:Nat} {a:List Nat}:JJ i p a=true↔Fx i a/\ap a i=p:=by
 unfold JJ Vh;rw [Bool.and_eq_true,beq_iff_eq,List.all_eq_true]
 constructor
 ·rintro ⟨h1,h2⟩; exact ⟨fun j hj=>by simpa using h2 j (List.mem_range.2 hj),h1⟩
 ·rintro ⟨h1,h2⟩; exact ⟨h2,fun j hj=>by simpa using h1 j (List.mem_range.1 hj)⟩
def oK (A:List (List Nat)) (i p:Nat):List Nat:=(List.range p).filter fun q=>A.any (JJ i q)
def sM (A:List (List Nat)) (i p:Nat):List (List Nat):=(oK A i p).map fun q=>(A.find? (JJ i q)).getD []
theorem zm (A:List (List Nat)) (i p:Nat):(sM A i p).length=(oK A i p).length:=by unfold sM; rw [List.length_map]
theorem BL (x:Nat) (a:List Nat):Ma.ah (x :: a)=((x:Nat):Int) :: Ma.ah a:=rfl
theorem sN:∀ {a z:List Nat},a.length=z.length->dJ (Ma.ah a) (Ma.ah z)=true->lexLt a.length a z
 | [],[],_,h=>by simp [Ma.ah,dJ] at h
 | [],_ :: _,e,_=>by simp at e
 | _ :: _,[],e,_=>by simp at e
 | x :: a,y :: z,e,h=>by
  rw [BL,BL,dJ] at h
  by_cases AL:x=y
  ·subst AL
   rw [if_pos rfl] at h;obtain ⟨j,h1,h2,h3⟩:=sN (by simpa using e) h;refine ⟨j+1,by simpa using h1,fun m hm=>?_,by simpa [ap] using h3⟩
   cases m with
   | zero=>rfl
   | succ m=>simpa [ap] using h2 m (by omega)
  ·rw [if_neg (by omega)] at h
   exact ⟨0,by simp,fun m hm=>absurd hm (Nat.not_lt_zero _),by simpa [ap] using h⟩
theorem ks {α:Type} (f:Nat->List α) {d i:Nat} (h:i<d):((List.range d).map f).getD i []=f i:=by
 rw [List.getD_eq_getElem?_getD,List.getElem?_map,List.getElem?_range h];rfl
theorem Nh {d:Nat} (hg:∀ s∈gs,Gd d s) (hA:gC d gs A) {i p:Nat} {a:List Nat} (h:A.find? (JJ i p)=some a):lq d (fun z=>St (Gr d (·∈gs)) i z/\ap z i=p) a:=by
 obtain ⟨h1,k,hk,rfl,h2⟩:=List.find?_eq_some_iff_getElem.1 h;have h3:=qm.1 h1;have gk:=(Gr.dO hg).gd _ ((hA.2 _).1 (List.getElem_mem hk));refine ⟨⟨⟨(hA.2 _).1 (List.getElem_mem hk),h3.1⟩,h3.2⟩,fun z hz=>?_⟩;obtain ⟨j,hj,rfl⟩:=List.getElem_of_mem ((hA.2 z).2 hz.1.1);have gj:=(Gr.dO hg).gd _ ((hA.2 _).1 (List.getElem_mem hj))
 rcases Nat.lt_trichotomy j k with e | e | e
 ·have h4:=h2 j e
  rw [qm.2 ⟨hz.1.2,hz.2⟩] at h4
  cases h4
 ·subst e; exact .inl rfl
 ·have h5:=hA.1 k j (by simpa using hk) (by simpa using hj) e
  simp only [List.getElem_map] at h5;have:=sN (gk.2.trans gj.2.symm) h5;rw [gk.2] at this;exact .inr this
theorem Gh {d:Nat} (hg:∀ s∈gs,Gd d s) (hA:gC d gs A):ar d (Gr d (·∈gs)) ((List.range d).map fun i=>oK A i d) ((List.range d).map fun i=>sM A i d):=by
 have hm:∀ {i p:Nat},i<d->(p∈oK A i d↔∃ x,St (Gr d (·∈gs)) i x/\ap x i=p):=by
  intro i p hi;unfold oK;rw [List.mem_filter,List.mem_range,List.any_eq_true]
  constructor
  ·rintro ⟨_,a,ha,hb⟩
   exact ⟨a,⟨(hA.2 a).1 ha,(qm.1 hb).1⟩,(qm.1 hb).2⟩
  ·rintro ⟨x,hx,rfl⟩
   exact ⟨Cm.cM ((Gr.dO hg).gd x hx.1) hi,x,(hA.2 x).2 hx.1,qm.2 ⟨hx.2,rfl⟩⟩
 refine ⟨by simp,by simp,fun i hi=>?_,fun i p hi=>?_,fun i hi=>?_,fun i k hi hk=>?_⟩
 ·rw [ks _ hi]
  exact List.Pairwise.filter _ List.pairwise_lt_range
 ·rw [ks _ hi]; exact hm hi
 ·rw [ks _ hi,ks _ hi]; exact zm A i d
 ·rw [ks _ hi] at hk ⊢
  rw [ks _ hi]
  have dy:k<(sM A i d).length:=by rw [zm]; exact hk
  rw [Cm.getD_in hk,Cm.getD_in dy]
  have e:(sM A i d)[k]=(A.find? (JJ i (oK A i d)[k])).getD []:=by simp only [sM,List.getElem_map]
  rw [e];have hp:=List.getElem_mem hk;unfold oK at hp;rw [List.mem_filter] at hp
  cases hf:A.find? (JJ i (oK A i d)[k]) with
  | none =>
   exfalso
   obtain ⟨a,ha,hb⟩:=List.any_eq_true.1 hp.2;have:=List.find?_eq_none.1 hf a ha;exact this hb
  | some a=>exact Nh hg hA hf
end
section
open Go.RowKit
open Go.Proofs.Cm (Gd Gr ap)
attribute [local irreducible] Go.Calls Go.wpList
theorem FP.own {x:List Nat} {m:Nat} (h:W'.ownsRow W.heap.size 3 1 v m ((Ma.ah x).map (Value.int .i64))) (hm:m<=1000000000):FP (cB F W W') W' v x :=
 Rg.c_.of (Rg.cN.dL h hm) (fun k e=>.inr (h.lt k e))
theorem uw {b o:Nat} {u:Value} (h:W.cell? ⟨b,o,none⟩=some u) (hk:Rg.Kp M W X) (hM:¬ M b):X.cell? ⟨b,o,none⟩=some u:=(World.cell?_of_block (a:=⟨b,o,none⟩) (hk.block b (eQ h) hM)).trans h
def DH (A:List (List Nat)) (n:Nat):List (List Nat):=(List.range n).map fun i=>oK A i n
def DI (A:List (List Nat)) (n:Nat):List (List (List Nat)):=(List.range n).map fun i=>sM A i n
end
end Go.Proofs.YtpedbljnhnoohaaGreat
namespace Go.Proofs.Km
open Go Go.RowKit
open Go.ChangeMaps
structure KT (P:Program) (t k e v:TypeId) (n:Nat) (z:Value):Prop where
 ht:P.underlying t=some (.map k v)
 hk:P.underlying k=some (.array n e)
 he:P.underlying e=some (.int .u8)
 hs:∀ w,(sizeOf e).run P w=.ok 1 w
 hz:∀ w,(zeroValue v).run P w=.ok z w
section
variable {P:Program} {t k e v:TypeId} {n:Nat} {z:Value}
end
end Go.Proofs.Km
namespace Go.Proofs.YtpedbljnhnoohaaGreat
open Go.RowKit
open Go.Proofs
section
open Go.Proofs.Ob
attribute [local irreducible] Go.Calls Go.wpList
theorem Lg (n:Nat) (hn:n<=1000000) (w:World):(Instr.makeSlice 26 (.int .i64 (n:Int)) (.int .i64 (n:Int))).run Tryz.prog w=.ok (.slice (some ⟨w.heap.size,0,none⟩) n n) (w.alloc (.cells (madeCells #[.int .i64 0] n) 3)) :=
 run_make_row' 26 3 (.int .i64 0) 8 Tryz.underlying26 tq rfl .i64 .i64 n (by omega) (by omega) w
end
section
open Go.Proofs.Ob
open Go.Proofs.Cm (Gd Gr ar ap)
attribute [local irreducible] Go.Calls Go.wpList
def bX (O:List (List Nat)) (N:Nat):Nat->Nat
 | 0=>1
 | d+1=>(O.getD (N - (d+1)) []).length*bX O N d
theorem xX {O:List (List Nat)} {N:Nat} (hN:N<=12) (h:∀ i,i<N->(O.getD i []).length<=N - i):∀ d,d<=N->bX O N d<=12 ^ d
 | 0,_=>Nat.le_refl _
 | d+1,hd=>by
  have h1:=xX hN h d (by omega);have h2:=h (N - (d+1)) (by omega);show _*bX O N d<=12 ^ (d+1);rw [Nat.pow_succ,Nat.mul_comm (12 ^ d) 12];exact Nat.mul_le_mul (by omega) h1
theorem Gi (h1:1<=n) (h2:n<=12):(8916100448256:Int)<=Int.tdiv 1000000000000000000 ((n:Nat):Int):=by
 have key:∀ n:Fin 13,1<=n.1->(8916100448256:Int)<=Int.tdiv 1000000000000000000 ((n.1:Nat):Int):=by decide
 exact key ⟨n,by omega⟩ h1
def mX (O:List (List Nat)) (N i:Nat) (j:Nat):Int:=if i<=j then ((bX O N (N - j):Nat):Int) else 0
theorem Gj {i:Nat} (hi:i<N):∀ t,t<N+1->(if t=i then (((O.getD i []).length*bX O N (N - (i+1)):Nat):Int) else mX O N (i+1) t)=mX O N i t:=fun t _=>by
 unfold mX
 by_cases e:t=i
 ·subst e
  rw [if_pos rfl,if_pos (Nat.le_refl _),show N - t=(N - (t+1))+1 by omega,bX,show N - (N - (t+1)+1)=t by omega]
 ·rw [if_neg e]
  by_cases h:i<=t
  ·rw [if_pos (by omega),if_pos h]
  ·rw [if_neg (by omega),if_neg h]
def Lh (O:List (List Nat)) (N:Nat) (w:World) (ed:Ending) (w':World):Prop:=∃ g,ed=.returned (.tuple #[.slice (some ⟨g,0,none⟩) (N+1) (N+1),.bool true])/\fM w' g (N+1) (mX O N 0)/\w.heap.size<=g/\Below w.heap.size w w'
theorem DJ (aR:1<=N) (aX:N<=12) (hH:Cm.cy N H) (bR:ar N H O R) {w:World} (h:ba w ov rv (O.map Ma.ah) (R.map (List.map Ma.ah))) :
  Calls Tryz.prog 151 #[.agg #[.int .i64 ((N:Nat):Int),ov,rv]] w (Lh O N w):=by
 obtain ⟨ob,oo,oc,rb,ro,rc,rfl,rfl,-,-⟩:=ep bR h (i:=0) aR;have HH:=U hH;have cX:=U bR;have CE:=U h;have Qp:=U aX;have K:=U (Below.refl w.heap.size w);have tQ:=U (fun i hi=>gX hH bR (i:=i) hi);have W6:=U (fun i (hi:i<N)=>List.length_pos_of_mem ((bR.orb i i hi).2 ⟨Ma.bm N,⟨hH.one,Cm.Fx.one (by omega)⟩,Cm.dD hi⟩));clear h hH bR
 go_enter Tryz.func151,Tryz.ntmps151
 go_upto_region 0 with fail;refine b6 ?_;have aJ:=dX w (.int .i64 ((N:Nat):Int)) (.slice (some ⟨ob,oo,none⟩) N oc) (.slice (some ⟨rb,ro,none⟩) N rc);refine k5 (Rg.aS _ _ rfl rfl) ?_;go_frame;have hb:=(Below.refl w.heap.size w).alloc (Nat.le_refl _) (.cells #[.int .i64 ((N:Nat):Int),.slice (some ⟨ob,oo,none⟩) N oc,.slice (some ⟨rb,ro,none⟩) N rc] 25);generalize w.alloc (.cells #[.int .i64 ((N:Nat):Int),.slice (some ⟨ob,oo,none⟩) N oc,.slice (some ⟨rb,ro,none⟩) N rc] 25)=w1 at *;replace CE:=U (CE.u.p hb);replace K:=U (Rg.acc K.u hb);clear hb;have A0:=U aJ.1;have A1:=U aJ.2.1;have A2:=U aJ.2.2;clear aJ
 refine j7 rfl<|j9 rfl ?_;go_frame
 go_upto_region 1 with fail
 refine b6<|k5 (j0 (cP _ _))<|k5 (g7 (.int .i64 ((N:Nat):Int)) ⟨w.heap.size,0,none⟩ (af A0.u.cell))<|k5 (g8 (.int .i64 (((N+1):Nat):Int)) .add (h:=bQ _ (by omega) (by omega)))<|k5 (o5 _ _ _ rfl _ _ rfl rfl (Lg (N+1) (by omega) w1)) ?_;go_frame
 refine j7 rfl ?_;go_frame;have kU:=zj w1 (N+1);have Qq:Below w1.heap.size w1 (w1.alloc (.cells (madeCells #[.int .i64 0] (N+1)) 3)):=(Below.refl _ _).alloc (Nat.le_refl _) _;obtain ⟨gb,sy⟩:∃ b,w1.heap.size=b:=⟨_,rfl⟩;have JK:=U (show w1.heap.size<=gb from Nat.le_of_eq sy);rw [sy] at kU ⊢;generalize w1.alloc (.cells (madeCells #[.int .i64 0] (N+1)) 3)=wf at *;have RW:=U kU;have KE:=U Qq;have W7:=U (show w.heap.size<=gb from Nat.le_trans K.u.size JK.u);clear kU Qq sy;go_upto_region 2 with fail
 refine b6<|j7 rfl<|k5 (j0 (cP _ _))<|k5 (g7 (.int .i64 ((N:Nat):Int)) ⟨w.heap.size,0,none⟩ (af ((Below.cell (p:=⟨w.heap.size,0,none⟩) KE.u A0.u.lt).trans A0.u.cell)))<|k5 (ag aO _ _ rfl gb (0) ((N+1)) (N+1) (N) rfl rfl (Nat.lt_succ_self N)) ?_;go_frame
 refine Rg.aL none rfl rfl (Rg.aq _ _ _ rfl _ rfl _ rfl (dN 1 (by rw [Nat.zero_add]; exact RW.u.2.1 N (Nat.lt_succ_self N)) (by rw [Nat.zero_add]; exact RW.u.2.2 N))) ?_;go_frame
 have kU:fM (wf.setCell ⟨gb,0+N,none⟩ (.int .i64 1)) gb (N+1) (mX O N N):=by
  rw [Nat.zero_add];refine (RW.u.set N 1 (Nat.lt_succ_self N)).congr fun t ht=>?_;unfold mX
  by_cases e:t=N
  ·subst e; rw [if_pos rfl,if_pos (Nat.le_refl _),Nat.sub_self]; rfl
  ·rw [if_neg e,if_neg (by omega)]
 have pE:=KE.u.setCell (p:=⟨gb,0+N,none⟩) JK.u (.int .i64 1);generalize wf.setCell ⟨gb,0+N,none⟩ (.int .i64 1)=wg at *;clear RW KE;have RW:=U kU;have KE:=U pE;clear kU pE;obtain ⟨i0,mE⟩:∃ i0,Hid (N=i0+1):=⟨N - 1,U (by omega)⟩;go_upto_region 3 with fail
 refine b6<|k5 (j0 (cP _ _))<|k5 (g7 (.int .i64 ((N:Nat):Int)) ⟨w.heap.size,0,none⟩ (af ((Below.cell (p:=⟨w.heap.size,0,none⟩) KE.u A0.u.lt).trans A0.u.cell)))<|k5 (g8 (.int .i64 (((N:Nat):Int) - 1)) .sub (h:=mI _ (by omega) (by omega)))<|j6 rfl ?_;go_frame
 have KX:=KE;clear mE i0;go_wp2
 go_loopw [5] (fun iv wr=>∃ i:Nat,iv=.int .i64 (((i:Nat):Int) - 1)/\i<=N/\Hid (fM wr gb (N+1) (mX O N i))/\Hid (Below w1.heap.size w1 wr)) (fun iv _=>(intOf iv+1).toNat)
 case atStart=>exact ⟨N,rfl,Nat.le_refl _,RW,KE⟩
 case round =>
  clear RW KE KX;obtain ⟨i,rfl,hi,RW,KE⟩:=hrel;generalize wr=wd at *;have o6:N<=12:=Qp.u
  cases i with
  | zero =>
   have KT:=U (show Below w.heap.size w wd from K.u.trans (KE.u.mono K.u.size));go_upto_region 4 with fail
   refine b6<|j6 rfl<|k5 (g8 (.bool false) .geq (h:=mK _ f8)) ?_;go_frame
   go_upto_region 10 with fail
   refine b6<|j7 rfl<|j7 rfl<|j9 rfl ?_;go_frame
   go_wp2
   go_ret2
   exact ⟨gb,rfl,RW.u,W7.u,KT.u⟩
  | succ i =>
   have HI:=U (show i<N by omega)
   have aP:i<N:=by omega
   obtain ⟨ob',oo',Ts,rb',ro',rc',e1,e2,⟨ua,uc,oL,ly⟩,-⟩:=ep cX.u CE.u aP
   injection e1 with e1 _ e9
   subst e9
   injection e1 with e1
   injection e1 with e3 e4
   subst e3 e4;clear e2;obtain ⟨n,hn⟩:∃ n:Nat,Hid ((O.getD i []).length=n):=⟨_,U rfl⟩;have Qr:=tQ.u i aP;have Gk:=W6.u i aP;rw [hn.u] at oL Qr Gk;have CO:=U oL;obtain ⟨s,hs⟩:∃ s:Nat,Hid (bX O N (N - (i+1))=s):=⟨_,U rfl⟩
   have Gl:s<=743008370688:=by
    have h5:=xX o6 tQ.u (N - (i+1)) (by omega);rw [hs.u] at h5;have h6:=Nat.pow_le_pow_right (n:=12) (by decide) (show N - (i+1)<=11 by omega)
    have e:(12:Nat) ^ 11=743008370688:=by decide
    omega
   obtain ⟨q,hq⟩:∃ q:Int,Hid (Int.tdiv 1000000000000000000 ((n:Nat):Int)=q):=⟨_,U rfl⟩
   have W8:8916100448256<=q:=by rw [<- hq.u]; exact Gi Gk (by omega)
   have W9:q<=1000000000000000000:=by rw [<- hq.u]; exact Int.tdiv_le_self _ (by decide)
   have W_:=U (show decide (((s:Nat):Int) > q)=false from decide_eq_false (by omega));have Xa:=U (show -9223372036854775808<=q/\q<=9223372036854775807 by omega);have vA:=U (show ((n:Nat):Int)≠0 by omega)
   have Xb:n*s<=8916100448256:=by
    have h5:=Nat.mul_le_mul (show n<=12 by omega) Gl;omega
   have Xc:=U (show ((n:Nat):Int)*((s:Nat):Int)=(((n*s):Nat):Int) by rw [Int.natCast_mul]);have xJ:=U (show -9223372036854775808<=(((n*s):Nat):Int)/\(((n*s):Nat):Int)<=9223372036854775807 by omega)
   have sO:=U (show CL wd gb (0+(i+1)) (.int .i64 ((s:Nat):Int)) from CL.mk (by
    rw [Nat.zero_add,RW.u.2.1 (i+1) (by omega)];unfold mX
    rw [if_pos (Nat.le_refl _),hs.u]) RW.u.1)
   clear oL ly Gl W8 W9 Xb;have EI:=U (show ((((i+1:Nat)):Int) - 1)=((i:Nat):Int) by omega);rw [EI.u];go_upto_region 4 with fail
   refine b6<|j6 rfl<|k5 (g8 (.bool true) .geq (h:=mK _ f7)) ?_;go_frame
   go_upto_region 6 with fail
   refine b6<|k5 (j0 (cn _ _))<|k5 (g7 (.slice (some ⟨ob,oo,none⟩) N oc) ⟨w.heap.size,1,none⟩ (Rg.ae _ _ Tryz.underlying22 ((Below.cell (p:=⟨w.heap.size,1,none⟩) KE.u A1.u.lt).trans A1.u.cell)))<|j6 rfl<|k5 (ag bI _ _ rfl ob (oo) (N) oc (i) rfl rfl HI.u) ?_;go_frame
   refine k5 (g7 (.slice ua n uc) ⟨ob,oo+i,none⟩ (Rg.ae _ _ Tryz.underlying26 ((Below.cell (p:=⟨ob,oo+i,none⟩) KE.u CO.u.lt).trans CO.u.cell)))<|k5 (g9 Tryz.underlying26)<|j6 rfl ?_;go_frame
   go_upto_region 7 with fail;have aj:Below wd.heap.size wd wd.drew:=(Below.refl _ _).drew;replace sO:=U (sO.u.p aj);replace RW:=U (RW.u.p aj);replace KE:=U (Rg.acc KE.u aj);clear aj;refine Rg.Any.begin (S:=Rg.aG 7 (fun W=>Below wd.drew.heap.size wd.drew W) (fun W=>Below w1.heap.size w1 W)) mix ?_;generalize wd.drew=lT at *;have hS:∀ (l:Array Bool) W,Below lT.heap.size lT W->Below w1.heap.size w1 W->Rg.aG 7 (fun W=>Below lT.heap.size lT W) (fun W=>Below w1.heap.size w1 W) l W:=fun l W h h2=>⟨.inr h,h2⟩;have cT:∀ (l:Array Bool) W,l.getD 7 false=true->Below w1.heap.size w1 W->Rg.aG 7 (fun W=>Below lT.heap.size lT W) (fun W=>Below w1.heap.size w1 W) l W:=fun l W h h2=>⟨.inl h,h2⟩;have hI:=KE.u
   refine d7 0 7 (.slice (some ⟨gb,0,none⟩) (N+1) (N+1)) 28 rfl rfl (i9 fun w=>Rg.bK (v:=.slice (some ⟨gb,0,none⟩) (N+1) (N+1)) _ rfl rfl) (hS _ _ (Below.refl _ _) hI)<|d7 1 7 (.int .i64 ((i:Nat):Int)) 29 rfl rfl (i9 fun w=>Rg.bK (v:=.int .i64 ((i:Nat):Int)) _ rfl rfl) (hS _ _ (Below.refl _ _) hI)<|d7 2 7 (.int .i64 (((i+1):Nat):Int)) 30 rfl rfl (i9 fun w=>bY (R:=.int .i64 (((i+1):Nat):Int)) .add _ _ _ rfl rfl rfl (bQ _ (by omega) (by omega))) (hS _ _ (Below.refl _ _) hI)<|d7 3 7 (.pointer (some ⟨gb,0+(i+1),none⟩)) 31 rfl rfl (Rg.ai aO _ _ rfl rfl gb (0) ((N+1)) (N+1) ((i+1)) rfl rfl (by omega)) (hS _ _ (Below.refl _ _) hI)<|i6 4 7 (.int .i64 ((s:Nat):Int)) 32 rfl rfl (i8 ⟨gb,0+(i+1),none⟩ (fun W hW=>af ((Below.cell (p:=⟨gb,0+(i+1),none⟩) hW sO.u.lt).trans sO.u.cell))) (hS _ _ (Below.refl _ _) hI) ?_;go_frame
   refine d7 5 7 (.int .i64 ((n:Nat):Int)) 33 rfl rfl (i9 fun w=>Rg.bK (v:=.int .i64 ((n:Nat):Int)) _ rfl rfl) (hS _ _ (Below.refl _ _) hI)<|d7 6 7 (.int .i64 q) 34 rfl rfl (i9 fun w=>bY (R:=.int .i64 q) .quo _ _ _ rfl rfl rfl (Ib _ vA.u hq.u Xa.u)) (hS _ _ (Below.refl _ _) hI)<|i7 7 35 rfl rfl (g8 (.bool false) .gtr (h:=bl _ W_.u)) (cT _ _ rfl hI) ?_;go_frame
   refine Rg.Any.done (by kernel_rfl) ?_ _;replace KE:=U hI;clear cT;clear hS hI;go_upto_region 9 with fail
   refine b6<|j7 rfl<|j6 rfl<|j6 rfl<|j7 rfl ?_;go_frame
   refine j6 rfl<|k5 (g8 (.int .i64 (((i+1):Nat):Int)) .add (h:=bQ _ (by omega) (by omega)))<|k5 (ag aO _ _ rfl gb (0) ((N+1)) (N+1) ((i+1)) rfl rfl (by omega))<|k5 (g7 (.int .i64 ((s:Nat):Int)) ⟨gb,0+(i+1),none⟩ (af sO.u.cell))<|k5 (g8 (.int .i64 (((n*s):Nat):Int)) .mul (h:=Ia _ Xc.u xJ.u)) ?_;go_frame
   refine k5 (ag aO _ _ rfl gb (0) ((N+1)) (N+1) (i) rfl rfl (by omega))<|Rg.aL none rfl rfl (Rg.aq _ _ _ rfl _ rfl _ rfl (dN (((n*s):Nat):Int) (by rw [Nat.zero_add]; exact RW.u.2.1 i (by omega)) (by rw [Nat.zero_add]; exact RW.u.2.2 i))) ?_;go_frame
   have Qs:=RW;have pE:=KE.u.setCell (p:=⟨gb,0+i,none⟩) JK.u (.int .i64 (((n*s):Nat):Int))
   have kU:fM (lT.setCell ⟨gb,0+i,none⟩ (.int .i64 (((n*s):Nat):Int))) gb (N+1) (mX O N i):=by
    rw [Nat.zero_add];have h5:=Gj (O:=O) aP;rw [hn.u,hs.u] at h5;exact (Qs.u.set i (((n*s):Nat):Int) (by omega)).congr h5
   generalize lT.setCell ⟨gb,0+i,none⟩ (.int .i64 (((n*s):Nat):Int))=wh at *;have Jb:=U kU;have Xd:=U pE;clear kU pE;go_upto_region 5 with fail
   refine b6<|j6 rfl<|k5 (g8 (.int .i64 (((i:Nat):Int) - 1)) .sub (h:=mI _ (by omega) (by omega)))<|j6 rfl ?_;go_frame
   go_wp2
   go_roundw
   case rel=>exact ⟨i,rfl,by omega,Jb,Xd⟩
   case measure=>simp [intOf]
theorem ux (aR:1<=N) (aX:N<=12) (hH:Cm.cy N H) (bR:ar N H O R) {w:World} (h:ba w ov rv (O.map Ma.ah) (R.map (List.map Ma.ah))) :
  Calls Tryz.prog 82 #[.agg #[.int .i64 ((N:Nat):Int),ov,rv]] w (Lh O N w):=by
 obtain ⟨ob,oo,oc,rb,ro,rc,rfl,rfl,-,-⟩:=ep bR h (i:=0) aR;have HH:=U hH;have cX:=U bR;have CE:=U h;have Qp:=U aX;have K:=U (Below.refl w.heap.size w);have tQ:=U (fun i hi=>gX hH bR (i:=i) hi);have W6:=U (fun i (hi:i<N)=>List.length_pos_of_mem ((bR.orb i i hi).2 ⟨Ma.bm N,⟨hH.one,Cm.Fx.one (by omega)⟩,Cm.dD hi⟩));clear h hH bR
 go_enter Tryz.func82,Tryz.ntmps82
 go_upto_region 0 with fail;refine b6 ?_;have aJ:=dX w (.int .i64 ((N:Nat):Int)) (.slice (some ⟨ob,oo,none⟩) N oc) (.slice (some ⟨rb,ro,none⟩) N rc);refine k5 (Rg.aS _ _ rfl rfl) ?_;go_frame;have hb:=(Below.refl w.heap.size w).alloc (Nat.le_refl _) (.cells #[.int .i64 ((N:Nat):Int),.slice (some ⟨ob,oo,none⟩) N oc,.slice (some ⟨rb,ro,none⟩) N rc] 25);generalize w.alloc (.cells #[.int .i64 ((N:Nat):Int),.slice (some ⟨ob,oo,none⟩) N oc,.slice (some ⟨rb,ro,none⟩) N rc] 25)=w1 at *;replace CE:=U (CE.u.p hb);replace K:=U (Rg.acc K.u hb);clear hb;have A0:=U aJ.1;have A1:=U aJ.2.1;have A2:=U aJ.2.2;clear aJ
 refine j7 rfl<|j9 rfl ?_;go_frame
 go_upto_region 1 with fail
 refine b6<|k5 (j0 (cP _ _))<|k5 (g7 (.int .i64 ((N:Nat):Int)) ⟨w.heap.size,0,none⟩ (af A0.u.cell))<|k5 (g8 (.int .i64 (((N+1):Nat):Int)) .add (h:=bQ _ (by omega) (by omega)))<|k5 (o5 _ _ _ rfl _ _ rfl rfl (Lg (N+1) (by omega) w1)) ?_;go_frame
 refine j7 rfl ?_;go_frame;have kU:=zj w1 (N+1);have Qq:Below w1.heap.size w1 (w1.alloc (.cells (madeCells #[.int .i64 0] (N+1)) 3)):=(Below.refl _ _).alloc (Nat.le_refl _) _;obtain ⟨gb,sy⟩:∃ b,w1.heap.size=b:=⟨_,rfl⟩;have JK:=U (show w1.heap.size<=gb from Nat.le_of_eq sy);rw [sy] at kU ⊢;generalize w1.alloc (.cells (madeCells #[.int .i64 0] (N+1)) 3)=wf at *;have RW:=U kU;have KE:=U Qq;have W7:=U (show w.heap.size<=gb from Nat.le_trans K.u.size JK.u);clear kU Qq sy;go_upto_region 2 with fail
 refine b6<|j7 rfl<|k5 (j0 (cP _ _))<|k5 (g7 (.int .i64 ((N:Nat):Int)) ⟨w.heap.size,0,none⟩ (af ((Below.cell (p:=⟨w.heap.size,0,none⟩) KE.u A0.u.lt).trans A0.u.cell)))<|k5 (ag aO _ _ rfl gb (0) ((N+1)) (N+1) (N) rfl rfl (Nat.lt_succ_self N)) ?_;go_frame
 refine Rg.aL none rfl rfl (Rg.aq _ _ _ rfl _ rfl _ rfl (dN 1 (by rw [Nat.zero_add]; exact RW.u.2.1 N (Nat.lt_succ_self N)) (by rw [Nat.zero_add]; exact RW.u.2.2 N))) ?_;go_frame
 have kU:fM (wf.setCell ⟨gb,0+N,none⟩ (.int .i64 1)) gb (N+1) (mX O N N):=by
  rw [Nat.zero_add];refine (RW.u.set N 1 (Nat.lt_succ_self N)).congr fun t ht=>?_;unfold mX
  by_cases e:t=N
  ·subst e; rw [if_pos rfl,if_pos (Nat.le_refl _),Nat.sub_self]; rfl
  ·rw [if_neg e,if_neg (by omega)]
 have pE:=KE.u.setCell (p:=⟨gb,0+N,none⟩) JK.u (.int .i64 1);generalize wf.setCell ⟨gb,0+N,none⟩ (.int .i64 1)=wg at *;clear RW KE;have RW:=U kU;have KE:=U pE;clear kU pE;obtain ⟨i0,mE⟩:∃ i0,Hid (N=i0+1):=⟨N - 1,U (by omega)⟩;go_upto_region 3 with fail
 refine b6<|k5 (j0 (cP _ _))<|k5 (g7 (.int .i64 ((N:Nat):Int)) ⟨w.heap.size,0,none⟩ (af ((Below.cell (p:=⟨w.heap.size,0,none⟩) KE.u A0.u.lt).trans A0.u.cell)))<|k5 (g8 (.int .i64 (((N:Nat):Int) - 1)) .sub (h:=mI _ (by omega) (by omega)))<|j6 rfl ?_;go_frame
 have KX:=KE;clear mE i0;go_wp2
 go_loopw [5] (fun iv wr=>∃ i:Nat,iv=.int .i64 (((i:Nat):Int) - 1)/\i<=N/\Hid (fM wr gb (N+1) (mX O N i))/\Hid (Below w1.heap.size w1 wr)) (fun iv _=>(intOf iv+1).toNat)
 case atStart=>exact ⟨N,rfl,Nat.le_refl _,RW,KE⟩
 case round =>
  clear RW KE KX;obtain ⟨i,rfl,hi,RW,KE⟩:=hrel;generalize wr=wd at *;have o6:N<=12:=Qp.u
  cases i with
  | zero =>
   have KT:=U (show Below w.heap.size w wd from K.u.trans (KE.u.mono K.u.size));go_upto_region 4 with fail
   refine b6<|j6 rfl<|k5 (g8 (.bool false) .geq (h:=mK _ f8)) ?_;go_frame
   go_upto_region 9 with fail
   refine b6<|j7 rfl<|j7 rfl<|j9 rfl ?_;go_frame
   go_wp2
   go_ret2
   exact ⟨gb,rfl,RW.u,W7.u,KT.u⟩
  | succ i =>
   have HI:=U (show i<N by omega)
   have aP:i<N:=by omega
   obtain ⟨ob',oo',Ts,rb',ro',rc',e1,e2,⟨ua,uc,oL,ly⟩,-⟩:=ep cX.u CE.u aP
   injection e1 with e1 _ e9
   subst e9
   injection e1 with e1
   injection e1 with e3 e4
   subst e3 e4;clear e2;obtain ⟨n,hn⟩:∃ n:Nat,Hid ((O.getD i []).length=n):=⟨_,U rfl⟩;have Qr:=tQ.u i aP;have Gk:=W6.u i aP;rw [hn.u] at oL Qr Gk;have CO:=U oL;obtain ⟨s,hs⟩:∃ s:Nat,Hid (bX O N (N - (i+1))=s):=⟨_,U rfl⟩
   have Gl:s<=743008370688:=by
    have h5:=xX o6 tQ.u (N - (i+1)) (by omega);rw [hs.u] at h5;have h6:=Nat.pow_le_pow_right (n:=12) (by decide) (show N - (i+1)<=11 by omega)
    have e:(12:Nat) ^ 11=743008370688:=by decide
    omega
   obtain ⟨q,hq⟩:∃ q:Int,Hid (Int.tdiv 1000000000000000000 ((n:Nat):Int)=q):=⟨_,U rfl⟩
   have W8:8916100448256<=q:=by rw [<- hq.u]; exact Gi Gk (by omega)
   have W9:q<=1000000000000000000:=by rw [<- hq.u]; exact Int.tdiv_le_self _ (by decide)
   have W_:=U (show decide (((s:Nat):Int) > q)=false from decide_eq_false (by omega));have Xa:=U (show -9223372036854775808<=q/\q<=9223372036854775807 by omega);have vA:=U (show ((n:Nat):Int)≠0 by omega)
   have Xb:n*s<=8916100448256:=by
    have h5:=Nat.mul_le_mul (show n<=12 by omega) Gl;omega
   have Xc:=U (show ((n:Nat):Int)*((s:Nat):Int)=(((n*s):Nat):Int) by rw [Int.natCast_mul]);have xJ:=U (show -9223372036854775808<=(((n*s):Nat):Int)/\(((n*s):Nat):Int)<=9223372036854775807 by omega)
   have sO:=U (show CL wd gb (0+(i+1)) (.int .i64 ((s:Nat):Int)) from CL.mk (by
    rw [Nat.zero_add,RW.u.2.1 (i+1) (by omega)];unfold mX
    rw [if_pos (Nat.le_refl _),hs.u]) RW.u.1)
   clear oL ly Gl W8 W9 Xb;have EI:=U (show ((((i+1:Nat)):Int) - 1)=((i:Nat):Int) by omega);rw [EI.u];go_upto_region 4 with fail
   refine b6<|j6 rfl<|k5 (g8 (.bool true) .geq (h:=mK _ f7)) ?_;go_frame
   have aan:=U (show ((s:Nat):Int)*((n:Nat):Int)=(((n*s):Nat):Int) by rw [Int.mul_comm]; exact Xc.u);go_upto_region 6 with fail;have aj:Below wd.heap.size wd wd.drew:=(Below.refl _ _).drew;replace sO:=U (sO.u.p aj);replace RW:=U (RW.u.p aj);replace KE:=U (Rg.acc KE.u aj);clear aj;refine Rg.Any.begin (S:=Rg.aG 12 (fun W=>Below wd.drew.heap.size wd.drew W) (fun W=>Below w1.heap.size w1 W)) mix ?_;generalize wd.drew=lT at *;have hS:∀ (l:Array Bool) W,Below lT.heap.size lT W->Below w1.heap.size w1 W->Rg.aG 12 (fun W=>Below lT.heap.size lT W) (fun W=>Below w1.heap.size w1 W) l W:=fun l W h h2=>⟨.inr h,h2⟩;have cT:∀ (l:Array Bool) W,l.getD 12 false=true->Below w1.heap.size w1 W->Rg.aG 12 (fun W=>Below lT.heap.size lT W) (fun W=>Below w1.heap.size w1 W) l W:=fun l W h h2=>⟨.inl h,h2⟩;have hI:=KE.u
   refine d7 0 12 (.slice (some ⟨gb,0,none⟩) (N+1) (N+1)) 21 rfl rfl (i9 fun w=>Rg.bK (v:=.slice (some ⟨gb,0,none⟩) (N+1) (N+1)) _ rfl rfl) (hS _ _ (Below.refl _ _) hI)<|d7 1 12 (.int .i64 ((i:Nat):Int)) 22 rfl rfl (i9 fun w=>Rg.bK (v:=.int .i64 ((i:Nat):Int)) _ rfl rfl) (hS _ _ (Below.refl _ _) hI)<|d7 2 12 (.int .i64 (((i+1):Nat):Int)) 23 rfl rfl (i9 fun w=>bY (R:=.int .i64 (((i+1):Nat):Int)) .add _ _ _ rfl rfl rfl (bQ _ (by omega) (by omega))) (hS _ _ (Below.refl _ _) hI)<|d7 3 12 (.pointer (some ⟨gb,0+(i+1),none⟩)) 24 rfl rfl (Rg.ai aO _ _ rfl rfl gb (0) ((N+1)) (N+1) ((i+1)) rfl rfl (by omega)) (hS _ _ (Below.refl _ _) hI)<|i6 4 12 (.int .i64 ((s:Nat):Int)) 25 rfl rfl (i8 ⟨gb,0+(i+1),none⟩ (fun W hW=>af ((Below.cell (p:=⟨gb,0+(i+1),none⟩) hW sO.u.lt).trans sO.u.cell))) (hS _ _ (Below.refl _ _) hI) ?_;go_frame
   refine d7 5 12 (.pointer (some ⟨w.heap.size,1,none⟩)) 26 rfl rfl (i9 fun w=>aA _ rfl rfl (cn _ _)) (hS _ _ (Below.refl _ _) hI)<|d7 6 12 (.slice (some ⟨ob,oo,none⟩) N oc) 27 rfl rfl (i8 ⟨w.heap.size,1,none⟩ (fun W hW=>Rg.ae _ _ Tryz.underlying22 ((Below.cell (p:=⟨w.heap.size,1,none⟩) hW A1.u.lt).trans A1.u.cell))) (hS _ _ (Below.refl _ _) hI)<|d7 7 12 (.int .i64 ((i:Nat):Int)) 28 rfl rfl (i9 fun w=>Rg.bK (v:=.int .i64 ((i:Nat):Int)) _ rfl rfl) (hS _ _ (Below.refl _ _) hI)<|d7 8 12 (.pointer (some ⟨ob,oo+i,none⟩)) 29 rfl rfl (Rg.ai bI _ _ rfl rfl ob (oo) (N) oc (i) rfl rfl HI.u) (hS _ _ (Below.refl _ _) hI)<|d7 9 12 (.slice ua n uc) 30 rfl rfl (i8 ⟨ob,oo+i,none⟩ (fun W hW=>Rg.ae _ _ Tryz.underlying26 ((Below.cell (p:=⟨ob,oo+i,none⟩) hW CO.u.lt).trans CO.u.cell))) (hS _ _ (Below.refl _ _) hI) ?_;go_frame
   refine d7 10 12 (.int .i64 ((n:Nat):Int)) 31 rfl rfl (i9 fun w=>dU _ _ _ rfl Tryz.underlying26 _ _ _ rfl) (hS _ _ (Below.refl _ _) hI)<|d7 11 12 (.int .i64 q) 32 rfl rfl (i9 fun w=>bY (R:=.int .i64 q) .quo _ _ _ rfl rfl rfl (Ib _ vA.u hq.u Xa.u)) (hS _ _ (Below.refl _ _) hI)<|i7 12 33 rfl rfl (g8 (.bool false) .gtr (h:=bl _ W_.u)) (cT _ _ rfl hI) ?_;go_frame
   refine Rg.Any.done (by kernel_rfl) ?_ _;replace KE:=U hI;clear cT;clear hS hI;go_upto_region 8 with fail;have aj:Below lT.heap.size lT lT.drew:=(Below.refl _ _).drew;replace sO:=U (sO.u.p aj);replace RW:=U (RW.u.p aj);replace KE:=U (Rg.acc KE.u aj);clear aj;refine Rg.Any.begin (S:=Rg.aG 15 (fun W=>Below lT.drew.heap.size lT.drew W) (fun W=>Below w1.heap.size w1 W)) mix ?_;generalize lT.drew=Gm at *;have hS:∀ (l:Array Bool) W,Below Gm.heap.size Gm W->Below w1.heap.size w1 W->Rg.aG 15 (fun W=>Below Gm.heap.size Gm W) (fun W=>Below w1.heap.size w1 W) l W:=fun l W h h2=>⟨.inr h,h2⟩;have cT:∀ (l:Array Bool) W,l.getD 15 false=true->Below w1.heap.size w1 W->Rg.aG 15 (fun W=>Below Gm.heap.size Gm W) (fun W=>Below w1.heap.size w1 W) l W:=fun l W h h2=>⟨.inl h,h2⟩;have hI:=KE.u
   refine d7 0 15 (.slice (some ⟨gb,0,none⟩) (N+1) (N+1)) 34 rfl rfl (i9 fun w=>Rg.bK (v:=.slice (some ⟨gb,0,none⟩) (N+1) (N+1)) _ rfl rfl) (hS _ _ (Below.refl _ _) hI)<|d7 1 15 (.int .i64 ((i:Nat):Int)) 35 rfl rfl (i9 fun w=>Rg.bK (v:=.int .i64 ((i:Nat):Int)) _ rfl rfl) (hS _ _ (Below.refl _ _) hI)<|d7 2 15 (.slice (some ⟨gb,0,none⟩) (N+1) (N+1)) 36 rfl rfl (i9 fun w=>Rg.bK (v:=.slice (some ⟨gb,0,none⟩) (N+1) (N+1)) _ rfl rfl) (hS _ _ (Below.refl _ _) hI)<|d7 3 15 (.int .i64 ((i:Nat):Int)) 37 rfl rfl (i9 fun w=>Rg.bK (v:=.int .i64 ((i:Nat):Int)) _ rfl rfl) (hS _ _ (Below.refl _ _) hI)<|d7 4 15 (.int .i64 (((i+1):Nat):Int)) 38 rfl rfl (i9 fun w=>bY (R:=.int .i64 (((i+1):Nat):Int)) .add _ _ _ rfl rfl rfl (bQ _ (by omega) (by omega))) (hS _ _ (Below.refl _ _) hI) ?_;go_frame
   refine d7 5 15 (.pointer (some ⟨gb,0+(i+1),none⟩)) 39 rfl rfl (Rg.ai aO _ _ rfl rfl gb (0) ((N+1)) (N+1) ((i+1)) rfl rfl (by omega)) (hS _ _ (Below.refl _ _) hI)<|i6 6 15 (.int .i64 ((s:Nat):Int)) 40 rfl rfl (i8 ⟨gb,0+(i+1),none⟩ (fun W hW=>af ((Below.cell (p:=⟨gb,0+(i+1),none⟩) hW sO.u.lt).trans sO.u.cell))) (hS _ _ (Below.refl _ _) hI)<|d7 7 15 (.pointer (some ⟨w.heap.size,1,none⟩)) 41 rfl rfl (i9 fun w=>aA _ rfl rfl (cn _ _)) (hS _ _ (Below.refl _ _) hI)<|d7 8 15 (.slice (some ⟨ob,oo,none⟩) N oc) 42 rfl rfl (i8 ⟨w.heap.size,1,none⟩ (fun W hW=>Rg.ae _ _ Tryz.underlying22 ((Below.cell (p:=⟨w.heap.size,1,none⟩) hW A1.u.lt).trans A1.u.cell))) (hS _ _ (Below.refl _ _) hI)<|d7 9 15 (.int .i64 ((i:Nat):Int)) 43 rfl rfl (i9 fun w=>Rg.bK (v:=.int .i64 ((i:Nat):Int)) _ rfl rfl) (hS _ _ (Below.refl _ _) hI) ?_;go_frame
   refine d7 10 15 (.pointer (some ⟨ob,oo+i,none⟩)) 44 rfl rfl (Rg.ai bI _ _ rfl rfl ob (oo) (N) oc (i) rfl rfl HI.u) (hS _ _ (Below.refl _ _) hI)<|d7 11 15 (.slice ua n uc) 45 rfl rfl (i8 ⟨ob,oo+i,none⟩ (fun W hW=>Rg.ae _ _ Tryz.underlying26 ((Below.cell (p:=⟨ob,oo+i,none⟩) hW CO.u.lt).trans CO.u.cell))) (hS _ _ (Below.refl _ _) hI)<|d7 12 15 (.int .i64 ((n:Nat):Int)) 46 rfl rfl (i9 fun w=>dU _ _ _ rfl Tryz.underlying26 _ _ _ rfl) (hS _ _ (Below.refl _ _) hI)<|d7 13 15 (.int .i64 (((n*s):Nat):Int)) 47 rfl rfl (i9 fun w=>bY (R:=.int .i64 (((n*s):Nat):Int)) .mul _ _ _ rfl rfl rfl (Ia _ aan.u xJ.u)) (hS _ _ (Below.refl _ _) hI)<|d7 14 15 (.pointer (some ⟨gb,0+i,none⟩)) 48 rfl rfl (Rg.ai aO _ _ rfl rfl gb (0) ((N+1)) (N+1) (i) rfl rfl (by omega)) (hS _ _ (Below.refl _ _) hI) ?_;go_frame
   have Qs:=U RW.u;have JL:=hI.setCell (p:=⟨gb,0+i,none⟩) JK.u (.int .i64 (((n*s):Nat):Int));refine Rg.Any.one (i:=15) (by kernel_rfl) (Rg.Any.dR none rfl rfl rfl (Rg.aq _ _ _ rfl _ rfl _ rfl (dN (((n*s):Nat):Int) (by rw [Nat.zero_add]; exact Qs.u.2.1 i (by omega)) (by rw [Nat.zero_add]; exact Qs.u.2.2 i))) (cT _ _ rfl JL) ?_);go_frame;clear hI;clear sO;clear RW;refine Rg.Any.done (by kernel_rfl) ?_ _;replace KE:=U JL;clear cT;clear hS JL;have pE:=KE.u
   have kU:fM (Gm.setCell ⟨gb,0+i,none⟩ (.int .i64 (((n*s):Nat):Int))) gb (N+1) (mX O N i):=by
    rw [Nat.zero_add];have h5:=Gj (O:=O) aP;rw [hn.u,hs.u] at h5;exact (Qs.u.set i (((n*s):Nat):Int) (by omega)).congr h5
   generalize Gm.setCell ⟨gb,0+i,none⟩ (.int .i64 (((n*s):Nat):Int))=wh at *;have Jb:=U kU;have Xd:=U pE;clear kU pE;go_upto_region 5 with fail
   refine b6<|j6 rfl<|k5 (g8 (.int .i64 (((i:Nat):Int) - 1)) .sub (h:=mI _ (by omega) (by omega)))<|j6 rfl ?_;go_frame
   go_wp2
   go_roundw
   case rel=>exact ⟨i,rfl,by omega,Jb,Xd⟩
   case measure=>simp [intOf]

abbrev JM:=List (List Nat) × List (List Int)
def DK (x:List Nat) (wd:List Int) (st:JM) (y:List Nat × Int):JM:=if Ma.ak x y.1∈st.1 then st else (st.1++[Ma.ak x y.1],st.2++[wd++[y.2]])
def Ext (st st':JM):Prop:=st.1 <+: st'.1/\st.2 <+: st'.2
theorem Ext.refl (st:JM):Ext st st:=⟨List.prefix_rfl,List.prefix_rfl⟩
theorem Ext.trans {a b c:JM} (h:Ext a b) (h':Ext b c):Ext a c:=⟨h.1.trans h'.1,h.2.trans h'.2⟩
theorem Ext.step (x:List Nat) (wd:List Int) (st:JM) (y:List Nat × Int):Ext st (DK x wd st y):=by
 unfold DK
 split
 ·exact Ext.refl _
 ·exact ⟨⟨_,rfl⟩,⟨_,rfl⟩⟩
theorem Ext.fold (x:List Nat) (wd:List Int):∀ (l:List (List Nat × Int)) (st:JM),Ext st (l.foldl (DK x wd) st)
 | [],st=>Ext.refl _
 | y :: l,st=>(Ext.step x wd st y).trans (Ext.fold x wd l _)
def GF (W:World) (mb:Nat) (fv:Value) (k:Nat):Prop:=k<W.heap.size/\k≠mb/\fv.ownBlock≠some k
theorem GF.up {mb:Nat} {fv:Value} {k:Nat} (h:GF W mb fv k) (hs:W.heap.size<=W'.heap.size):GF W' mb fv k:=⟨Nat.lt_of_lt_of_le h.1 hs,h.2⟩
structure EX (W:World) (mb:Nat) (fv:Value) (v:Value) (l:List Int):Prop where
 fi:Rg.FI (GF W mb fv) W v l
theorem EX.kp {W W':World} {mb:Nat} {fv v:Value} {l:List Int} {M:Nat->Prop} (h:EX W mb fv v l) (hk:Rg.Kp M W W') (hM:∀ k,M k->k=mb∨fv.ownBlock=some k):EX W' mb fv v l :=
 ⟨Rg.FI.mono (Rg.FI.kp h.fi hk (fun k g e=>(hM k e).elim g.2.1 g.2.2)) (fun k g=>g.up hk.size)⟩
theorem EX.p {mb:Nat} {fv:Value} {l:List Int} (h:EX W mb fv v l) (hb:Below W.heap.size W W'):EX W' mb fv v l:=h.kp (M:=fun _=>False) (Rg.Kp.aF hb) (fun _=>False.elim)
theorem EX.ints {W:World} {mb:Nat} {fv v:Value} {l:List Int} (h:EX W mb fv v l):Rg.Ints W v l:=h.fi.ints

theorem Xe (args:Array Value) (w:World):(callFunc 151 args).run Tryz.prog w=.ok (.enter 151 args) w:=by kernel_rfl
theorem BM {N:Nat} {H:List Nat->Prop} {O:List (List Nat)} {R:List (List (List Nat))} (h:ar N H O R):∀ i,i<=N->(lS N R i).length*bX O N (N - i)=bX O N N
 | 0,_=>by
  show ([Ma.bm N]:List (List Nat)).length*_=_;simp
 | i+1,hi=>by
  have ih:=BM h i (by omega);show (lz (R.getD i []) (lS N R i)).length*_=_;rw [xi,h.len i (by omega),<- ih];obtain ⟨d,hd⟩:∃ d,N - i=d+1:=⟨N - i - 1,by omega⟩
  have e1:N - (i+1)=d:=by omega
  have e2:N - (d+1)=i:=by omega
  rw [hd,e1];show _=_*((O.getD (N - (d+1)) []).length*bX O N d);rw [e2,Nat.mul_comm (O.getD i []).length,Nat.mul_assoc]
theorem Qt (h:ar N H O R):(lS N R N).length=bX O N N:=by
 have:=BM h N (Nat.le_refl _);rw [Nat.sub_self] at this;rw [<- this];show _=_*1;omega
theorem Gn (hg:∀ s∈gs,Gd N s) (aR:1<=N) (aX:N<=12) (bR:ar N (Cm.Gr N (·∈gs)) O R) {w:World} (h:ba w ov rv (O.map Ma.ah) (R.map (List.map Ma.ah))) :
  Calls Tryz.prog 137 #[.agg #[.int .i64 ((N:Nat):Int),ov,rv]] w fun e w'=>e=.returned (.tuple #[.int .i64 ((bX O N N:Nat):Int),.int .i64 0])/\Below w.heap.size w w':=by
 have dB:bF ((N:Nat):Int) (O.map Ma.ah) (R.map (List.map Ma.ah))=0:=oD (Bx aR (by omega) hg bR);obtain ⟨oa,oc,e1,-⟩:=h.1.shape;obtain ⟨ra,rc,e2⟩:=h.2.shape;obtain ⟨on,fT⟩:∃ n,(O.map Ma.ah).length=n:=⟨_,rfl⟩;obtain ⟨rn,gG⟩:∃ n,(R.map (List.map Ma.ah)).length=n:=⟨_,rfl⟩;rw [fT] at e1;rw [gG] at e2;subst e1 e2;clear fT gG;have qp:=U dB;have HC:=U h;have cX:=U bR;have HG:=U hg;have K:=U (Below.refl w.heap.size w);clear h bR dB hg
 go_enter Tryz.func137,Tryz.ntmps137
 go_upto_region 0 with fail;refine b6 ?_;have aJ:=dX w (.int .i64 ((N:Nat):Int)) (.slice oa on oc) (.slice ra rn rc);refine k5 (Rg.aS _ _ rfl rfl) ?_;go_frame;have hb:=(Below.refl w.heap.size w).alloc (Nat.le_refl _) (.cells #[.int .i64 ((N:Nat):Int),.slice oa on oc,.slice ra rn rc] 25);generalize w.alloc (.cells #[.int .i64 ((N:Nat):Int),.slice oa on oc,.slice ra rn rc] 25)=w1 at *;replace HC:=U (HC.u.p hb);replace K:=U (Rg.acc K.u hb);clear hb;have A0:=U aJ.1;have A1:=U aJ.2.1;have A2:=U aJ.2.2;clear aJ
 refine j6 rfl<|j6 rfl ?_;go_frame
 go_upto_region 1 with fail
 refine b6<|k5 (g7 ((.agg #[.int .i64 ((N:Nat):Int),.slice oa on oc,.slice ra rn rc])) ⟨w.heap.size,0,none⟩ (aD A0.u.cell A1.u.cell A2.u.cell)) ?_;go_frame
 refine f3 8 (ax 73 _ _ rfl rfl (DC _ _)) ?_;refine (oG HC.u).mono ?_;rintro e1 w2 ⟨rfl,hb⟩;rw [qp.u];refine ⟨_,rfl,?_⟩;go_frame;replace HC:=U (HC.u.p hb);replace A0:=U (A0.u.p hb);replace A1:=U (A1.u.p hb);replace A2:=U (A2.u.p hb);replace K:=U (Rg.acc K.u hb);clear hb;refine j6 rfl ?_;go_frame;go_upto_region 2 with fail
 refine b6<|j6 rfl<|k5 (g8 (.bool false) .neq (h:=az _ (decide_eq_false (by decide)))) ?_;go_frame
 go_upto_region 4 with fail
 refine b6<|k5 (g7 ((.agg #[.int .i64 ((N:Nat):Int),.slice oa on oc,.slice ra rn rc])) ⟨w.heap.size,0,none⟩ (aD A0.u.cell A1.u.cell A2.u.cell)) ?_;go_frame
 refine f3 14 (ax 151 _ _ rfl rfl (Xe _ _)) ?_;refine (DJ aR aX (Cm.Gr.dO HG.u) cX.u HC.u).mono ?_;rintro e1 w3 ⟨sg,rfl,sP,iG,hb⟩;have hcz:CL w3 sg (0+0) (.int .i64 ((bX O N N:Nat):Int)):=⟨by have:=sP.2.1 0 (by omega); rw [this]; unfold mX; simp,sP.1⟩;clear iG sP;refine ⟨_,rfl,?_⟩;go_frame;replace HC:=U (HC.u.p hb);replace A0:=U (A0.u.p hb);replace A1:=U (A1.u.p hb);replace A2:=U (A2.u.p hb);replace K:=U (Rg.acc K.u hb);clear hb;have CZ:=U hcz
 refine j5 (.tuple #[.slice (some ⟨sg,0,none⟩) (N+1) (N+1),.bool true]) rfl<|k5 (i5 (.slice (some ⟨sg,0,none⟩) (N+1) (N+1)))<|k5 (i5 (.bool true))<|j7 rfl<|j9 rfl ?_;go_frame
 go_upto_region 5 with fail
 refine b6<|j9 rfl<|k5 (bn _ _ true rfl rfl) ?_;go_frame
 go_upto_region 7 with fail
 refine b6<|j7 rfl<|k5 (ag aO _ _ rfl sg (0) ((N+1)) (N+1) (0) rfl rfl (by omega))<|k5 (g7 (.int .i64 (((bX O N N):Nat):Int)) ⟨sg,0+0,none⟩ (af CZ.u.cell))<|j6 rfl ?_;go_frame
 refine j6 rfl ?_;go_frame;go_wp2
 go_ret2
 exact ⟨rfl,K.u⟩

theorem EX.nil {mb:Nat} {fv:Value} (b:Nat):EX W mb fv (.slice (some ⟨b,0,none⟩) 0 0) []:=⟨⟨some ⟨b,0,none⟩,0,rfl,Nat.le_refl _,Nat.zero_le _,Nat.zero_le _,fun h=>absurd h (Nat.lt_irrefl 0)⟩⟩
theorem EX.np {mb:Nat} {fv:Value} {x:List Nat} (h:EX W mb fv v (Ma.ah x)):Rg.NP W v x:=h.fi.ints
theorem EX.new {W W':World} {mb:Nat} {fv v:Value} {x:List Nat} (h:Rg.nV W W' v x) (hm:mb<W.heap.size) (ho:∀ k,fv.ownBlock=some k->k<W.heap.size):EX W' mb fv v (Ma.ah x) :=
 ⟨Rg.FI.mono (FP.new (F:=fun _=>False) h) fun k g=>by
  rcases g with g | g
  ·exact g.elim
  ·exact ⟨g.2,fun e=>by have:=g.1; omega,fun e=>by have:=ho k e; have:=g.1; omega⟩⟩
end
section
open Go.Proofs.Ob
open Go.Sort
open Go.Proofs.Cm (Gd Gr ar ap)
attribute [local irreducible] Go.Calls Go.wpList
def ElP (F:Nat->Prop) (w:World):={ p:Value × List Int // Rg.FI F w p.1 p.2 }
theorem Qu (F:Nat->Prop) (w:World):Rg.FI F w (.slice none 0 0) []:=⟨none,0,rfl,Nat.le_refl _,Nat.zero_le _,Nat.zero_le _,fun h=>absurd h (Nat.lt_irrefl 0)⟩
instance (F:Nat->Prop) (w:World):Inhabited (ElP F w):=⟨⟨(.slice none 0 0,[]),Qu F w⟩⟩
theorem qq {α:Type} [Inhabited α] {enc:α->Value} {w:World} {blk m:Nat} {dk:Array α} {os:Array Obj}:Rg.Kp (fun z=>z=blk) w (sortWorld enc w blk 0 m dk os):=by
 refine ⟨rfl,rfl,rfl,by simp [sortWorld,grow,putRow,mapBlock,Sort.ahead],fun k hk hn=>?_⟩;unfold sortWorld;rw [heap_grow_old _ _ (by simpa [putRow,mapBlock,Sort.ahead] using hk)];have:blk≠k:=fun e=>hn e.symm;simp [putRow,mapBlock,Sort.ahead,Array.getElem?_modify,this]

def G3:List (List Nat):=[[1,0,2],[0,2,1]]
theorem Ni {S T:List (List Nat)} (h:S.Perm T) (hs:(S.map Ma.ah).Pairwise (fun a b=>dJ b a=false)) (ht:(T.map Ma.ah).Pairwise (fun a b=>dJ b a=false)):S=T:=by
 refine dQ ?_;refine List.Perm.eq_of_pairwise (le:=fun a b=>dJ b a=false) ?_ hs ht (h.map _);intro a b _ _ h1 h2
 by_cases e:a=b
 ·exact e
 ·have:=oJ h2 e
  rw [h1] at this; cases this
end
end Go.Proofs.YtpedbljnhnoohaaGreat
set_option linter.unusedVariables false
namespace Go.Proofs.YtpedbljnhnoohaaGreat
open Go.RowKit
open Go.Proofs
open Go.ChangeShapes Go.WideShapes Go.Deep Go.Joins
attribute [local irreducible] Go.Calls
section
variable {H:Type} {enc:TypeId × Value->H}
theorem Qv {base:Nat} {r:Reach} {d:DataW H} {p:List MemPlace} (h:DataW.Trod enc Tryz.prog W 0 (fun _=>true) true 27 v d p) (hv:∃ x,v.cells.toList=[x]/\v=x) :
  ∃ l,Rg.eC maxLen W v l:=by
 obtain ⟨fuel,hf⟩:=h;obtain ⟨x,hc,rfl⟩:=hv;rw [hc] at hf
 rcases open_ints Tryz.underlying27 Tryz.underlying3 xT hf with ⟨dS,_⟩ | ⟨a,len,cap,zs,dS,_,hl,hm,hz,_,aN,_⟩
 ·obtain rfl:v=.slice none 0 0:=by simpa using dS
  exact ⟨[],none,0,rfl,by simp,Nat.zero_le _,by simp,fun h=>by simp at h⟩
 ·obtain rfl:v=.slice (some a) len cap:=by simpa using dS
  simp only [if_true] at hz
  have hlen:(zs.take len).length=len:=by rw [List.length_take]; omega
  refine ⟨zs.take len,some a,cap,by rw [List.length_map,hlen],by rw [List.length_map,hlen]; exact hl,hm,by rw [List.length_map,hlen]; omega,fun h0=>?_⟩;rw [List.length_map,hlen] at h0;have cC:=aN 0 (by omega)
  have ha:a=⟨a.block,a.off,none⟩:=by
   have:=lH (a:=a) (by simpa [Addr.add] using cC)
   cases a; simp at this; subst this; rfl
  refine ⟨a.block,a.off,by rw [<- ha],eQ (a:=a) (by simpa [Addr.add] using cC),fun i hi=>?_⟩;rw [List.length_map,hlen] at hi;rw [<- nu ha i,aN i (by omega)];simp [List.getD,List.getElem?_eq_getElem (show i<zs.length by omega)]
end
end Go.Proofs.YtpedbljnhnoohaaGreat
set_option linter.unusedVariables false
namespace Go.Proofs.YtpedbljnhnoohaaGreat
open Go.RowKit
open Go.Proofs
section
open Go.ChangeShapes Go.WideShapes Go.Deep Go.Joins
attribute [local irreducible] Go.Calls
section
variable {H:Type} {enc:TypeId × Value->H}
theorem Qw {base:Nat} {r:Reach} {d:DataW H} {p:List MemPlace} (h:DataW.Trod enc Tryz.prog W 0 (fun _=>true) true 26 v d p) (hv:∃ x,v.cells.toList=[x]/\v=x) :
  ∃ l,Rg.eC maxLen W v l:=by
 obtain ⟨fuel,hf⟩:=h;obtain ⟨x,hc,rfl⟩:=hv;rw [hc] at hf
 rcases open_ints Tryz.underlying26 Tryz.underlying3 xT hf with ⟨dS,_⟩ | ⟨a,len,cap,zs,dS,_,hl,hm,hz,_,aN,_⟩
 ·obtain rfl:v=.slice none 0 0:=by simpa using dS
  exact ⟨[],none,0,rfl,by simp,Nat.zero_le _,by simp,fun h=>by simp at h⟩
 ·obtain rfl:v=.slice (some a) len cap:=by simpa using dS
  simp only [if_true] at hz
  have hlen:(zs.take len).length=len:=by rw [List.length_take]; omega
  refine ⟨zs.take len,some a,cap,by rw [List.length_map,hlen],by rw [List.length_map,hlen]; exact hl,hm,by rw [List.length_map,hlen]; omega,fun h0=>?_⟩;rw [List.length_map,hlen] at h0;have cC:=aN 0 (by omega)
  have ha:a=⟨a.block,a.off,none⟩:=by
   have:=lH (a:=a) (by simpa [Addr.add] using cC)
   cases a; simp at this; subst this; rfl
  refine ⟨a.block,a.off,by rw [<- ha],eQ (a:=a) (by simpa [Addr.add] using cC),fun i hi=>?_⟩;rw [List.length_map,hlen] at hi;rw [<- nu ha i,aN i (by omega)];simp [List.getD,List.getElem?_eq_getElem (show i<zs.length by omega)]
end
end
section
open Go.Proofs.Ob
open Go.Proofs.Cm (Gd Gr ar ap)
attribute [local irreducible] Go.Calls Go.wpList
abbrev Xf:=Int × Int × Int
abbrev Vi (T:List (List Nat)) (i:Int):Prop:=0<=i/\i<(T.length:Int)
def rnC (T:List (List Nat)) (s:Xf):Int :=
 if s.1≠1/\s.1≠2 then 3 else if ¬ Vi T s.2.1 then 2 else if s.1=1/\¬ Vi T s.2.2 then 2 else 0
def rnE (T:List (List Nat)) (s:Xf):List Nat:=if s.1=1 then Ma.ak (T.getD s.2.1.toNat []) (T.getD s.2.2.toNat []) else Ma.aY (T.getD s.2.1.toNat [])
def rn:List Xf->List (List Nat)->Int × List (List Nat)
 | [],T=>(0,T)
 | s :: l,T=>if rnC T s≠0 then (rnC T s,T) else rn l (T++[rnE T s])
end
section
open Go.Proofs.Ob
open Go.Proofs.Cm (Tr dc Gr Gd Sd cE dg Fx ap ar cy lJ St ld)
structure En where
 b:Nat
 i:Nat
 p:Nat
 x:List Nat
 at_:Nat
 by_:Int
end
section
open Go.Proofs.Ob
attribute [local irreducible] Go.Calls
theorem Nj:(Tryz.prog.info? 3).map (fun i=>(i.zero,i.size,i.bytes))=some (some (.int .i64 0),1,8):=by kernel_rfl
theorem DL (X:World) (i:Int):(Instr.buildSlice 26 1 #[(0,.int .i64 i)]).run Tryz.prog X=.ok (.slice (some ⟨X.heap.size,0,none⟩) 1 1) (X.alloc (.cells #[.int .i64 i] 3)):=by
 obtain ⟨i0,hi,dr,bD,dM⟩:=info_parts Nj;refine run_buildSlice X 26 3 1 _ _ i0 _ Tryz.underlying26 hi dr (by rw [bD]; decide) (by rw [bD]; decide) ?_;generalize (fun x=>((Value.int .i64 0).cells)[x % (Value.int .i64 0).cells.size]!)=f;rw [bD];have h1:Array.range (1*1)=#[0]:=rfl;simp [Instr.fill,Value.cells,h1]
end
section
open Go.Proofs.Ob
open Go.Proofs.Cm (Gd Gr ar ap lexLt cy St)
def lj (q o:List Nat) (j:Nat):Nat:=o.countP fun y=>decide (ap q y<ap q (o.getD j 0))
def mr (q o:List Nat) (d m:Nat):Nat:=(List.range m).foldl (fun p j=>if lj q o j=d then j else p) 0
theorem oM (q o:List Nat) (d m:Nat):mr q o d (m+1)=if lj q o m=d then m else mr q o d m:=by
 unfold mr; rw [List.range_succ,List.foldl_append]; rfl
theorem zn (q o:List Nat) (d:Nat):∀ m,0<m->mr q o d m<m
 | 0,h=>absurd h (Nat.lt_irrefl 0)
 | m+1,_=>by
  rw [oM]
  split
  ·omega
  ·by_cases e:m=0
   ·subst e; exact Nat.zero_lt_one
   ·have:=zn q o d m (by omega); omega
structure ln (n:Nat) (q o:List Nat):Prop where
 gd:Gd n q
 nd:o.Nodup
 lt:∀ y∈o,y<n
theorem Li {l:List Nat} (h:l.Nodup) {i:Nat} (hi:i<l.length) (hj:j<l.length) (e:l[i]=l[j]):i=j:=by
 rcases Nat.lt_trichotomy i j with h1 | h1 | h1
 ·exact absurd e (List.pairwise_iff_getElem.1 h i j hi hj h1)
 ·exact h1
 ·exact absurd e.symm (List.pairwise_iff_getElem.1 h j i hj hi h1)
theorem ln.at {o:List Nat} (_:ln n q o) (hj:j<o.length):o.getD j 0=o[j]:=by rw [List.getD_eq_getElem?_getD,List.getElem?_eq_getElem hj]; rfl
theorem ln.inj {o:List Nat} (h:ln n q o) {i:Nat} (hi:i<o.length) (hj:j<o.length) (e:ap q (o.getD i 0)=ap q (o.getD j 0)):i=j:=by
 rw [h.at hi,h.at hj] at e;have e2:=Cm.kA h.gd (h.lt _ (List.getElem_mem hi)) (h.lt _ (List.getElem_mem hj)) e;exact Li h.nd hi hj e2
theorem zp {α:Type} {l:List α} {p q:α->Bool} (h:∀ x∈l,p x=true->q x=true) {a:α} (ha:a∈l) (h1:p a=false) (h2:q a=true):l.countP p<l.countP q:=by
 induction l with
 | nil=>simp at ha
 | cons x l ih =>
  rw [List.countP_cons,List.countP_cons]
  rcases List.mem_cons.1 ha with rfl | ha
  ·have:=List.countP_mono_left (l:=l) (p:=p) (q:=q) fun y hy=>h y (List.mem_cons_of_mem _ hy)
   rw [h1,h2]; simp; omega
  ·have:=ih (fun y hy=>h y (List.mem_cons_of_mem _ hy)) ha
   have h3:=h x (List.mem_cons_self ..)
   cases e1:p x <;> cases e2:q x <;> simp <;> first | omega | (rw [e1] at h3; have:=h3 rfl; rw [e2] at this; cases this)
theorem ln.mono {o:List Nat} (h:ln n q o) {i:Nat} (hi:i<o.length) (e:ap q (o.getD i 0)<ap q (o.getD j 0)):lj q o i<lj q o j:=by
 refine zp (a:=o[i]) (fun y _ hy=>?_) (List.getElem_mem hi) ?_ ?_
 ·have:=of_decide_eq_true hy; exact decide_eq_true (by omega)
 ·rw [h.at hi]; exact decide_eq_false (Nat.lt_irrefl _)
 ·rw [h.at hi] at e; exact decide_eq_true e
theorem ln.Vj {o:List Nat} (h:ln n q o) {i:Nat} (hi:i<o.length) (hj:j<o.length) (e:lj q o i=lj q o j):i=j:=by
 rcases Nat.lt_trichotomy (ap q (o.getD i 0)) (ap q (o.getD j 0)) with h1 | h1 | h1
 ·have:=h.mono hi h1; omega
 ·exact h.inj hi hj h1
 ·have:=h.mono hj h1; omega
theorem ln.clt {o:List Nat} (h:ln n q o) {i:Nat} (hi:i<o.length):lj q o i<o.length:=by
 have h1:=zp (l:=o) (p:=fun y=>decide (ap q y<ap q (o.getD i 0))) (q:=fun _=>true) (fun _ _ _=>rfl) (List.getElem_mem hi) (by rw [h.at hi]; exact decide_eq_false (Nat.lt_irrefl _)) rfl
 have h2:o.countP (fun _=>true)=o.length:=by simp
 unfold lj; omega
theorem ln.ex {o:List Nat} (h:ln n q o) {d:Nat} (hd:d<o.length):∃ j,j<o.length/\lj q o j=d:=by
 by_cases hh:∃ j,j<o.length/\lj q o j=d
 ·exact hh
 ·exfalso
  have nd:(d :: (List.range o.length).map (lj q o)).Nodup:=by
   refine List.nodup_cons.2 ⟨fun hm=>?_,?_⟩
   ·obtain ⟨j,hj,e⟩:=List.mem_map.1 hm
    exact hh ⟨j,List.mem_range.1 hj,e⟩
   ·refine List.pairwise_iff_getElem.2 fun a b ha hb fX e=>?_
    rw [List.getElem_map,List.getElem_map,List.getElem_range,List.getElem_range] at e;rw [List.length_map,List.length_range] at ha hb;have:=h.Vj ha hb e;omega
  have:=eP nd (m:=List.range o.length) fun x hx=>by
   rcases List.mem_cons.1 hx with rfl | hx
   ·exact List.mem_range.2 hd
   ·obtain ⟨j,hj,rfl⟩:=List.mem_map.1 hx
    exact List.mem_range.2 (h.clt (List.mem_range.1 hj))
  simp at this;omega
theorem ln.pos {n:Nat} {q o:List Nat} (h:ln n q o) {d j:Nat} (hj:j<o.length) (e:lj q o j=d):∀ m,j<m->m<=o.length->mr q o d m=j
 | 0,h1,_=>absurd h1 (Nat.not_lt_zero _)
 | m+1,h1,h2=>by
  rw [oM]
  by_cases e2:j=m
  ·subst e2; rw [if_pos e]
  ·rw [if_neg (fun e3=>e2 (h.Vj hj (by omega) (e.trans e3.symm)))]
   exact h.pos hj e m (by omega) (by omega)
variable {N:Nat} {H:List Nat->Prop} {O:List (List Nat)} {R:List (List (List Nat))}
theorem oN (h:ar N H O R) {i k:Nat} (hi:i<N) (hk:k<(O.getD i []).length):St H i ((R.getD i []).getD k [])/\ap ((R.getD i []).getD k []) i=(O.getD i []).getD k 0:=(h.rep i k hi hk).1
theorem qT (hH:cy N H) (h:ar N H O R) {i:Nat} (hi:i<N):i∈O.getD i [] :=
 (h.orb i i hi).2 ⟨Ma.bm N,⟨hH.one,fun j hj=>Cm.dD (by omega)⟩,Cm.dD hi⟩
theorem oO (hH:cy N H) (h:ar N H O R) {i:Nat} (hi:i<N) (gq:Gd N q):ln N q (O.getD i []) :=
 ⟨gq,(h.jl i hi).imp fun {a b} fX=>Nat.ne_of_lt fX,fun y hy=>by
  obtain ⟨x,hx,rfl⟩:=(h.orb i y hi).1 hy
  exact Cm.cM (hH.gd x hx.1) hi⟩
def AM (O:List (List Nat)) (R:List (List (List Nat))) (i:Nat) (q:List Nat) (d:Nat):List Nat:=(R.getD i []).getD (mr q (O.getD i []) d (O.getD i []).length) []
def k7 (N:Nat) (O:List (List Nat)) (R:List (List (List Nat))):Nat->Nat->List Nat->Nat->List Nat
 | 0,_,q,_=>q
 | m+1,i,q,k=>k7 N O R m (i+1) (Ma.ak (AM O R i q (k / bX O N m)) q) (k % bX O N m)
theorem DM (hH:cy N H) (h:ar N H O R) {i:Nat} (hi:i<N) (q:List Nat) (d:Nat):St H i (AM O R i q d)/\ap (AM O R i q d) i=(O.getD i []).getD (mr q (O.getD i []) d (O.getD i []).length) 0 :=
 oN h hi (zn _ _ _ _ (List.length_pos_of_mem (qT hH h hi)))
theorem uy (hH:cy N H) (h:ar N H O R):∀ (m i:Nat) (q:List Nat) (k:Nat),i+m=N->H q->H (k7 N O R m i q k)/\∀ j,j<i->ap (k7 N O R m i q k) j=ap q j
 | 0,i,q,k,_,hq=>⟨hq,fun _ _=>rfl⟩
 | m+1,i,q,k,e,hq=>by
  have hr:=(DM hH h (show i<N by omega) q (k / bX O N m)).1;obtain ⟨h1,h2⟩:=uy hH h m (i+1) (Ma.ak (AM O R i q (k / bX O N m)) q) (k % bX O N m) (by omega) (hH.mul _ _ hr.1 hq);refine ⟨h1,fun j hj=>?_⟩;show ap (k7 N O R m (i+1) _ _) j=_;rw [h2 j (by omega),Cm.bM (hH.gd _ hr.1) (by omega),hr.2 j hj]
theorem uz (hH:cy N H) (h:ar N H O R):∀ m,m<=N->0<bX O N m
 | 0,_=>Nat.zero_lt_one
 | m+1,hm=>Nat.mul_pos (List.length_pos_of_mem (qT hH h (by omega))) (uz hH h m (by omega))
theorem Qx {m k:Nat} (hk:k<bX O N (m+1)):k / bX O N m<(O.getD (N - (m+1)) []).length:=by
 have h0:bX O N (m+1)=(O.getD (N - (m+1)) []).length*bX O N m:=rfl;rw [h0] at hk
 by_cases e:bX O N m=0
 ·rw [e] at hk; omega
 ·exact Nat.div_lt_of_lt_mul (by rw [Nat.mul_comm]; exact hk)
theorem Lj (hH:cy N H) (h:ar N H O R) {m i k:Nat} (e:i+(m+1)=N) (hq:H q) (hk:k<bX O N (m+1)):∃ j,j<(O.getD i []).length/\mr q (O.getD i []) (k / bX O N m) (O.getD i []).length=j/\lj q (O.getD i []) j=k / bX O N m/\ap (k7 N O R (m+1) i q k) i=ap q ((O.getD i []).getD j 0):=by
 have hi:i<N:=by omega
 have ho:=oO hH h hi (hH.gd q hq);obtain ⟨j,hj,hc⟩:=ho.ex (d:=k / bX O N m) (by have:=Qx (O:=O) (N:=N) hk; rwa [show N - (m+1)=i by omega] at this);have hp:=ho.pos hj hc _ hj (Nat.le_refl _);refine ⟨j,hj,hp,hc,?_⟩;obtain ⟨cp,pK⟩:=DM hH h hi q (k / bX O N m);obtain ⟨_,h2⟩:=uy hH h m (i+1) (Ma.ak (AM O R i q (k / bX O N m)) q) (k % bX O N m) (by omega) (hH.mul _ _ cp.1 hq);show ap (k7 N O R m (i+1) _ _) i=_;rw [h2 i (by omega),Cm.bM (hH.gd _ cp.1) hi,pK,hp]
theorem BO (hH:cy N H) (h:ar N H O R):∀ (m i:Nat) (q:List Nat) (k k':Nat),i+m=N->H q->k<k'->k' < bX O N m->lexLt N (k7 N O R m i q k) (k7 N O R m i q k')
 | 0,i,q,k,k',_,_,h1,h2=>by have:k' < 1:=h2; omega
 | m+1,i,q,k,k',e,hq,h1,h2=>by
  obtain ⟨j,hj,hp,hc,ha⟩:=Lj hH h (m:=m) (i:=i) e hq (Nat.lt_trans h1 h2);obtain ⟨j',hj',Cv,Aq,ha'⟩:=Lj hH h (m:=m) (i:=i) e hq h2;have hs:=uz hH h m (by omega)
  have hi:i<N:=by omega
  have ho:=oO hH h hi (hH.gd q hq)
  by_cases hd:k / bX O N m=k' / bX O N m
  ·have aw:k % bX O N m<k' % bX O N m:=by
    have a1:=Nat.div_add_mod k (bX O N m);have a2:=Nat.div_add_mod k' (bX O N m);rw [hd] at a1;omega
   have hr:=(DM hH h hi q (k / bX O N m)).1;have:=BO hH h m (i+1) (Ma.ak (AM O R i q (k / bX O N m)) q) (k % bX O N m) (k' % bX O N m) (by omega) (hH.mul _ _ hr.1 hq) aw (Nat.mod_lt _ hs);show lexLt N (k7 N O R m (i+1) _ _) (k7 N O R m (i+1) _ _);rw [<- hd];exact this
  ·have aw:k / bX O N m<k' / bX O N m:=Nat.lt_of_le_of_ne (Nat.div_le_div_right (Nat.le_of_lt h1)) hd
   refine ⟨i,hi,fun l hl=>?_,?_⟩
   ·rw [(uy hH h (m+1) i q k e hq).2 l hl,(uy hH h (m+1) i q k' e hq).2 l hl]
   ·rw [ha,ha']
    rcases Nat.lt_trichotomy (ap q ((O.getD i []).getD j 0)) (ap q ((O.getD i []).getD j' 0)) with g | g | g
    ·exact g
    ·have:=ho.inj hj hj' g; subst this; omega
    ·have:=ho.mono hj' g; omega
def dK (N:Nat) (O:List (List Nat)) (R:List (List (List Nat))):List (List Nat):=(List.range (bX O N N)).map (k7 N O R N 0 (Ma.bm N))
theorem Nk {a z:List Nat} (ha:a.length=n) (hz:z.length=n) (h:lexLt n a z):dJ (Ma.ah a) (Ma.ah z)=true:=by
 cases e:dJ (Ma.ah a) (Ma.ah z) with
 | true=>rfl
 | false =>
  exfalso
  have hne:Ma.ah a≠Ma.ah z:=fun e2=>by
   have:=Ma.lG e2;subst this;obtain ⟨j,_,_,h3⟩:=h;exact Nat.lt_irrefl _ h3
  have h2:=sN (by omega) (oJ e hne);exact h.asymm h2
theorem fE (hg:∀ s∈gs,Gd N s) (h:ar N (Gr N (·∈gs)) O R):gC N gs (dK N O R):=by
 have hH:=Cm.Gr.dO hg;have aP:∀ k,Gr N (·∈gs) (k7 N O R N 0 (Ma.bm N) k):=fun k=>(uy hH h N 0 _ k (by omega) hH.one).1
 have Vk:Nd ((dK N O R).map Ma.ah):=fun a b ha hb fX=>by
  simp only [dK,List.length_map,List.length_range] at ha hb;simp only [dK,List.getElem_map,List.getElem_range];exact Nk (hH.gd _ (aP _)).2 (hH.gd _ (aP _)).2 (BO hH h N 0 _ _ _ (by omega) hH.one fX hb)
 refine ⟨Vk,fun y=>⟨fun hy=>?_,fun hy=>?_⟩⟩
 ·obtain ⟨k,_,rfl⟩:=List.mem_map.1 hy
  exact aP k
 ·by_cases hm:y∈dK N O R
  ·exact hm
  ·exfalso
   obtain ⟨p1,p2⟩:=zl hH h
   have:=eP (l:=y :: dK N O R) (List.nodup_cons.2 ⟨hm,ja Vk⟩) (m:=lS N R N) fun x hx=>by
    rw [p2]
    rcases List.mem_cons.1 hx with rfl | hx
    ·exact hy
    ·obtain ⟨k,_,rfl⟩:=List.mem_map.1 hx
     exact aP k
   rw [Qt h] at this;simp [dK] at this;omega
variable {N:Nat} {H:List Nat->Prop} {O:List (List Nat)} {R:List (List (List Nat))}
theorem Qy {m i d r:Nat} (hr:r<bX O N m):k7 N O R (m+1) i q (d*bX O N m+r)=k7 N O R m (i+1) (Ma.ak (AM O R i q d) q) r:=by
 have h0:0<bX O N m:=by omega
 show k7 N O R m (i+1) (Ma.ak (AM O R i q ((d*bX O N m+r) / bX O N m)) q) ((d*bX O N m+r) % bX O N m)=_
 have e1:(d*bX O N m+r) / bX O N m=d:=by rw [Nat.mul_comm d,Nat.mul_add_div h0,Nat.div_eq_of_lt hr]; exact Nat.add_zero d
 have e2:(d*bX O N m+r) % bX O N m=r:=by rw [Nat.mul_comm d,Nat.mul_add_mod,Nat.mod_eq_of_lt hr]
 rw [e1,e2]
theorem qs {f:Nat->Nat}:∀ {l:List Nat},l.Pairwise (fun a b=>f a<f b)->∀ {d:Nat} (hd:d<l.length),l.countP (fun y=>decide (f y<f l[d]))=d
 | [],_,d,hd=>absurd hd (Nat.not_lt_zero _)
 | x :: l,h,0,_=>by
  rw [List.pairwise_cons] at h;rw [List.countP_eq_zero];intro y hy;have e:(x :: l)[0]=x:=rfl;rw [e]
  rcases List.mem_cons.1 hy with rfl | hy
  ·simp
  ·have:=h.1 y hy
   simp; omega
 | x :: l,h,d+1,hd=>by
  rw [List.pairwise_cons] at h
  have Nl:d<l.length:=by simpa using hd
  have e:(x :: l)[d+1]'hd=l[d]:=rfl;rw [e,List.countP_cons,qs h.2 Nl,if_pos (decide_eq_true (h.1 _ (List.getElem_mem Nl)))]
theorem Gp {o l:List Nat} (ho:ln n q o) (hp:l.Perm o) (hs:l.Pairwise (fun a b=>ap q a<ap q b)) {d:Nat} (hd:d<l.length) :
  o.idxOf l[d]<o.length/\o.getD (o.idxOf l[d]) 0=l[d]/\mr q o d o.length=o.idxOf l[d]:=by
 have hm:l[d]∈o:=hp.mem_iff.1 (List.getElem_mem hd);have hj:=List.idxOf_lt_length_of_mem hm
 have e1:o.getD (o.idxOf l[d]) 0=l[d]:=by rw [ho.at hj]; exact List.getElem_idxOf hj
 refine ⟨hj,e1,ho.pos hj ?_ _ hj (Nat.le_refl _)⟩;unfold lj;rw [e1,<- hp.countP_eq];exact qs hs hd
theorem JN {l:List Nat} (hq:Gd n q) (hl:∀ y∈l,y<n) (hd:l.Nodup) (h:l.Pairwise (fun a b=>ap q a<=ap q b)):l.Pairwise (fun a b=>ap q a<ap q b):=by
 rw [List.pairwise_iff_getElem] at h ⊢;intro i j hi hj vk;have h1:=h i j hi hj vk
 rcases Nat.lt_or_eq_of_le h1 with h3 | h3
 ·exact h3
 ·have:=Li hd hi hj (Cm.kA hq (hl _ (List.getElem_mem hi)) (hl _ (List.getElem_mem hj)) h3)
  omega
end
end Go.Proofs.YtpedbljnhnoohaaGreat
namespace Go.Proofs
open Go.Shelf
def Tryz.uA:Go.Shelf.Ren:=⟨fun | 6=>110 | 15=>139 | 14=>138 | 28=>160 | 29=>161 | 20=>152 | 21=>153 | 22=>154 | 23=>155 | 24=>156 | 25=>157 | 26=>158 | 27=>159 | 46=>175 | 47=>176 | 48=>177 | 49=>178 | 50=>179 | 57=>183 | n=>n,fun | 22=>26 | 24=>3 | 25=>48 | 3=>3 | 39=>177 | 0=>0 | 53=>192 | 55=>194 | 4=>4 | 46=>186 | 45=>185 | 50=>156 | 5=>5 | 9=>9 | 66=>204 | 70=>208 | 76=>212 | 77=>213 | n=>n,fun | n=>n⟩
theorem Tryz.AO:Go.Proofs.SlLaysF.n6 Tryz.prog Tryz.uA:={
 mixed:=by kernel_rfl
 f6:=⟨Tryz.f110.name,by decide,Tryz.func110.trans (congrArg some (by kernel_rfl))⟩
 f14:=⟨Tryz.f138.name,by decide,Tryz.func138.trans (congrArg some (by kernel_rfl))⟩
 f15:=Tryz.func139.trans (congrArg some (by kernel_rfl))
 f20:=⟨Tryz.f152.name,by decide,Tryz.func152.trans (congrArg some (by kernel_rfl))⟩
 f21:=⟨Tryz.f153.name,by decide,Tryz.func153.trans (congrArg some (by kernel_rfl))⟩
 f22:=⟨Tryz.f154.name,by decide,Tryz.func154.trans (congrArg some (by kernel_rfl))⟩
 f23:=⟨Tryz.f155.name,by decide,Tryz.func155.trans (congrArg some (by kernel_rfl))⟩
 f24:=⟨Tryz.f156.name,by decide,Tryz.func156.trans (congrArg some (by kernel_rfl))⟩
 f25:=⟨Tryz.f157.name,by decide,Tryz.func157.trans (congrArg some (by kernel_rfl))⟩
 f26:=⟨Tryz.f158.name,by decide,Tryz.func158.trans (congrArg some (by kernel_rfl))⟩
 f27:=⟨Tryz.f159.name,by decide,Tryz.func159.trans (congrArg some (by kernel_rfl))⟩
 f28:=Tryz.func160.trans (congrArg some (by kernel_rfl))
 f29:=Tryz.func161.trans (congrArg some (by kernel_rfl))
 f46:=⟨Tryz.f175.name,by decide,Tryz.func175.trans (congrArg some (by kernel_rfl))⟩
 f47:=Tryz.func176.trans (congrArg some (by kernel_rfl))
 f48:=Tryz.func177.trans (congrArg some (by kernel_rfl))
 f49:=⟨Tryz.f178.name,by decide,Tryz.func178.trans (congrArg some (by kernel_rfl))⟩
 f50:=⟨Tryz.f179.name,by decide,Tryz.func179.trans (congrArg some (by kernel_rfl))⟩
 f57:=⟨Tryz.f183.name,by decide,Tryz.func183.trans (congrArg some (by kernel_rfl))⟩
 t0:=Tryz.underlying0
 a0:=Tryz.isAgg0
 z0:=Tryz.sizeOf0
 v0:=Tryz.zeroValue0
 t3:=Tryz.underlying3
 a3:=Tryz.isAgg3
 z3:=Tryz.sizeOf3
 v3:=Tryz.zeroValue3
 t4:=Tryz.underlying4
 a4:=Tryz.isAgg4
 z4:=Tryz.sizeOf4
 v4:=Tryz.zeroValue4
 t5:=Tryz.underlying5
 a5:=Tryz.isAgg5
 z5:=Tryz.sizeOf5
 v5:=Tryz.zeroValue5
 t9:=Tryz.underlying9
 a9:=Tryz.isAgg9
 z9:=Tryz.sizeOf9
 v9:=Tryz.zeroValue9
 t22:=Tryz.underlying26
 a22:=Tryz.isAgg26
 z22:=Tryz.sizeOf26
 v22:=Tryz.zeroValue26
 a24:=Tryz.isAgg3
 z24:=Tryz.sizeOf3
 t25:=Tryz.underlying48
 a25:=Tryz.isAgg48
 z25:=Tryz.sizeOf48
 v25:=Tryz.zeroValue48
 t39:=Tryz.underlying177
 a39:=Tryz.isAgg177
 z39:=Tryz.sizeOf177
 v39:=Tryz.zeroValue177
 t45:=Tryz.underlying185
 a45:=Tryz.isAgg185
 z45:=Tryz.sizeOf185
 v45:=Tryz.zeroValue185
 t46:=Tryz.underlying186
 a46:=Tryz.isAgg186
 z46:=Tryz.sizeOf186
 v46:=Tryz.zeroValue186
 t50:=Tryz.underlying156
 a50:=Tryz.isAgg156
 z50:=Tryz.sizeOf156
 v50:=Tryz.zeroValue156
 t53:=Tryz.underlying192
 a53:=Tryz.isAgg192
 z53:=Tryz.sizeOf192
 v53:=Tryz.zeroValue192
 t55:=Tryz.underlying194
 a55:=Tryz.isAgg194
 z55:=Tryz.sizeOf194
 v55:=Tryz.zeroValue194
 t66:=Tryz.underlying204
 a66:=Tryz.isAgg204
 z66:=Tryz.sizeOf204
 v66:=Tryz.zeroValue204
 t70:=Tryz.underlying208
 a70:=Tryz.isAgg208
 z70:=Tryz.sizeOf208
 v70:=Tryz.zeroValue208
 t76:=Tryz.underlying212
 a76:=Tryz.isAgg212
 z76:=Tryz.sizeOf212
 v76:=Tryz.zeroValue212
 t77:=Tryz.underlying213
 a77:=Tryz.isAgg213
 z77:=Tryz.sizeOf213
 v77:=Tryz.zeroValue213 }
open Go.RowKit Go.Lib Go.Sort in
theorem Tryz.rr {α:Type} [Inhabited α] (enc:α->Value) (h1:OneCell enc) (cf:α->α->Int) (hO:SWO (ltOf cf)) (g:Nat) (cb:Array Value) (blk off cap:Nat) (d:Array α) (w:World) (eg:∀ args w,(callFunc g args).run Tryz.prog w=.ok (.enter g args) w) (Qz:CmpLays1 Tryz.prog g cb enc cf blk off d.size w) (hH:Holds enc w blk off d) (hblk:blk<w.heap.size) (cO:d.size<4611686018427387904) :
  Calls Tryz.prog 110 #[.slice (some ⟨blk,off,none⟩) d.size cap,.func (.func g) #[] cb] w fun e w' =>
   e=.returned (.tuple #[])/\∃ d' n os,PermIn 0 d.size d d'/\SortedIn (ltOf cf) 0 d.size d'/\w'=sortWorld enc w blk off n d' os:=Any.slices_SortFunc Tryz.AO enc h1 cf hO g cb blk off cap d w eg Qz hH hblk cO
end Go.Proofs
namespace Go.Proofs.YtpedbljnhnoohaaGreat
open Go.RowKit
open Go.Proofs
section
open Go.Proofs.Ob
open Go.Sort
open Go.Proofs.Cm (Gd Gr ar ap lexLt cy St)
attribute [local irreducible] Go.Calls Go.wpList
theorem Nn {uv:Value} {ub:Nat} (gq:Gd N q) (hN:N<=64) (hc:W.cell? ⟨ub,0,none⟩=some uv) (hu:Rg.NP W uv q) {a b:Nat} (ha:a<N) (hb:b<N) :
  Calls Tryz.prog 111 #[.int .i64 ((a:Nat):Int),.int .i64 ((b:Nat):Int),.pointer (some ⟨ub,0,none⟩)] W fun e w'=>e=.returned (.int .i64 (((ap q a:Nat):Int) - ((ap q b:Nat):Int)))/\∃ k,w'=W.drewN k:=by
 obtain ⟨ad,cap,rfl,_,_,_,aN⟩:=hu.shape;have hl:=gq.2;obtain ⟨b0,o0,rfl,_,hr⟩:=aN (by omega);have x1:=hr a (by omega);have x2:=hr b (by omega);have e1:ap q a=q[a]'(by omega):=Cm.jZ (by omega);have e2:ap q b=q[b]'(by omega):=Cm.jZ (by omega);rw [<- e1] at x1;rw [<- e2] at x2;have l1:=Cm.cM gq ha;have l2:=Cm.cM gq hb
 have iN:(a:Int)<(q.length:Int):=by omega
 have df:(b:Int)<(q.length:Int):=by omega
 clear hr aN hu e1 e2 gq hl;generalize ap q a=x at *;generalize ap q b=y at *
 go_enter Tryz.func111,Tryz.ntmps111
 go_wp2
 go_quiet (fail)
 go_wp2;go_ret;exact ⟨rfl,_,rfl⟩
def Np (N:Nat):={ x:Nat // x<N }
def AP {N:Nat} (p:Np N):Value:=.int .i64 ((p.1:Nat):Int)
def JO {N:Nat} (q:List Nat) (a b:Np N):Int:=((ap q a.1:Nat):Int) - ((ap q b.1:Nat):Int)
theorem aao (q:List Nat):SWO (ltOf (JO (N:=N) q)) where
 irrefl x:=by simp [ltOf,JO]
 trans x y z h1 h2:=by
  have a1:=of_decide_eq_true h1;have a2:=of_decide_eq_true h2;refine decide_eq_true ?_;unfold JO at *;omega
 ntrans x y z h1 h2:=by
  have a1:=of_decide_eq_false h1;have a2:=of_decide_eq_false h2;refine decide_eq_false ?_;unfold JO at *;omega
theorem Xg:∀ (args:Array Value) (w:World),(callFunc 111 args).run Tryz.prog w=.ok (.enter 111 args) w:=fun _ _=>by kernel_rfl
theorem JP {o:List Nat} {uv:Value} {ub:Nat} {blk cap:Nat} (gq:Gd N q) (hN:N<=64) (hc:W.cell? ⟨ub,0,none⟩=some uv) (pC:ub<W.heap.size) (hne:ub≠blk) (hu:Rg.FI (fun z=>z≠blk) W uv (Ma.ah q)) (ho:∀ y∈o,y<N) (kL:o.length<=64)
  (eB:1<=N) (aN:∀ i (h:i<o.length),W.cell? ⟨blk,i,none⟩=some (.int .i64 ((o[i]:Nat):Int))/\W.frozen? ⟨blk,i,none⟩=false) (aw:blk<W.heap.size) :
  Calls Tryz.prog 110 #[.slice (some ⟨blk,0,none⟩) o.length cap,.func (.func 111) #[] #[.pointer (some ⟨ub,0,none⟩)]] W fun e w'=>e=.returned (.tuple #[]) /\
   ∃ l:List Nat,l.Perm o/\l.Pairwise (fun a b=>ap q a<=ap q b)/\(∀ i (h:i<l.length),w'.cell? ⟨blk,i,none⟩=some (.int .i64 ((l[i]:Nat):Int)))/\Rg.Kp (fun z=>z=blk) W w':=by
 have _:Inhabited (Np N):=⟨⟨0,eB⟩⟩
 obtain ⟨d,hd,hde⟩:∃ d:Array (Np N),d.size=o.length/\∀ i (h:i<d.size) (h2:i<o.length),d[i].1=o[i] :=
  ⟨Array.ofFn (n:=o.length) fun i=>⟨o[i.1],ho _ (List.getElem_mem i.2)⟩,Array.size_ofFn,fun i h h2=>congrArg Subtype.val (Array.getElem_ofFn h)⟩
 have hH:Holds AP W blk 0 d:=fun j hj=>by
  rw [Nat.zero_add,getElem!_pos d j hj]
  have e:AP d[j]=.int .i64 ((o[j]'(by omega):Nat):Int):=by unfold AP; rw [hde j hj (by omega)]
  rw [e];exact aN j (by omega)
 have Qz:CmpLays1 Tryz.prog 111 #[.pointer (some ⟨ub,0,none⟩)] (AP (N:=N)) (JO q) blk 0 d.size W:=fun m os dk _ x y=>by
  have hk:=qq (enc:=AP) (w:=W) (blk:=blk) (m:=m) (dk:=dk) (os:=os);have hq:=(Rg.FI.kp hu hk (fun z hz e=>hz e)).ints
  have fS:(sortWorld AP W blk 0 m dk os).cell? ⟨ub,0,none⟩=some uv:=by
   rw [<- hc]; unfold World.cell?; rw [hk.block ub pC hne]
  refine (Nn gq hN fS hq x.2 y.2).mono ?_;rintro e w' ⟨h1,k,h2⟩;exact ⟨h1,k,#[],by rw [h2,grow_empty]⟩
 have hs:=Tryz.rr (AP (N:=N)) (fun x=>rfl) (JO q) (aao q) 111 #[.pointer (some ⟨ub,0,none⟩)] blk 0 cap d W Xg Qz hH aw (by rw [hd]; omega);rw [hd] at hs;refine hs.mono ?_;rintro e w' ⟨rfl,d',m,os,hp,AQ,rfl⟩;have hk:=qq (enc:=AP) (w:=W) (blk:=blk) (m:=m) (dk:=d') (os:=os)
 have Nl:d'.size=o.length:=by rw [hp.1,hd]
 have S9:d'.extract 0 o.length=d':=by rw [<- Nl]; simp
 have hx2:d.extract 0 o.length=d:=by rw [<- hd]; simp
 have hh:=SW.holds (W:=sortWorld AP W blk 0 m d' os) ⟨m,os,rfl⟩ aw hH (by rw [Nl,hd]);refine ⟨rfl,d'.toList.map (·.1),?_,?_,fun i h=>?_,hk⟩
 ·have h1:=hp.2.2
  rw [S9,hx2] at h1;have h2:=h1.map (fun p:Np N=>p.1)
  have e:d.toList.map (fun p:Np N=>p.1)=o:=by
   apply List.ext_getElem
   ·simp [hd]
   ·intro i h1 h2
    have h3:i<d.size:=by simpa using h1
    rw [List.getElem_map,Array.getElem_toList,hde i h3 h2]
  rwa [e] at h2
 ·rw [List.pairwise_iff_getElem]
  intro i j hi hj vk;simp only [List.length_map,Array.length_toList] at hi hj;have:=AQ i j (Nat.zero_le _) vk (by rw [<- Nl]; exact hj);rw [getElem!_pos d' j hj,getElem!_pos d' i hi] at this;have h9:=of_decide_eq_false this;unfold JO at h9;simp only [List.getElem_map,Array.getElem_toList];omega
 ·have hU:i<d'.size:=by simpa using h
  have:=(hh i hU).1;rw [Nat.zero_add] at this;rw [this,getElem!_pos d' i hU];simp [AP]
theorem Nq {o:List Nat} {uv:Value} {ub:Nat} (gq:Gd N q) (eB:1<=N) (hN:N<=64) (hc:W.cell? ⟨ub,0,none⟩=some uv) (pC:ub<B) (hB:B<=W.heap.size) (hu:Rg.FI (fun z=>z<B) W uv (Ma.ah q)) (ho:∀ y∈o,y<N) (kL:o.length<=64) (Zj:1<=o.length)
  (h:W.ownsRow B 3 1 v (Ma.ah o).length ((Ma.ah o).map (Value.int .i64))) :
  Calls Tryz.prog 110 #[v,.func (.func 111) #[] #[.pointer (some ⟨ub,0,none⟩)]] W fun e w'=>∃ l:List Nat,e=.returned (.tuple #[])/\l.Perm o/\l.Pairwise (fun a b=>ap q a<=ap q b)/\Rg.FI (fun z=>B<=z) w' v (Ma.ah l)/\Rg.Kp (fun z=>B<=z) W w':=by
 obtain ⟨h1,h2⟩:=h
 rcases h2 with ⟨_,h0⟩ | ⟨g,cap,cur,rfl,hg,nE,h3,h4,h5,h6⟩
 ·rw [Ma.aB] at h0; omega
 rw [Nat.mul_one] at h6;have aw:=(Array.getElem?_eq_some_iff.1 nE).1;have hH:=holds_of_blockI nE h6;rw [Ma.aB] at h3 ⊢
 have aN:∀ i (h:i<o.length),W.cell? ⟨g,i,none⟩=some (.int .i64 ((o[i]:Nat):Int))/\W.frozen? ⟨g,i,none⟩=false:=fun i hi=>by
  have hU:i<(Ma.ah o).toArray.size:=by simpa [Ma.aB] using hi
  have:=hH i hU;rw [Nat.zero_add,getElem!_pos _ i hU] at this
  simpa [Ma.pG] using this
 refine (JP gq hN hc (Nat.lt_of_lt_of_le pC hB) (by omega) (hu.mono fun z hz=>by omega) ho kL eB aN aw).mono ?_;rintro e w' ⟨rfl,l,hp,hs,hl,hk⟩;refine ⟨l,rfl,hp,hs,?_,hk.gO fun z hz=>by omega⟩;have q8:l.length=o.length:=hp.length_eq
 have jq:((Ma.ah l).map (Value.int .i64)).length=o.length:=by rw [List.length_map,Ma.aB,q8]
 refine ⟨some ⟨g,0,none⟩,cap,by rw [jq],by rw [jq]; exact h3,h4,by rw [jq]; omega,fun _=>⟨g,0,rfl,Nat.lt_of_lt_of_le aw hk.size,hg,fun i hi=>?_⟩⟩
 have hU:i<l.length:=by rw [jq] at hi; omega
 rw [Nat.zero_add,hl i hU,List.getElem_map,Ma.pG]
end
section
open Go.Proofs.Ob
open Go.Proofs.Cm (Gd Gr ar ap)
attribute [local irreducible] Go.Calls Go.wpList
theorem qU (aX:N<=12) (hH:Cm.cy N H) (bR:ar N H O R) {m:Nat} (hm:m<=N):bX O N m<=8916100448256:=by
 have h5:=xX aX (fun i hi=>gX hH bR (i:=i) hi) m hm;have h6:=Nat.pow_le_pow_right (n:=12) (by decide) (show m<=12 by omega)
 have e:(12:Nat) ^ 12=8916100448256:=by decide
 omega
theorem Gq {l:List Nat} {p:Nat->Bool} {b:Nat} (hb:b<l.length):(l.take (b+1)).countP p=(l.take b).countP p+(if p (l.getD b 0) then 1 else 0):=by
 rw [List.take_succ_eq_append_getElem hb,List.countP_append,List.getD_eq_getElem?_getD,List.getElem?_eq_getElem hb];simp [List.countP_cons]
theorem Gs (aR:1<=N) (aX:N<=12) (hH:Cm.cy N H) (bR:ar N H O R) {w:World} (h:ba w ov rv (O.map Ma.ah) (R.map (List.map Ma.ah))) {g:Nat} (cO:fM w g (N+1) (mX O N 0)) {k0:Nat} (tH:k0<bX O N N) :
  Calls Tryz.prog 83 #[.agg #[.int .i64 ((N:Nat):Int),ov,rv],.slice (some ⟨g,0,none⟩) (N+1) (N+1),.int .i64 ((k0:Nat):Int)] w fun e w'=>∃ v,e=.returned v/\Rg.nV w w' v (k7 N O R N 0 (Ma.bm N) k0)/\Below w.heap.size w w':=by
 obtain ⟨ob,oo,oc,rb,ro,rc,rfl,rfl,-,-⟩:=ep bR h (i:=0) aR;have HH:=U hH;have cX:=U bR;have CE:=U h;have SZ:=U cO;have kY:=U tH;have K:=U (Below.refl w.heap.size w);clear h hH bR cO tH
 go_enter Tryz.func83,Tryz.ntmps83
 go_upto_region 0 with fail;refine b6 ?_;have aJ:=dX w (.int .i64 ((N:Nat):Int)) (.slice (some ⟨ob,oo,none⟩) N oc) (.slice (some ⟨rb,ro,none⟩) N rc);refine k5 (Rg.aS _ _ rfl rfl) ?_;go_frame;have hb:=(Below.refl w.heap.size w).alloc (Nat.le_refl _) (.cells #[.int .i64 ((N:Nat):Int),.slice (some ⟨ob,oo,none⟩) N oc,.slice (some ⟨rb,ro,none⟩) N rc] 25);generalize w.alloc (.cells #[.int .i64 ((N:Nat):Int),.slice (some ⟨ob,oo,none⟩) N oc,.slice (some ⟨rb,ro,none⟩) N rc] 25)=w1 at *;replace CE:=U (CE.u.p hb);replace SZ:=U (SZ.u.p hb);replace K:=U (Rg.acc K.u hb);clear hb;have A0:=U aJ.1;have A1:=U aJ.2.1;have A2:=U aJ.2.2;clear aJ;refine j7 rfl ?_;go_frame;go_upto_region 1 with fail
 refine b6<|k5 (j0 (cP _ _))<|k5 (g7 (.int .i64 ((N:Nat):Int)) ⟨w.heap.size,0,none⟩ (af A0.u.cell)) ?_;go_frame
 refine f3 16 (ax 66 _ _ rfl rfl (PB _ _)) ?_;refine (wF N w1 (by omega)).mono ?_;rintro e1 w2 ⟨qv0,rfl,tX,hb⟩;have MW:=U (tX.2.mono K.u.size);refine ⟨_,rfl,?_⟩;go_frame;replace CE:=U (CE.u.p hb);replace SZ:=U (SZ.u.p hb);replace A0:=U (A0.u.p hb);replace A1:=U (A1.u.p hb);replace A2:=U (A2.u.p hb);replace K:=U (Rg.acc K.u hb);clear hb;have NQ:=U (dw.mk tX.1);refine j5 (qv0) rfl ?_;go_frame;clear tX;go_upto_region 2 with fail
 refine b6<|j6 rfl ?_;go_frame
 have K1:=U (Below.refl w2.heap.size w2);have K0:=K;clear K;have HQ0:=U HH.u.one;go_wp2
 go_loopw [2,7,8] (fun kv qv iv wr=>∃ (i k:Nat) (q:List Nat),kv=.int .i64 ((k:Nat):Int)/\iv=.int .i64 ((i:Nat):Int)/\i<=N/\Hid (dw wr qv (Ma.ah q))/\Hid (Rg.eL w.heap.size qv)/\Hid (H q)/\Hid (k<bX O N (N - i))/\Hid (k7 N O R (N - i) i q k=k7 N O R N 0 (Ma.bm N) k0)/\Hid (Below w2.heap.size w2 wr)) (fun _ _ iv _=>N - (intOf iv).toNat)
 case atStart=>exact ⟨0,k0,_,rfl,rfl,Nat.zero_le _,NQ,MW,HQ0,kY,U rfl,K1⟩
 case round =>
  clear NQ MW HQ0 K1;obtain ⟨i,k,q,rfl,rfl,hi,NQ,MW,HQ,a_,DE,KO⟩:=hrel;generalize wr=wA at *;replace CE:=U (CE.u.p KO.u);replace SZ:=U (SZ.u.p KO.u);replace A0:=U (A0.u.p KO.u);replace A1:=U (A1.u.p KO.u);replace A2:=U (A2.u.p KO.u);have GQ:=U (HH.u.gd q HQ.u);obtain ⟨qb,qo,qc,rfl,QA⟩:=NQ.u.at GQ.u.2 aR;clear QA
  by_cases aP:i<N
  case neg =>
   obtain rfl:N=i:=by omega
   go_upto_region 3 with fail
   refine b6<|j6 rfl<|k5 (j0 (cP _ _))<|k5 (g7 (.int .i64 ((N:Nat):Int)) ⟨w.heap.size,0,none⟩ (af A0.u.cell))<|k5 (g8 (.bool false) .lss (h:=aH _ f8)) ?_;go_frame
   go_upto_region 20 with fail
   refine b6<|j7 rfl<|j7 rfl ?_;go_frame
   have HF:=U (show q=k7 N O R N 0 (Ma.bm N) k0 by
    have h5:=DE.u;rw [Nat.sub_self] at h5
    exact h5)
   go_wp2;go_ret;exact ⟨_,rfl,by rw [<- HF.u]; exact ⟨NQ.u.i,MW.u⟩,K0.u.trans (KO.u.mono K0.u.size)⟩
  case pos =>
   obtain ⟨m,hm⟩:∃ m,N - i=m+1:=⟨N - i - 1,by omega⟩
   have Xh:N - (i+1)=m:=by omega
   rw [hm] at a_ DE;obtain ⟨s,hs⟩:∃ s:Nat,Hid (bX O N m=s):=⟨_,U rfl⟩;have bJ:=U aP;have Xi:=U (uz HH.u cX.u m (by omega));rw [hs.u] at Xi;have qf:k<8916100448256:=Nat.lt_of_lt_of_le a_.u (qU aX HH.u cX.u (by omega))
   have hsb:s<=8916100448256:=by rw [<- hs.u]; exact qU aX HH.u cX.u (by omega)
   obtain ⟨os,mT⟩:∃ l,Hid (O.getD i []=l):=⟨_,U rfl⟩;obtain ⟨rl,eG⟩:∃ l,Hid (R.getD i []=l):=⟨_,U rfl⟩;have zq:=U (oO HH.u cX.u aP GQ.u);have QB:=U (List.length_pos_of_mem (qT HH.u cX.u aP));have tQ:=U (gX HH.u cX.u aP);have mP:=U (cX.u.len i aP);obtain ⟨ob',oo',Ts,rb',ro',rc',e1,e2,⟨ua,uc,oL,ly⟩,⟨va,vc,kt,pD⟩⟩:=ep cX.u CE.u aP;simp only [Value.slice.injEq,Option.some.injEq,Addr.mk.injEq,and_true,true_and] at e1 e2;obtain ⟨⟨rfl,rfl⟩,rfl⟩:=e1;obtain ⟨⟨rfl,rfl⟩,rfl⟩:=e2;rw [mT.u] at oL ly kt pD zq QB tQ mP;rw [eG.u] at pD mP;have Nr:0<os.length:=QB.u;have kL:os.length<=N - i:=tQ.u;obtain ⟨ub,uo,uc',e1,nC⟩:=(dw.mk ly).at (D:=os.length) rfl Nr;simp only [Value.slice.injEq,true_and] at e1;obtain ⟨rfl,rfl⟩:=e1;have CO:=U oL
   have NO:=U (dw.mk ly);have CR:=U kt;have RR:=U (gL.mk pD);clear oL ly kt pD nC
   have CS:=U (show CL wA g (0+(i+1)) (.int .i64 ((s:Nat):Int)) from CL.mk (by
    rw [Nat.zero_add,SZ.u.2.1 (i+1) (by omega)];unfold mX
    rw [if_pos (Nat.zero_le _),Xh,hs.u]) SZ.u.1)
   obtain ⟨d,hd⟩:∃ d:Nat,Hid (k / s=d):=⟨_,U rfl⟩;obtain ⟨k2,dy⟩:∃ d:Nat,Hid (k % s=d):=⟨_,U rfl⟩;have jG:=U (show ((s:Nat):Int)≠0 by have:=Xi.u; omega);have HQU:=U (show Int.tdiv ((k:Nat):Int) ((s:Nat):Int)=((d:Nat):Int) by rw [<- hd.u]; rfl);have HRE:=U (show Int.tmod ((k:Nat):Int) ((s:Nat):Int)=((k2:Nat):Int) by rw [<- dy.u]; rfl);have HK2:=U (show k2<s by rw [<- dy.u]; exact Nat.mod_lt _ Xi.u);have HDL:=U (show d<=k by rw [<- hd.u]; exact Nat.div_le_self _ _);have HDB:=U (show -9223372036854775808<=((d:Nat):Int)/\((d:Nat):Int)<=9223372036854775807 by have:=HDL.u; omega);have zr:=U (show -9223372036854775808<=((k2:Nat):Int)/\((k2:Nat):Int)<=9223372036854775807 by have:=HK2.u; omega);go_upto_region 3 with fail
   refine b6<|j6 rfl<|k5 (j0 (cP _ _))<|k5 (g7 (.int .i64 ((N:Nat):Int)) ⟨w.heap.size,0,none⟩ (af A0.u.cell))<|k5 (g8 (.bool true) .lss (h:=aH _ f7)) ?_;go_frame
   go_upto_region 5 with fail
   refine b6<|j6 rfl<|j7 rfl<|j6 rfl<|k5 (g8 (.int .i64 (((i+1):Nat):Int)) .add (h:=bQ _ (by omega) (by omega))) ?_;go_frame
   refine k5 (ag aO _ _ rfl g (0) ((N+1)) (N+1) ((i+1)) rfl rfl (Nat.succ_lt_succ bJ.u))<|k5 (g7 (.int .i64 ((s:Nat):Int)) ⟨g,0+(i+1),none⟩ (af CS.u.cell))<|k5 (g8 (.int .i64 ((d:Nat):Int)) .quo (h:=Ib _ jG.u HQU.u HDB.u))<|j6 rfl ?_;go_frame
   go_upto_region 6 with fail
   refine b6<|j6 rfl<|j7 rfl<|j6 rfl<|k5 (g8 (.int .i64 (((i+1):Nat):Int)) .add (h:=bQ _ (by omega) (by omega))) ?_;go_frame
   refine k5 (ag aO _ _ rfl g (0) ((N+1)) (N+1) ((i+1)) rfl rfl (Nat.succ_lt_succ bJ.u))<|k5 (g7 (.int .i64 ((s:Nat):Int)) ⟨g,0+(i+1),none⟩ (af CS.u.cell))<|k5 (g8 (.int .i64 ((k2:Nat):Int)) .rem (h:=WL _ jG.u HRE.u zr.u))<|j6 rfl ?_;go_frame
   clear CS;go_upto_region 7 with fail
   refine b6<|j6 rfl ?_;go_frame
   go_upto_region 8 with fail
   refine b6<|j6 rfl ?_;go_frame
   have K2:=U (Below.refl wA.heap.size wA);go_wp2
   go_loopw [10,11] (fun pv av wr=>∃ a:Nat,pv=.int .i64 ((mr q os d a:Nat):Int)/\av=.int .i64 ((a:Nat):Int)/\a<=os.length/\Hid (Below wA.heap.size wA wr)) (fun _ av _=>os.length - (intOf av).toNat)
   case atStart=>exact ⟨0,rfl,rfl,Nat.zero_le _,K2⟩
   case round =>
    clear K2;obtain ⟨a,rfl,rfl,ha,KR⟩:=hrel;generalize wr=wB at *;have Xj:=U (CE.u.p KR.u);have kZ:=U (SZ.u.p KR.u);have Xk:=U (A0.u.p KR.u);have QC:=U (A1.u.p KR.u);have TP:=U (A2.u.p KR.u);have TQ:=U (NQ.u.p KR.u);have QD:=U (CO.u.p KR.u);have Xl:=U (NO.u.p KR.u);have TR:=U (CR.u.p KR.u);have TU:=U (RR.u.p KR.u);have TV:=U (Rg.acc KO.u KR.u);have aap:=U (Nat.le_trans K0.u.size TV.u.size);obtain ⟨pj,TW⟩:∃ j,Hid (mr q os d a=j):=⟨_,U rfl⟩;rw [TW.u]
    by_cases hal:a<os.length
    case neg =>
     obtain rfl:a=os.length:=by omega
     have MT:pj<os.length:=by rw [<- TW.u]; exact zn _ _ _ _ Nr
     have Fe:=U MT;go_upto_region 9 with fail
     refine b6<|j6 rfl<|k5 (j0 (cn _ _))<|k5 (g7 (.slice (some ⟨ob,oo,none⟩) N oc) ⟨w.heap.size,1,none⟩ (Rg.ae _ _ Tryz.underlying22 QC.u.cell))<|j6 rfl ?_;go_frame
     refine k5 (ag bI _ _ rfl ob (oo) (N) oc (i) rfl rfl bJ.u)<|k5 (g7 (.slice (some ⟨ub,uo,none⟩) os.length uc) ⟨ob,oo+i,none⟩ (Rg.ae _ _ Tryz.underlying26 QD.u.cell))<|k5 (g9 Tryz.underlying26)<|k5 (g8 (.bool false) .lss (h:=aH _ f8)) ?_;go_frame
     have GR:=U (show Gd N (rl.getD pj []) by rw [<- eG.u]; exact HH.u.gd _ (oN cX.u bJ.u (by rw [mT.u]; exact Fe.u)).1.1);obtain ⟨vb,vo,_,_,e1,bW,cz,cp⟩:=dY TU.u.r (i:=pj) (by rw [List.length_map,mP.u]; exact MT);subst e1
     have e5:(rl.map Ma.ah)[pj]'(by rw [List.length_map,mP.u]; exact MT)=Ma.ah (rl.getD pj []):=by rw [List.getElem_map,List.getD_eq_getElem?_getD,List.getElem?_eq_getElem]; rfl
     rw [e5] at cz cp;obtain ⟨y,hy⟩:∃ y,Hid (rl.getD pj []=y):=⟨_,U rfl⟩;rw [hy.u] at cz cp GR;obtain ⟨ya,yc,dz,-⟩:=cp.shape
     rename_i Xm Xn
     have CY:=U (CL.mk cz bW);have NY:=U (dw.mk cp);clear cz bW cp e5 dz;go_upto_region 19 with fail
     refine b6<|k5 (j0 (cK _ _))<|k5 (g7 (.slice (some ⟨rb,ro,none⟩) N rc) ⟨w.heap.size,2,none⟩ (Rg.ae _ _ Tryz.underlying23 TP.u.cell))<|j6 rfl<|k5 (ag bE _ _ rfl rb (ro) (N) rc (i) rfl rfl bJ.u) ?_;go_frame
     refine k5 (g7 (.slice (some ⟨vb,vo,none⟩) os.length vc) ⟨rb,ro+i,none⟩ (Rg.ae _ _ Tryz.underlying41 TR.u.cell))<|j6 rfl<|k5 (ag aK _ _ rfl vb (vo) (os.length) vc (pj) rfl rfl Fe.u)<|k5 (g7 (.slice Xm (Ma.ah y).length Xn) ⟨vb,vo+pj,none⟩ (Rg.ae _ _ Tryz.underlying27 CY.u.cell))<|j7 rfl ?_;go_frame
     refine f3 95 (aC 34 _ _ _ rfl rfl rfl (sm _ _)) ?_;refine (wG _ _ y q wB NY.u.i TQ.u.i (fun z hz=>by rw [GQ.u.2]; exact xV GR.u hz) (by rw [GR.u.2]; omega)).mono ?_;rintro e1 xD ⟨mv,rfl,gJ,hb⟩;have HFM:=U (gJ.2.mono aap.u);refine ⟨_,rfl,?_⟩;go_frame;replace Xj:=U (Xj.u.p hb);replace kZ:=U (kZ.u.p hb);replace Xk:=U (Xk.u.p hb);replace QC:=U (QC.u.p hb);replace TP:=U (TP.u.p hb);replace TQ:=U (TQ.u.p hb);replace QD:=U (QD.u.p hb);replace Xl:=U (Xl.u.p hb);replace TR:=U (TR.u.p hb);replace TU:=U (TU.u.p hb);replace CY:=U (CY.u.p hb);replace NY:=U (NY.u.p hb);replace TV:=U (Rg.acc TV.u hb);clear hb;have NM:=U (dw.mk gJ.1);refine j5 (mv) rfl ?_;go_frame;go_upto_region 4 with fail
     refine b6<|j6 rfl<|k5 (g8 (.int .i64 (((i+1):Nat):Int)) .add (h:=bQ _ (by omega) (by omega)))<|j6 rfl ?_;go_frame
     have kM:=U (show H (Ma.ak y q) from HH.u.mul _ _ (by rw [<- hy.u,<- eG.u]; exact (oN cX.u bJ.u (by rw [mT.u]; exact Fe.u)).1.1) HQ.u);have sr:=U (show k2<bX O N (N - (i+1)) by rw [Xh,hs.u]; exact HK2.u)
     have Tk:=U (show k7 N O R (N - (i+1)) (i+1) (Ma.ak y q) k2=k7 N O R N 0 (Ma.bm N) k0 by
      rw [<- DE.u,Xh];show _=k7 N O R m (i+1) (Ma.ak ((R.getD i []).getD (mr q (O.getD i []) (k / bX O N m) (O.getD i []).length) []) q) (k % bX O N m)
      rw [hs.u,hd.u,dy.u,mT.u,eG.u,TW.u,hy.u])
     go_wp2
     go_roundw
     case rel=>exact ⟨i+1,k2,_,rfl,by go_num,bJ.u,NM,HFM,kM,sr,Tk,TV⟩
     case measure=>simp [intOf]; have:=bJ.u; omega
    case pos =>
     have Gt:=U hal;go_upto_region 9 with fail
     refine b6<|j6 rfl<|k5 (j0 (cn _ _))<|k5 (g7 (.slice (some ⟨ob,oo,none⟩) N oc) ⟨w.heap.size,1,none⟩ (Rg.ae _ _ Tryz.underlying22 QC.u.cell))<|j6 rfl ?_;go_frame
     refine k5 (ag bI _ _ rfl ob (oo) (N) oc (i) rfl rfl bJ.u)<|k5 (g7 (.slice (some ⟨ub,uo,none⟩) os.length uc) ⟨ob,oo+i,none⟩ (Rg.ae _ _ Tryz.underlying26 QD.u.cell))<|k5 (g9 Tryz.underlying26)<|k5 (g8 (.bool true) .lss (h:=aH _ f7)) ?_;go_frame
     go_upto_region 11 with fail
     refine b6<|j6 rfl ?_;go_frame
     go_upto_region 12 with fail
     refine b6<|j6 rfl ?_;go_frame
     obtain ⟨z,hz⟩:∃ z,Hid (os.getD a 0=z):=⟨_,U rfl⟩;have Xo:=U (show z<N by rw [<- hz.u,zq.u.at Gt.u]; exact zq.u.lt _ (List.getElem_mem _));obtain ⟨qz,hqz⟩:∃ z',Hid (ap q z=z'):=⟨_,U rfl⟩;have K4:=U (Below.refl wB.heap.size wB);go_wp2
     go_loopw [12,13] (fun cv bv wr=>∃ b:Nat,cv=.int .i64 (((os.take b).countP (fun y=>decide (ap q y<qz)):Nat):Int)/\bv=.int .i64 ((b:Nat):Int)/\b<=os.length/\Hid (Below wB.heap.size wB wr)) (fun _ bv _=>os.length - (intOf bv).toNat)
     case atStart=>exact ⟨0,rfl,rfl,Nat.zero_le _,K4⟩
     case round =>
      clear K4;obtain ⟨b,rfl,rfl,lI,KS⟩:=hrel;have TX:=U (Xj.u.p KS.u);have TY:=U (kZ.u.p KS.u);have TZ:=U (Xk.u.p KS.u);have uB:=U (QC.u.p KS.u);have T5:=U (TP.u.p KS.u);have QE:=U (TQ.u.p KS.u);have uC:=U (QD.u.p KS.u);have QF:=U (Xl.u.p KS.u);have T6:=U (TR.u.p KS.u);have T8:=U (TU.u.p KS.u);have KR2:=U (Rg.acc KR.u KS.u);obtain ⟨c,hc⟩:∃ c,Hid ((os.take b).countP (fun y=>decide (ap q y<qz))=c):=⟨_,U rfl⟩
      have sJ:c<=b:=by
       rw [<- hc.u];exact Nat.le_trans List.countP_le_length (by rw [List.length_take]; omega)
      rw [hc.u]
      by_cases Mt:b<os.length
      case neg =>
       obtain rfl:b=os.length:=by omega
       go_upto_region 13 with fail
       refine b6<|j6 rfl<|k5 (j0 (cn _ _))<|k5 (g7 (.slice (some ⟨ob,oo,none⟩) N oc) ⟨w.heap.size,1,none⟩ (Rg.ae _ _ Tryz.underlying22 uB.u.cell))<|j6 rfl ?_;go_frame
       refine k5 (ag bI _ _ rfl ob (oo) (N) oc (i) rfl rfl bJ.u)<|k5 (g7 (.slice (some ⟨ub,uo,none⟩) os.length uc) ⟨ob,oo+i,none⟩ (Rg.ae _ _ Tryz.underlying26 uC.u.cell))<|k5 (g9 Tryz.underlying26)<|k5 (g8 (.bool false) .lss (h:=aH _ f8)) ?_;go_frame
       have Ns:=U (show lj q os a=c by
        rw [<- hc.u,List.take_length];unfold lj
        rw [hz.u,hqz.u])
       by_cases hcd:c=d
       case pos =>
        skip
        go_upto_region 17 with fail
        refine b6<|j6 rfl<|j6 rfl<|k5 (g8 (.bool true) .eql (h:=fa _ f7)) ?_;go_frame
        go_upto_region 18 with fail
        refine b6<|j6 rfl<|j6 rfl ?_;go_frame
        go_upto_region 10 with fail
        refine b6<|j6 rfl<|k5 (g8 (.int .i64 (((a+1):Nat):Int)) .add (h:=bQ _ (by omega) (by omega)))<|j6 rfl ?_;go_frame
        have MO:=U (show mr q os d (a+1)=a by rw [oM,Ns.u,if_pos hcd]);go_wp2
        go_roundw
        case rel=>exact ⟨a+1,by rw [MO.u],by go_num,Gt.u,KR2⟩
        case measure=>simp [intOf]; have:=Gt.u; omega
       case neg =>
        go_upto_region 17 with fail
        refine b6<|j6 rfl<|j6 rfl<|k5 (g8 (.bool false) .eql (h:=fa _ f8)) ?_;go_frame
        go_upto_region 10 with fail
        refine b6<|j6 rfl<|k5 (g8 (.int .i64 (((a+1):Nat):Int)) .add (h:=bQ _ (by omega) (by omega)))<|j6 rfl ?_;go_frame
        have MO:=U (show mr q os d (a+1)=pj by rw [oM,Ns.u,if_neg hcd,TW.u]);go_wp2
        go_roundw
        case rel=>exact ⟨a+1,by rw [MO.u],by go_num,Gt.u,KR2⟩
        case measure=>simp [intOf]; have:=Gt.u; omega
      case pos =>
       have Gu:=U Mt;obtain ⟨y,hy⟩:∃ y,Hid (os.getD b 0=y):=⟨_,U rfl⟩;have Xp:=U (show y<N by rw [<- hy.u,zq.u.at Gu.u]; exact zq.u.lt _ (List.getElem_mem _));obtain ⟨qy,hqy⟩:∃ z',Hid (ap q y=z'):=⟨_,U rfl⟩;obtain ⟨ub',uo',uc',e1,nC⟩:=QF.u.at (D:=os.length) rfl Nr;simp only [Value.slice.injEq,Option.some.injEq,Addr.mk.injEq,and_true,true_and] at e1;obtain ⟨⟨rfl,rfl⟩,rfl⟩:=e1;obtain ⟨qb',qo',qc',e1,QA⟩:=QE.u.at (D:=N) GQ.u.2 aR;simp only [Value.slice.injEq,Option.some.injEq,Addr.mk.injEq,and_true,true_and] at e1;obtain ⟨⟨rfl,rfl⟩,rfl⟩:=e1;have Gv:=U (show CL wr ub (uo+b) (.int .i64 ((y:Nat):Int)) from hy.u▸nC b Mt);have Gw:=U (show CL wr ub (uo+a) (.int .i64 ((z:Nat):Int)) from hz.u▸nC a Gt.u);have Gy:=U (show CL wr qb (qo+y) (.int .i64 ((qy:Nat):Int)) from hqy.u▸QA y Xp.u)
       have Gz:=U (show CL wr qb (qo+z) (.int .i64 ((qz:Nat):Int)) from hqz.u▸QA z Xo.u);clear nC QA
       have k6:=U (show (os.take (b+1)).countP (fun y=>decide (ap q y<qz))=c+(if qy<qz then 1 else 0) by
        rw [Gq Gu.u,hc.u,hy.u,hqy.u]; simp)
       go_upto_region 13 with fail
       refine b6<|j6 rfl<|k5 (j0 (cn _ _))<|k5 (g7 (.slice (some ⟨ob,oo,none⟩) N oc) ⟨w.heap.size,1,none⟩ (Rg.ae _ _ Tryz.underlying22 uB.u.cell))<|j6 rfl ?_;go_frame
       refine k5 (ag bI _ _ rfl ob (oo) (N) oc (i) rfl rfl bJ.u)<|k5 (g7 (.slice (some ⟨ub,uo,none⟩) os.length uc) ⟨ob,oo+i,none⟩ (Rg.ae _ _ Tryz.underlying26 uC.u.cell))<|k5 (g9 Tryz.underlying26)<|k5 (g8 (.bool true) .lss (h:=aH _ f7)) ?_;go_frame
       by_cases aw:qy<qz
       case pos =>
        rw [if_pos aw] at k6;go_upto_region 15 with fail;have aj:Below wr.heap.size wr wr.drew:=(Below.refl _ _).drew;replace TX:=U (TX.u.p aj);replace TY:=U (TY.u.p aj);replace TZ:=U (TZ.u.p aj);replace uB:=U (uB.u.p aj);replace T5:=U (T5.u.p aj);replace QE:=U (QE.u.p aj);replace uC:=U (uC.u.p aj);replace QF:=U (QF.u.p aj);replace T6:=U (T6.u.p aj);replace T8:=U (T8.u.p aj);replace Gv:=U (Gv.u.p aj);replace Gw:=U (Gw.u.p aj);replace Gy:=U (Gy.u.p aj);replace Gz:=U (Gz.u.p aj);replace KS:=U (Rg.acc KS.u aj);clear aj;refine Rg.Any.begin (S:=Rg.aG 22 (fun _=>True) (fun W=>Below wr.drew.heap.size wr.drew W)) mix ?_;generalize wr.drew=uD at *;have hS:∀ (l:Array Bool) W,Below uD.heap.size uD W->Rg.aG 22 (fun _=>True) (fun W=>Below uD.heap.size uD W) l W:=fun l W h=>⟨.inr trivial,h⟩
        have hI:Below uD.heap.size uD uD:=Below.refl _ _
        refine d8 0 22 (.slice (some ⟨qb,qo,none⟩) N qc) 57 (hS _ _ hI)<|d7 1 22 (.pointer (some ⟨w.heap.size,1,none⟩)) 58 rfl rfl (i9 fun w=>aA _ rfl rfl (cn _ _)) (hS _ _ hI)<|d7 2 22 (.slice (some ⟨ob,oo,none⟩) N oc) 59 rfl rfl (i8 ⟨w.heap.size,1,none⟩ (fun W hW=>Rg.ae _ _ Tryz.underlying22 ((Below.cell (p:=⟨w.heap.size,1,none⟩) hW uB.u.lt).trans uB.u.cell))) (hS _ _ hI)<|d8 3 22 (.int .i64 ((i:Nat):Int)) 60 (hS _ _ hI)<|d7 4 22 (.pointer (some ⟨ob,oo+i,none⟩)) 61 rfl rfl (Rg.ai bI _ _ rfl rfl ob (oo) (N) oc (i) rfl rfl bJ.u) (hS _ _ hI) ?_;go_frame
        refine d7 5 22 (.slice (some ⟨ub,uo,none⟩) os.length uc) 62 rfl rfl (i8 ⟨ob,oo+i,none⟩ (fun W hW=>Rg.ae _ _ Tryz.underlying26 ((Below.cell (p:=⟨ob,oo+i,none⟩) hW uC.u.lt).trans uC.u.cell))) (hS _ _ hI)<|d8 6 22 (.int .i64 ((b:Nat):Int)) 63 (hS _ _ hI)<|d7 7 22 (.pointer (some ⟨ub,uo+b,none⟩)) 64 rfl rfl (Rg.ai aO _ _ rfl rfl ub (uo) (os.length) uc (b) rfl rfl Gu.u) (hS _ _ hI)<|d7 8 22 (.int .i64 ((y:Nat):Int)) 65 rfl rfl (i8 ⟨ub,uo+b,none⟩ (fun W hW=>af ((Below.cell (p:=⟨ub,uo+b,none⟩) hW Gv.u.lt).trans Gv.u.cell))) (hS _ _ hI)<|d7 9 22 (.pointer (some ⟨qb,qo+y,none⟩)) 66 rfl rfl (Rg.ai bB _ _ rfl rfl qb (qo) (N) qc (y) rfl rfl Xp.u) (hS _ _ hI) ?_;go_frame
        refine d7 10 22 (.int .i64 ((qy:Nat):Int)) 67 rfl rfl (i8 ⟨qb,qo+y,none⟩ (fun W hW=>af ((Below.cell (p:=⟨qb,qo+y,none⟩) hW Gy.u.lt).trans Gy.u.cell))) (hS _ _ hI)<|d8 11 22 (.slice (some ⟨qb,qo,none⟩) N qc) 68 (hS _ _ hI)<|d7 12 22 (.pointer (some ⟨w.heap.size,1,none⟩)) 69 rfl rfl (i9 fun w=>aA _ rfl rfl (cn _ _)) (hS _ _ hI)<|d7 13 22 (.slice (some ⟨ob,oo,none⟩) N oc) 70 rfl rfl (i8 ⟨w.heap.size,1,none⟩ (fun W hW=>Rg.ae _ _ Tryz.underlying22 ((Below.cell (p:=⟨w.heap.size,1,none⟩) hW uB.u.lt).trans uB.u.cell))) (hS _ _ hI)<|d8 14 22 (.int .i64 ((i:Nat):Int)) 71 (hS _ _ hI) ?_;go_frame
        refine d7 15 22 (.pointer (some ⟨ob,oo+i,none⟩)) 72 rfl rfl (Rg.ai bI _ _ rfl rfl ob (oo) (N) oc (i) rfl rfl bJ.u) (hS _ _ hI)<|d7 16 22 (.slice (some ⟨ub,uo,none⟩) os.length uc) 73 rfl rfl (i8 ⟨ob,oo+i,none⟩ (fun W hW=>Rg.ae _ _ Tryz.underlying26 ((Below.cell (p:=⟨ob,oo+i,none⟩) hW uC.u.lt).trans uC.u.cell))) (hS _ _ hI)<|d8 17 22 (.int .i64 ((a:Nat):Int)) 74 (hS _ _ hI)<|d7 18 22 (.pointer (some ⟨ub,uo+a,none⟩)) 75 rfl rfl (Rg.ai aO _ _ rfl rfl ub (uo) (os.length) uc (a) rfl rfl Gt.u) (hS _ _ hI)<|d7 19 22 (.int .i64 ((z:Nat):Int)) 76 rfl rfl (i8 ⟨ub,uo+a,none⟩ (fun W hW=>af ((Below.cell (p:=⟨ub,uo+a,none⟩) hW Gw.u.lt).trans Gw.u.cell))) (hS _ _ hI) ?_;go_frame
        refine d7 20 22 (.pointer (some ⟨qb,qo+z,none⟩)) 77 rfl rfl (Rg.ai bB _ _ rfl rfl qb (qo) (N) qc (z) rfl rfl Xo.u) (hS _ _ hI)<|d7 21 22 (.int .i64 ((qz:Nat):Int)) 78 rfl rfl (i8 ⟨qb,qo+z,none⟩ (fun W hW=>af ((Below.cell (p:=⟨qb,qo+z,none⟩) hW Gz.u.lt).trans Gz.u.cell))) (hS _ _ hI)<|i7 22 79 rfl rfl (g8 (.bool true) .lss (h:=aH _ f7)) (hS _ _ hI) ?_;go_frame
        refine Rg.Any.done (by kernel_rfl) ?_ _;clear hS hI;go_upto_region 16 with fail
        refine b6<|j6 rfl<|k5 (g8 (.int .i64 (((c+1):Nat):Int)) .add (h:=bQ _ (by omega) (by omega)))<|j6 rfl ?_;go_frame
        go_upto_region 14 with fail
        refine b6<|j6 rfl<|k5 (g8 (.int .i64 (((b+1):Nat):Int)) .add (h:=bQ _ (by omega) (by omega)))<|j6 rfl ?_;go_frame
        go_wp2
        go_roundw
        case rel=>exact ⟨b+1,by rw [k6.u],by go_num,Gu.u,KS⟩
        case measure=>simp [intOf]; have:=Gu.u; omega
       case neg =>
        rw [if_neg aw] at k6;go_upto_region 15 with fail;have aj:Below wr.heap.size wr wr.drew:=(Below.refl _ _).drew;replace TX:=U (TX.u.p aj);replace TY:=U (TY.u.p aj);replace TZ:=U (TZ.u.p aj);replace uB:=U (uB.u.p aj);replace T5:=U (T5.u.p aj);replace QE:=U (QE.u.p aj);replace uC:=U (uC.u.p aj);replace QF:=U (QF.u.p aj);replace T6:=U (T6.u.p aj);replace T8:=U (T8.u.p aj);replace Gv:=U (Gv.u.p aj);replace Gw:=U (Gw.u.p aj);replace Gy:=U (Gy.u.p aj);replace Gz:=U (Gz.u.p aj);replace KS:=U (Rg.acc KS.u aj);clear aj;refine Rg.Any.begin (S:=Rg.aG 22 (fun _=>True) (fun W=>Below wr.drew.heap.size wr.drew W)) mix ?_;generalize wr.drew=zt at *;have hS:∀ (l:Array Bool) W,Below zt.heap.size zt W->Rg.aG 22 (fun _=>True) (fun W=>Below zt.heap.size zt W) l W:=fun l W h=>⟨.inr trivial,h⟩
        have hI:Below zt.heap.size zt zt:=Below.refl _ _
        refine d8 0 22 (.slice (some ⟨qb,qo,none⟩) N qc) 57 (hS _ _ hI)<|d7 1 22 (.pointer (some ⟨w.heap.size,1,none⟩)) 58 rfl rfl (i9 fun w=>aA _ rfl rfl (cn _ _)) (hS _ _ hI)<|d7 2 22 (.slice (some ⟨ob,oo,none⟩) N oc) 59 rfl rfl (i8 ⟨w.heap.size,1,none⟩ (fun W hW=>Rg.ae _ _ Tryz.underlying22 ((Below.cell (p:=⟨w.heap.size,1,none⟩) hW uB.u.lt).trans uB.u.cell))) (hS _ _ hI)<|d8 3 22 (.int .i64 ((i:Nat):Int)) 60 (hS _ _ hI)<|d7 4 22 (.pointer (some ⟨ob,oo+i,none⟩)) 61 rfl rfl (Rg.ai bI _ _ rfl rfl ob (oo) (N) oc (i) rfl rfl bJ.u) (hS _ _ hI) ?_;go_frame
        refine d7 5 22 (.slice (some ⟨ub,uo,none⟩) os.length uc) 62 rfl rfl (i8 ⟨ob,oo+i,none⟩ (fun W hW=>Rg.ae _ _ Tryz.underlying26 ((Below.cell (p:=⟨ob,oo+i,none⟩) hW uC.u.lt).trans uC.u.cell))) (hS _ _ hI)<|d8 6 22 (.int .i64 ((b:Nat):Int)) 63 (hS _ _ hI)<|d7 7 22 (.pointer (some ⟨ub,uo+b,none⟩)) 64 rfl rfl (Rg.ai aO _ _ rfl rfl ub (uo) (os.length) uc (b) rfl rfl Gu.u) (hS _ _ hI)<|d7 8 22 (.int .i64 ((y:Nat):Int)) 65 rfl rfl (i8 ⟨ub,uo+b,none⟩ (fun W hW=>af ((Below.cell (p:=⟨ub,uo+b,none⟩) hW Gv.u.lt).trans Gv.u.cell))) (hS _ _ hI)<|d7 9 22 (.pointer (some ⟨qb,qo+y,none⟩)) 66 rfl rfl (Rg.ai bB _ _ rfl rfl qb (qo) (N) qc (y) rfl rfl Xp.u) (hS _ _ hI) ?_;go_frame
        refine d7 10 22 (.int .i64 ((qy:Nat):Int)) 67 rfl rfl (i8 ⟨qb,qo+y,none⟩ (fun W hW=>af ((Below.cell (p:=⟨qb,qo+y,none⟩) hW Gy.u.lt).trans Gy.u.cell))) (hS _ _ hI)<|d8 11 22 (.slice (some ⟨qb,qo,none⟩) N qc) 68 (hS _ _ hI)<|d7 12 22 (.pointer (some ⟨w.heap.size,1,none⟩)) 69 rfl rfl (i9 fun w=>aA _ rfl rfl (cn _ _)) (hS _ _ hI)<|d7 13 22 (.slice (some ⟨ob,oo,none⟩) N oc) 70 rfl rfl (i8 ⟨w.heap.size,1,none⟩ (fun W hW=>Rg.ae _ _ Tryz.underlying22 ((Below.cell (p:=⟨w.heap.size,1,none⟩) hW uB.u.lt).trans uB.u.cell))) (hS _ _ hI)<|d8 14 22 (.int .i64 ((i:Nat):Int)) 71 (hS _ _ hI) ?_;go_frame
        refine d7 15 22 (.pointer (some ⟨ob,oo+i,none⟩)) 72 rfl rfl (Rg.ai bI _ _ rfl rfl ob (oo) (N) oc (i) rfl rfl bJ.u) (hS _ _ hI)<|d7 16 22 (.slice (some ⟨ub,uo,none⟩) os.length uc) 73 rfl rfl (i8 ⟨ob,oo+i,none⟩ (fun W hW=>Rg.ae _ _ Tryz.underlying26 ((Below.cell (p:=⟨ob,oo+i,none⟩) hW uC.u.lt).trans uC.u.cell))) (hS _ _ hI)<|d8 17 22 (.int .i64 ((a:Nat):Int)) 74 (hS _ _ hI)<|d7 18 22 (.pointer (some ⟨ub,uo+a,none⟩)) 75 rfl rfl (Rg.ai aO _ _ rfl rfl ub (uo) (os.length) uc (a) rfl rfl Gt.u) (hS _ _ hI)<|d7 19 22 (.int .i64 ((z:Nat):Int)) 76 rfl rfl (i8 ⟨ub,uo+a,none⟩ (fun W hW=>af ((Below.cell (p:=⟨ub,uo+a,none⟩) hW Gw.u.lt).trans Gw.u.cell))) (hS _ _ hI) ?_;go_frame
        refine d7 20 22 (.pointer (some ⟨qb,qo+z,none⟩)) 77 rfl rfl (Rg.ai bB _ _ rfl rfl qb (qo) (N) qc (z) rfl rfl Xo.u) (hS _ _ hI)<|d7 21 22 (.int .i64 ((qz:Nat):Int)) 78 rfl rfl (i8 ⟨qb,qo+z,none⟩ (fun W hW=>af ((Below.cell (p:=⟨qb,qo+z,none⟩) hW Gz.u.lt).trans Gz.u.cell))) (hS _ _ hI)<|i7 22 79 rfl rfl (g8 (.bool false) .lss (h:=aH _ f8)) (hS _ _ hI) ?_;go_frame
        refine Rg.Any.done (by kernel_rfl) ?_ _;clear hS hI;go_upto_region 14 with fail
        refine b6<|j6 rfl<|k5 (g8 (.int .i64 (((b+1):Nat):Int)) .add (h:=bQ _ (by omega) (by omega)))<|j6 rfl ?_;go_frame
        go_wp2
        go_roundw
        case rel=>exact ⟨b+1,by rw [k6.u]; rfl,by go_num,Gu.u,KS⟩
        case measure=>simp [intOf]; have:=Gu.u; omega
end
section
open Go.Proofs.Ob
open Go.Proofs.Cm (Gd Gr ar ap lexLt cy St)
attribute [local irreducible] Go.Calls Go.wpList
theorem jM {t:TypeId} {ps rs:Array TypeId} {b:Bool} (ht:Tryz.prog.underlying t=some (.func ps rs b)) {w:World} {ad:Addr} (h:w.cell? ad=some v):(loadVar t ad).run Tryz.prog w=.ok v w:=by
 simp [loadVar,isAgg,run_underlying ht,load];simp [Sem.run,h]
end
end Go.Proofs.YtpedbljnhnoohaaGreat
namespace Go.Proofs.Rg
open Go Go.RowKit
section
variable {n:Nat} {P:Program} {Q:Exit->Act->World->Prop} {md:Region.Mode} {ops:Array Oper}
theorem Nt {id:Nat} {a:Act} {w:World} {l:List Oper} (hm:P.follows .mixedOrders=true) (h:wpAnyIn Fence.wide n P .any l.toArray Q l.toArray.size (Array.replicate l.toArray.size false) a w.drew):(Code.region id l.toArray true).wp P Q a w :=
 (wpIn_wide (n:=n)).1 (wpIn_region_any hm h)
theorem kB {i m:Nat} {l:Array Bool} {a:Act} {w:World} (h:wpOpIn Fence.wide n P ops Q i (wpAnyIn Fence.wide n P md ops Q m (l.setIfInBounds i true)) a w) (hr:Region.ready md ops l=[i]:=by kernel_rfl):wpAnyIn Fence.wide n P md ops Q (m+1) l a w :=
 ⟨fun e=>(by rw [hr] at e; cases e),fun j hj=>by
  rw [hr] at hj
  obtain rfl:j=i:=by simpa using hj
  exact h⟩
theorem Lk {i m:Nat} {l:Array Bool} {a:Act} {w:World} (h:wpOpIn Fence.wide n P ops Q i (wpAnyIn Fence.wide n P md ops Q m (l.setIfInBounds i true)) a w) (h2:wpOpIn Fence.wide n P ops Q j (wpAnyIn Fence.wide n P md ops Q m (l.setIfInBounds j true)) a w) (hr:Region.ready md ops l=[i,j]:=by kernel_rfl):wpAnyIn Fence.wide n P md ops Q (m+1) l a w :=
 ⟨fun e=>(by rw [hr] at e; cases e),fun k hk=>by
  rw [hr] at hk
  rcases List.mem_cons.1 hk with rfl | hk
  ·exact h
  ·obtain rfl:k=j:=by simpa using hk
   exact h2⟩
theorem zu {l:Array Bool} {a:Act} {w:World} (h:Q .normal a w) (hr:Region.ready md ops l=[]:=by kernel_rfl):wpAnyIn Fence.wide n P md ops Q 0 l a w:=⟨hr,h⟩
theorem my {i:Nat} {o:Oper} {K:Act->World->Prop} {a:Act} {w:World} (d:Option Tmp) (hi:ops[i]?=some o) (hd:o.dst=d) (hw:Region.wanted o (yielded ops a.tmps)=true) (hr:(execOp a.eval o).run P w=.ok (.value v) w') (h:K (a.put d v) w'):wpOpIn Fence.wide n P ops Q i K a w:=by
 subst hd;unfold wpOpIn;rw [hi];simp only [hw,if_true];refine ⟨fun _ _=>trivial,?_⟩;rw [show (Fence.wide).round=none from rfl,Oper.semAt_none,hr];exact h
theorem DN {i:Nat} {o:Oper} {K:Act->World->Prop} {a:Act} {w:World} (d:Option Tmp) (hi:ops[i]?=some o) (hd:o.dst=d) (hw:Region.wanted o (yielded ops a.tmps)=true) (f:FuncId) (args:Array Value) (hr:(execOp a.eval o).run P w=.ok (.enter f args) w) (h:Calls P f args w fun e w'=>∃ v,e=.returned v/\K (a.put d v) w'):wpOpIn Fence.wide n P ops Q i K a w:=by
 subst hd;unfold wpOpIn;rw [hi];simp only [hw,if_true];refine ⟨fun _ _=>trivial,?_⟩;rw [show (Fence.wide).round=none from rfl,Oper.semAt_none,hr];refine ⟨(fun hh=>by cases hh),(callsIn_wide.2 h).mono ?_⟩;rintro e w' ⟨v,rfl,hv⟩;exact hv
theorem vR {i m:Nat} {o:Oper} {K:Act->World->Prop} {a:Act} {w:World} (d:Option Tmp) (hi:ops[i]?=some o) (hd:o.dst=d) (hw:Region.wanted o (yielded ops a.tmps)=true) (l:Nat) (args:Array Value) (hr:∀ r w',(Instr.yield l args).run P w=.ok r w'->(execOp a.eval o).run P w=.ok r w') (h:YieldAt Fence.wide m P l args w fun e w'=>∃ v,e=.returned v/\K (a.put d v) w') (hm:n - 1=m):wpOpIn Fence.wide n P ops Q i K a w:=by
 subst hd hm;obtain ⟨fn,tmps,asg,bd,hy,hR⟩:=h;unfold wpOpIn;rw [hi];simp only [hw,if_true];refine ⟨fun _ _=>trivial,?_⟩;rw [show (Fence.wide).round=none from rfl,Oper.semAt_none,hr _ _ hy];refine ⟨(fun hh=>by cases hh),hR.mono ?_⟩;rintro e w' ⟨v,rfl,hv⟩;exact hv
end
end Go.Proofs.Rg
namespace Go.Proofs.YtpedbljnhnoohaaGreat
open Go.RowKit
open Go.Proofs
open Go.Proofs.Ob
open Go.Proofs.Cm (Gd Gr ar ap lexLt cy St)
attribute [local irreducible] Go.Calls Go.wpList
theorem qt {o:Oper} {a:Act} {w:World} {l:Nat} {x1:Value} (f x:Operand) (pL:Array TypeId) (ho:o.op=.call { callee:=.value f,args:=#[x],argTypes:=pL }) (hf:a.eval f=.func (.yield l) #[] #[]) (hx:a.eval x=x1):∀ r w',(Instr.yield l #[x1]).run Tryz.prog w=.ok r w'->(execOp a.eval o).run Tryz.prog w=.ok r w':=by
 intro r w' h;unfold execOp;simp [ho,hx,hf,resolve,invoke,Deferred.ofValue,h]
theorem aaq:Tryz.prog.follows .mixedOrders=true:=by kernel_rfl
structure uE (N:Nat) (O:List (List Nat)) (R:List (List (List Nat))) (F:Nat->Prop) (cb yb wb l:Nat) (ov rv:Value) (W:World):Prop where
 fc:F cb
 fy:F yb
 fw:F wb
 c0:W.cell? ⟨cb,0,none⟩=some (.int .i64 ((N:Nat):Int))
 c1:W.cell? ⟨cb,1,none⟩=some ov
 c2:W.cell? ⟨cb,2,none⟩=some rv
 y:W.cell? ⟨yb,0,none⟩=some (.func (.yield l) #[] #[])
 k:W.cell? ⟨wb,0,none⟩=some (.func (.func 108) #[] #[.pointer (some ⟨cb,0,none⟩),.pointer (some ⟨yb,0,none⟩),.pointer (some ⟨wb,0,none⟩)])
 o:Rg.aM F W ov (O.map Ma.ah)
 r:bs F W rv (R.map (List.map Ma.ah))
 lt:∀ z,F z->z<W.heap.size
section
variable {N:Nat} {O:List (List Nat)} {R:List (List (List Nat))} {F:Nat->Prop} {cb yb wb l:Nat} {ov rv:Value} {W W':World}
theorem qu {C:Nat->Prop} (hk:Rg.Kp C W W') {b k:Nat} (hb:b<W.heap.size) (hn:¬ C b):W'.cell? ⟨b,k,none⟩=W.cell? ⟨b,k,none⟩:=by
 unfold World.cell?; rw [hk.block b hb hn]
theorem uE.kp (h:uE N O R F cb yb wb l ov rv W) {C:Nat->Prop} (hk:Rg.Kp C W W') (hd:∀ z,F z->¬ C z):uE N O R F cb yb wb l ov rv W':=by
 have e:∀ {b k:Nat},F b->W'.cell? ⟨b,k,none⟩=W.cell? ⟨b,k,none⟩:=fun hb=>qu hk (h.lt _ hb) (hd _ hb);exact ⟨h.fc,h.fy,h.fw,(e h.fc).trans h.c0,(e h.fc).trans h.c1,(e h.fc).trans h.c2,(e h.fy).trans h.y,(e h.fw).trans h.k,h.o.kp hk hd,h.r.kp hk hd,fun z hz=>Nat.lt_of_lt_of_le (h.lt z hz) hk.size⟩
theorem uE.p (h:uE N O R F cb yb wb l ov rv W) (hb:Below W.heap.size W W'):uE N O R F cb yb wb l ov rv W':=h.kp (C:=fun _=>False) (Rg.Kp.aF hb) (fun _ _=>id)
theorem uE.mono (h:uE N O R F cb yb wb l ov rv W) {F':Nat->Prop} (hF:∀ z,F z->F' z) (aw:∀ z,F' z->z<W.heap.size):uE N O R F' cb yb wb l ov rv W :=
 ⟨hF _ h.fc,hF _ h.fy,hF _ h.fw,h.c0,h.c1,h.c2,h.y,h.k,h.o.mono hF,h.r.mono hF,aw⟩
theorem uE.ce (h:uE N O R F cb yb wb l ov rv W):ba W ov rv (O.map Ma.ah) (R.map (List.map Ma.ah)):=⟨h.o.rows,h.r.rows⟩
end
def Xq (l:Nat) (LL:List (List Nat)) (J:Nat->(Nat->Prop)->World->Prop) (Jx:World->Prop):Prop :=
 ∀ (m t:Nat) (C:Nat->Prop) (W:World) (uv:Value),t<LL.length->J t C W->Rg.FI (fun z=>¬ C z) W uv (Ma.ah (LL.getD t []))->YieldAt Fence.wide m Tryz.prog l #[uv] W fun e W' =>
  (e=.returned (.bool true)/\∃ C':Nat->Prop,J (t+1) C' W'/\Rg.Kp C W W'/\∀ z,C' z->C z∨W.heap.size<=z)∨(e=.returned (.bool false)/\Jx W')
def QH (J:Nat->(Nat->Prop)->World->Prop) (Jx:World->Prop) (t:Nat) (C:Nat->Prop) (W:World) (e:Ending) (W':World):Prop :=
 (e=.returned (.bool true)/\∃ C':Nat->Prop,J t C' W'/\Rg.Kp C W W'/\∀ z,C' z->C z∨W.heap.size<=z)∨(e=.returned (.bool false)/\Jx W')
theorem T_ {l:List Int} (h:W.ownsRow B 3 1 v l.length (l.map (Value.int .i64))) (hl:l.length<=1000000):Rg.FI (fun z=>B<=z) W v l:=gK.fi ⟨h⟩ (by omega) (fun k h1 _=>h1)
theorem JQ (eB:1<=N) (hN:N<=64) {cb yb wb l:Nat} {LL:List (List Nat)} {J:Nat->(Nat->Prop)->World->Prop} {Jx:World->Prop}
  (hY:Xq l LL J Jx) (hJ:∀ t C W W',J t C W->Below W.heap.size W W'->J t C W') (hC:∀ t C W,J t C W->∀ z,C z->z<W.heap.size) {t:Nat} {uv:Value} {C:Nat->Prop} (ht:t<LL.length) (hq:LL.getD t []=q) (gq:Gd N q) (hW:uE N O R F cb yb wb l ov rv W) (hu:Rg.FI F W uv (Ma.ah q)) (hj:J t C W) (hd:∀ z,F z->¬ C z) :
  Calls Tryz.prog 108 (#[.int .i64 ((N:Nat):Int),uv]++#[.pointer (some ⟨cb,0,none⟩),.pointer (some ⟨yb,0,none⟩),.pointer (some ⟨wb,0,none⟩)]) W fun e W'=>QH J Jx (t+1) C W e W':=by
 obtain ⟨n,ua,uc,hn,rfl,-⟩:=hu.len
 obtain rfl:n=N:=by rw [<- hn,Ma.aB,gq.2]
 clear hn;have HW:=U hW;have HY:=U hY;have HJ:=U hj;have HU:=U hu;have HD:=U hd;have HQ:=U hq;have A0:=U (show CL W cb 0 (.int .i64 ((n:Nat):Int)) from CL.mk hW.c0 (hW.lt _ hW.fc));clear hY hW hj hu hd hq
 go_enter Tryz.func108,Tryz.ntmps108
 have K:=U (Below.refl W.heap.size W);go_upto_region 0 with fail
 refine b6<|k5 (i_ (v:=.slice ua n uc) _ _ rfl rfl rfl) ?_;go_frame
 have aJ:CL (W.alloc (.cells #[.slice ua n uc] 27)) W.heap.size 0 (.slice ua n uc):=CL.mk (by rw [Rg.aT]; rfl) (by simp);have hb:=(Below.refl W.heap.size W).alloc (Nat.le_refl _) (.cells #[.slice ua n uc] 27);generalize W.alloc (.cells #[.slice ua n uc] 27)=w1 at *;replace A0:=U (A0.u.p hb);replace K:=U (Rg.acc K.u hb);clear hb;have BX:=U aJ;refine j9 rfl ?_;go_frame;go_upto_region 1 with fail
 refine b6<|j6 rfl<|k5 (j0 (cP _ _))<|k5 (g7 (.int .i64 ((n:Nat):Int)) ⟨cb,0,none⟩ (af A0.u.cell))<|k5 (g8 (.bool true) .eql (h:=fa _ (decide_eq_true rfl))) ?_;go_frame
 clear aJ;go_upto_region 2 with fail;refine Rg.Nt (n:=3) aaq ?_;have aj:Below w1.heap.size w1 w1.drew:=(Below.refl _ _).drew;replace K:=U (Rg.acc K.u aj);replace BX:=U (BX.u.p aj);clear aj A0;generalize w1.drew=V at *;have QI:=U (HW.u.p K.u);have JR:=U (HU.u.kp (Rg.Kp.aF (M:=fun _=>False) K.u) (fun _ _=>id));have AR:=U (hJ _ _ _ _ HJ.u K.u);have hi:=JR.u.ints;have yQ:=QI.u.y;have yE:=BX.u.cell
 have n_:=(om (.slice ua n uc) (Ma.ah q) V hi (by rw [Ma.aB,gq.2]; exact eB) (by rw [Ma.aB,gq.2]; omega)).mono (R':=fun e w'=>∃ v,e=.returned v/\w'.cell? ⟨yb,0,none⟩=some (.func (.yield l) #[] #[])/\YieldAt Fence.wide 2 Tryz.prog l #[v] w' (fun e W'=>QH J Jx (t+1) C W e W')) (by
  rintro e w' ⟨v,rfl,fR,hb⟩;refine ⟨v,rfl,(QI.u.p hb).y,YieldAt.mono (HY.u 2 t C w' v ht (hJ _ _ _ _ AR.u hb) ?_) ?_⟩
  ·rw [HQ.u]
   exact (T_ fR (by rw [Ma.aB,gq.2]; omega)).mono fun z hz hc=>by
    have:=hC _ _ _ AR.u z hc;omega
  ·rintro e W3 (⟨rfl,C3,h1,h2,h3⟩ | h)
   ·refine .inl ⟨rfl,C3,h1,?_,fun z hz=>?_⟩
    ·exact (Rg.Kp.aF (M:=C) (K.u.trans (hb.mono K.u.size))).trans h2 (fun _ _ h=>h)
    ·rcases h3 z hz with h4 | h4
     ·exact .inl h4
     ·exact .inr (Nat.le_trans (Nat.le_trans K.u.size hb.size) h4)
   ·exact .inr h)
 clear hi;refine Rg.Lk (i:=0) (j:=1) ?_ ?_
 ·skip
  refine Rg.my (some 19) rfl rfl rfl (g7 (.func (.yield l) #[] #[]) ⟨yb,0,none⟩ (jM Tryz.underlying118 yQ)) ?_;go_frame;refine Rg.kB (i:=1) ?_;refine Rg.my (some 20) rfl rfl rfl (g7 (.slice ua n uc) ⟨W.heap.size,0,none⟩ (Rg.ae _ _ Tryz.underlying27 yE)) ?_;go_frame;refine Rg.kB (i:=2) ?_;refine Rg.DN (some 21) rfl rfl rfl _ _ (ax 75 _ _ rfl rfl (vF _ _)) ?_;refine n_.mono ?_;rintro e9 w9 ⟨v9,rfl,Nu,QJ⟩;refine ⟨_,rfl,?_⟩;go_frame;refine Rg.kB (i:=3) ?_;refine Rg.vR (some 22) rfl rfl rfl l #[v9] (qt _ _ _ rfl rfl rfl) ?_ rfl;refine QJ.mono ?_;rintro e8 w8 h8
  obtain ⟨bv,rfl⟩:∃ bv,e8=.returned (.bool bv):=by rcases h8 with ⟨rfl,_⟩ | ⟨rfl,_⟩ <;> exact ⟨_,rfl⟩
  refine ⟨_,rfl,?_⟩;go_frame;refine Rg.kB (i:=4) ?_;refine Rg.my (some 7) rfl rfl rfl (b5 (.bool bv) _ rfl rfl) ?_;go_frame;refine Rg.zu ?_;clear n_ yQ yE Nu AR JR QI K BX HW HY HJ HU HD HQ;go_wp2;go_ret;exact h8
 ·skip
  refine Rg.my (some 20) rfl rfl rfl (g7 (.slice ua n uc) ⟨W.heap.size,0,none⟩ (Rg.ae _ _ Tryz.underlying27 yE)) ?_;go_frame;refine Rg.Lk (i:=0) (j:=2) ?_ ?_
  ·skip
   refine Rg.my (some 19) rfl rfl rfl (g7 (.func (.yield l) #[] #[]) ⟨yb,0,none⟩ (jM Tryz.underlying118 yQ)) ?_;go_frame;refine Rg.kB (i:=2) ?_;refine Rg.DN (some 21) rfl rfl rfl _ _ (ax 75 _ _ rfl rfl (vF _ _)) ?_;refine n_.mono ?_;rintro e9 w9 ⟨v9,rfl,Nu,QJ⟩;refine ⟨_,rfl,?_⟩;go_frame;refine Rg.kB (i:=3) ?_;refine Rg.vR (some 22) rfl rfl rfl l #[v9] (qt _ _ _ rfl rfl rfl) ?_ rfl;refine QJ.mono ?_;rintro e8 w8 h8
   obtain ⟨bv,rfl⟩:∃ bv,e8=.returned (.bool bv):=by rcases h8 with ⟨rfl,_⟩ | ⟨rfl,_⟩ <;> exact ⟨_,rfl⟩
   refine ⟨_,rfl,?_⟩;go_frame;refine Rg.kB (i:=4) ?_;refine Rg.my (some 7) rfl rfl rfl (b5 (.bool bv) _ rfl rfl) ?_;go_frame;refine Rg.zu ?_;clear n_ yQ yE Nu AR JR QI K BX HW HY HJ HU HD HQ;go_wp2;go_ret;exact h8
  ·skip
   refine Rg.DN (some 21) rfl rfl rfl _ _ (ax 75 _ _ rfl rfl (vF _ _)) ?_;refine n_.mono ?_;rintro e9 w9 ⟨v9,rfl,Nu,QJ⟩;refine ⟨_,rfl,?_⟩;go_frame;refine Rg.kB (i:=0) ?_;refine Rg.my (some 19) rfl rfl rfl (g7 (.func (.yield l) #[] #[]) ⟨yb,0,none⟩ (jM Tryz.underlying118 Nu)) ?_;go_frame;refine Rg.kB (i:=3) ?_;refine Rg.vR (some 22) rfl rfl rfl l #[v9] (qt _ _ _ rfl rfl rfl) ?_ rfl;refine QJ.mono ?_;rintro e8 w8 h8
   obtain ⟨bv,rfl⟩:∃ bv,e8=.returned (.bool bv):=by rcases h8 with ⟨rfl,_⟩ | ⟨rfl,_⟩ <;> exact ⟨_,rfl⟩
   refine ⟨_,rfl,?_⟩;go_frame;refine Rg.kB (i:=4) ?_;refine Rg.my (some 7) rfl rfl rfl (b5 (.bool bv) _ rfl rfl) ?_;go_frame;refine Rg.zu ?_;clear n_ yQ yE Nu AR JR QI K BX HW HY HJ HU HD HQ;go_wp2;go_ret;exact h8

theorem Xr (args:Array Value) (w:World):(callFunc 109 args).run Tryz.prog w=.ok (.enter 109 args) w:=by kernel_rfl
theorem Xs (args:Array Value) (w:World):(callFunc 110 args).run Tryz.prog w=.ok (.enter 110 args) w:=by kernel_rfl
theorem Xt (args:Array Value) (w:World):(callFunc 113 args).run Tryz.prog w=.ok (.enter 113 args) w:=by kernel_rfl
theorem vS {l:List Int} (h:Rg.FI F W v l):Rg.FI (fun z=>F z/\z<W.heap.size) W v l:=by
 obtain ⟨a,cap,h1,h2,h3,h4,h5⟩:=h;refine ⟨a,cap,h1,h2,h3,h4,fun h0=>?_⟩;obtain ⟨b,o,e1,e2,e3,e4⟩:=h5 h0;exact ⟨b,o,e1,e2,⟨e3,e2⟩,e4⟩
theorem BQ {w:World} {x:List Nat} (h:Rg.nV w W v x):Rg.FI (fun z=>w.heap.size<=z) W v (Ma.ah x):=by
 obtain ⟨h1,h2⟩:=h;refine Rg.c_.of h1 fun b hb=>?_
 cases v with
 | slice a n c=>cases a with
  | none=>simp [Value.ownBlock] at hb
  | some a=>simp [Value.ownBlock] at hb; subst hb; exact h2 a n c rfl
 | _=>simp [Value.ownBlock] at hb
theorem zw {o:Oper} {a:Act} {w:World} {u3 x1 y1:Value} (F:FuncId) (f x y:Operand) (pL:Array TypeId) (ho:o.op=.call { callee:=.value f,args:=#[x,y],argTypes:=pL }) (hf:a.eval f=.func (.func F) #[] #[u1,u2,u3]) (hx:a.eval x=x1) (hy:a.eval y=y1)
  (hF:(callFunc F #[x1,y1,u1,u2,u3]).run Tryz.prog w=.ok (.enter F #[x1,y1,u1,u2,u3]) w):(execOp a.eval o).run Tryz.prog w=.ok (.enter F #[x1,y1,u1,u2,u3]) w:=by
 unfold execOp;simp [ho,hx,hy,hf,resolve,invoke,Deferred.ofValue,hF]
theorem QK (args:Array Value) (w:World):(callFunc 108 args).run Tryz.prog w=.ok (.enter 108 args) w:=by kernel_rfl
theorem JS (eB:1<=N) (hN:N<=64) (hH:cy N H) (bR:ar N H O R) {cb yb wb l:Nat} {LL:List (List Nat)} {J:Nat->(Nat->Prop)->World->Prop} {Jx:World->Prop}
  (hY:Xq l LL J Jx) (hJ:∀ t C W W',J t C W->Below W.heap.size W W'->J t C W') (hC:∀ t C W,J t C W->∀ z,C z->z<W.heap.size):∀ (m i t:Nat) (q:List Nat) (uv:Value) (F C:Nat->Prop) (w:World),i+m=N->t+bX O N m<=LL.length->(∀ r,r<bX O N m->LL.getD (t+r) []=k7 N O R m i q r)->H q ->
  uE N O R F cb yb wb l ov rv w->Rg.FI F w uv (Ma.ah q)->J t C w->(∀ z,F z->¬ C z) ->
  Calls Tryz.prog 108 (#[.int .i64 ((i:Nat):Int),uv]++#[.pointer (some ⟨cb,0,none⟩),.pointer (some ⟨yb,0,none⟩),.pointer (some ⟨wb,0,none⟩)]) w fun e W'=>QH J Jx (t+bX O N m) C w e W':=by
 intro m
 induction m with
 | zero =>
  intro i t q uv F C w hi ht hr hq hW hu hj hd
  obtain rfl:i=N:=by omega
  exact JQ eB hN hY hJ hC (by have:bX O i 0=1:=rfl; omega) (hr 0 Nat.zero_lt_one) (hH.gd q hq) hW hu hj hd
 | succ m ih =>
  intro i t q uv F C w hi ht hr hq hW hu hj hd;have gq:=hH.gd q hq
  have aP:i<N:=by omega
  obtain ⟨n,ua,uc,hn,rfl,-⟩:=hu.len
  obtain rfl:n=N:=by rw [<- hn,Ma.aB,gq.2]
  clear hn;obtain ⟨s,hs⟩:∃ s:Nat,Hid (bX O n m=s):=⟨_,U rfl⟩;obtain ⟨os,mT⟩:∃ l,Hid (O.getD i []=l):=⟨_,U rfl⟩;obtain ⟨rl,eG⟩:∃ l,Hid (R.getD i []=l):=⟨_,U rfl⟩;have zq:=U (oO hH bR aP gq);have QB:=U (List.length_pos_of_mem (qT hH bR aP));have tQ:=U (show (O.getD i []).length<=64 from Nat.le_trans (gX hH bR aP) (by omega));have mP:=U (bR.len i aP);have HAS:=U (bR.jl i aP);have sx:=U (show bX O n (m+1)=(O.getD i []).length*s by rw [<- hs.u]; show (O.getD (n - (m+1)) []).length*_=_; rw [show n - (m+1)=i by omega]);obtain ⟨ob,oo,oc,rb,ro,rc,rfl,rfl,⟨ob2,vD,oL,ly⟩,⟨va,vc,kt,pD⟩⟩:=ep bR hW.ce aP;rw [mT.u] at oL ly kt pD zq QB tQ mP HAS sx;rw [eG.u] at pD mP;have Nr:0<os.length:=QB.u;have kL:os.length<=64:=tQ.u;have A0:=U (show CL w cb 0 (.int .i64 ((n:Nat):Int)) from CL.mk hW.c0 (hW.lt _ hW.fc))
  have A1:=U (show CL w cb 1 (.slice (some ⟨ob,oo,none⟩) n oc) from CL.mk hW.c1 (hW.lt _ hW.fc));have A2:=U (show CL w cb 2 (.slice (some ⟨rb,ro,none⟩) n rc) from CL.mk hW.c2 (hW.lt _ hW.fc));have CO:=U oL;have NO:=U (dw.mk ly);have HW:=U hW;have HU:=U hu;have HJ:=U hj;have HD:=U hd;have HQ:=U hq;have HR:=U hr;have HT:=U ht;have HI:=U hi;have bJ:=U aP;have GQ:=U gq;have IH:=U ih;have K:=U (Below.refl w.heap.size w);clear hr hq hW hu hj hd gq oL ly kt pD ih ht
  go_enter Tryz.func108,Tryz.ntmps108
  go_upto_region 0 with fail
  refine b6<|k5 (i_ (v:=.slice ua n uc) _ _ rfl rfl rfl) ?_;go_frame
  have aJ:CL (w.alloc (.cells #[.slice ua n uc] 27)) w.heap.size 0 (.slice ua n uc):=CL.mk (by rw [Rg.aT]; rfl) (by simp);have hb:=(Below.refl w.heap.size w).alloc (Nat.le_refl _) (.cells #[.slice ua n uc] 27);generalize w.alloc (.cells #[.slice ua n uc] 27)=w1 at *;replace A0:=U (A0.u.p hb);replace A1:=U (A1.u.p hb);replace A2:=U (A2.u.p hb);replace CO:=U (CO.u.p hb);replace NO:=U (NO.u.p hb);replace K:=U (Rg.acc K.u hb);clear hb;have BX:=U aJ;refine j9 rfl ?_;go_frame;clear aJ;go_upto_region 1 with fail
  refine b6<|j6 rfl<|k5 (j0 (cP _ _))<|k5 (g7 (.int .i64 ((n:Nat):Int)) ⟨cb,0,none⟩ (af A0.u.cell))<|k5 (g8 (.bool false) .eql (h:=fa _ f8)) ?_;go_frame
  have KB:=U (Below.refl w1.heap.size w1);have Ll:w.heap.size<w1.heap.size:=BX.u.lt;have JR:=U (vS (HU.u.kp (Rg.Kp.aF (M:=fun _=>False) K.u) (fun _ _=>id)));go_upto_region 3 with fail
  refine b6<|k5 (j0 (cn _ _))<|k5 (g7 (.slice (some ⟨ob,oo,none⟩) n oc) ⟨cb,1,none⟩ (Rg.ae _ _ Tryz.underlying22 ((Below.cell (p:=⟨cb,1,none⟩) KB.u A1.u.lt).trans A1.u.cell)))<|j6 rfl<|k5 (ag bI _ _ rfl ob (oo) (n) oc (i) rfl rfl bJ.u) ?_;go_frame
  refine k5 (g7 (.slice ob2 os.length vD) ⟨ob,oo+i,none⟩ (Rg.ae _ _ Tryz.underlying26 ((Below.cell (p:=⟨ob,oo+i,none⟩) KB.u CO.u.lt).trans CO.u.cell))) ?_;go_frame;refine f3 28 (ax 109 _ _ rfl rfl (Xr _ _)) ?_;refine (Gc _ (Ma.ah os) w1 (NO.u.p KB.u).i (by rw [Ma.aB]; exact Nr) (by rw [Ma.aB]; omega)).mono ?_;rintro e1 w2 ⟨Jf,rfl,fR,hb⟩;have OW:=U fR;clear fR;refine ⟨_,rfl,?_⟩;go_frame;replace KB:=U (Rg.acc KB.u hb);clear hb;refine j5 (Jf) rfl ?_;go_frame;go_upto_region 4 with fail
  refine b6<|j5 (Jf) rfl<|k5 (eE _ _ rfl rfl) ?_;go_frame
  refine f3 31 (aC 110 _ _ _ rfl rfl rfl (Xs _ _)) ?_;refine (Nq GQ.u eB hN ((BX.u.p KB.u).cell) Ll KB.u.size ((JR.u.kp (Rg.Kp.aF (M:=fun _=>False) KB.u) (fun _ _=>id)).mono fun z hz=>hz.2) zq.u.lt kL Nr OW.u).mono ?_;rintro e1 w3 ⟨lo,rfl,jR,FD,Xu,xK⟩;refine ⟨_,rfl,?_⟩;go_frame;replace KB:=U (Rg.Kp.p KB.u xK (fun _ h=>h));clear xK;clear OW;have q8:lo.length=os.length:=jR.length_eq;have QL:=U jR;have Jt:=U (JN GQ.u (fun y hy=>zq.u.lt y (jR.mem_iff.1 hy)) (jR.nodup_iff.2 zq.u.nd) FD);have Ua:=U (hJ _ _ _ _ HJ.u (K.u.trans (KB.u.mono K.u.size)));have K3:=U (K.u.trans (KB.u.mono K.u.size));have HK3:=U K3.u.size
  have WK:=U ((HW.u.p K3.u).mono (F':=fun z=>F z∨(w.heap.size<=z/\z<w3.heap.size)) (fun z hz=>.inl hz) (fun z hz=>by
   rcases hz with hz | hz
   ·have:=HW.u.lt z hz; have:=HK3.u; omega
   ·exact hz.2))
  have HU3:=U ((HU.u.kp (Rg.Kp.aF (M:=fun _=>False) K3.u) (fun _ _=>id)).mono (F':=fun z=>F z∨(w.heap.size<=z/\z<w3.heap.size)) (fun z hz=>.inl hz));have Ub:=U ((vS Xu).mono (F':=fun z=>F z∨(w.heap.size<=z/\z<w3.heap.size)) (fun z hz=>.inr ⟨Nat.le_trans (Nat.le_of_lt Ll) hz.1,hz.2⟩));have QM:=U (BX.u.p KB.u)
  have Nv:=U (show ∀ z,(F z∨(w.heap.size<=z/\z<w3.heap.size))->¬ C z from fun z hz hc=>by
   rcases hz with hz | hz
   ·exact HD.u z hz hc
   ·have:=hC _ _ _ HJ.u z hc; omega)
  obtain ⟨n9,va9,vc9,hn9,aar,-⟩:=Xu.len;rw [Ma.aB] at hn9;subst hn9 aar;clear jR FD Xu KB K A0 A1 A2 CO NO BX JR HW HU HJ HD;go_upto_region 5 with fail
  refine b6<|j7 rfl<|k5 (g9 Tryz.underlying26)<|j6 rfl ?_;go_frame
  have KQ:=U (show ∃ C':Nat->Prop,J (t+0*s) C' w3/\Rg.Kp C w3 w3/\∀ z,C' z->C z∨w3.heap.size<=z from ⟨C,by rw [Nat.zero_mul]; exact Ua.u,Rg.Kp.refl _ _,fun z hz=>.inl hz⟩);clear Ua;go_wp2
  go_loopw [34] (fun iv wr=>∃ d:Nat,iv=.int .i64 ((d:Nat):Int)/\d<=lo.length/\Hid (∃ C':Nat->Prop,J (t+d*s) C' wr/\Rg.Kp C w3 wr/\∀ z,C' z->C z∨w3.heap.size<=z)) (fun iv _=>lo.length - (intOf iv).toNat)
  case atStart=>exact ⟨0,rfl,Nat.zero_le _,KQ⟩
  case round =>
   clear KQ;obtain ⟨d,rfl,hdl,KQ⟩:=hrel;generalize wr=wA at *;obtain ⟨C1,ye,fY,cz⟩:=KQ.u;have AR:=U ye;have mN:=U fY;have AU:=U cz;clear KQ ye fY cz
   by_cases aw:d<lo.length
   case neg =>
    obtain rfl:d=lo.length:=by omega
    have HX:=U (show QH J Jx (t+bX O n (m+1)) C w (.returned (.bool true)) wA from .inl ⟨rfl,C1,by rw [sx.u,<- q8]; exact AR.u,(Rg.Kp.aF (M:=C) K3.u).trans mN.u (fun _ _ h=>h),fun z hz=>by
     rcases AU.u z hz with h1 | h1
     ·exact .inl h1
     ·exact .inr (Nat.le_trans HK3.u h1)⟩)
    clear AR mN AU WK HU3 Ub QM Nv K3;go_upto_region 6 with fail
    refine b6<|k5 (g8 (.bool false) .lss (h:=aH _ f8)) ?_;go_frame
    go_upto_region 13 with fail
    refine b6<|j9 rfl ?_;go_frame
    go_wp2;go_ret;exact HX.u
   case pos =>
    have zx:=U (WK.u.kp mN.u Nv.u);have zd:=HU3.u.kp mN.u Nv.u;have Vl:=Ub.u.kp mN.u Nv.u;have HU4:=U zd
    obtain ⟨b9,o9,rfl,h91,h92⟩:∃ b o,va9=some ⟨b,o,none⟩/\b<wA.heap.size/\wA.cell? ⟨b,o+d,none⟩=some (.int .i64 ((lo[d]:Nat):Int)):=by
     obtain ⟨a,cap,e1,_,_,_,h5⟩:=Vl;obtain ⟨b,o,rfl,h6,_,h7⟩:=h5 (by rw [List.length_map,Ma.aB]; omega);simp only [Value.slice.injEq] at e1;refine ⟨b,o,e1.1,h6,?_⟩;have:=h7 d (by rw [List.length_map,Ma.aB]; exact aw);rw [List.getElem_map,Ma.pG] at this;exact this
    have CP:=U (CL.mk h92 h91);clear h91 h92 Vl;obtain ⟨QN,hxe,Xv⟩:=Gp zq.u QL.u Jt.u aw;obtain ⟨pt,hpt⟩:∃ x,Hid (lo[d]=x):=⟨_,U rfl⟩;obtain ⟨jx,hjx⟩:∃ x,Hid (os.idxOf pt=x):=⟨_,U rfl⟩;rw [hpt.u] at CP QN hxe Xv;rw [hjx.u] at QN hxe Xv;have HXJ:=U QN;have HXP:=U Xv;have HPI:=U (show pt∈os from QL.u.mem_iff.1 (hpt.u▸List.getElem_mem aw));have EN:=U (show AM O R i q d=rl.getD jx [] by unfold AM; rw [mT.u,eG.u,HXP.u]);have Uc:=U (oN bR bJ.u (k:=jx) (by rw [mT.u]; exact HXJ.u)).1;rw [eG.u] at Uc;obtain ⟨ob9,oo9,l8,rb9,ro9,jT,e1,e2,⟨ob3,Ud,oL,ly⟩,⟨va8,vc8,kt,pD⟩⟩:=ep bR zx.u.ce bJ.u;simp only [Value.slice.injEq,Option.some.injEq,Addr.mk.injEq,and_true,true_and] at e1 e2;obtain ⟨⟨rfl,rfl⟩,rfl⟩:=e1;obtain ⟨⟨rfl,rfl⟩,rfl⟩:=e2;rw [mT.u] at oL ly kt pD
    rw [eG.u] at pD;obtain ⟨vb,vo,_,_,e1,bW,cz,cp⟩:=dY pD (i:=jx) (by rw [List.length_map,mP.u]; exact QN);subst e1
    have e5:(rl.map Ma.ah)[jx]'(by rw [List.length_map,mP.u]; exact QN)=Ma.ah (rl.getD jx []):=by rw [List.getElem_map,List.getD_eq_getElem?_getD,List.getElem?_eq_getElem]; rfl
    rw [e5] at cz cp;obtain ⟨y,hy⟩:∃ y,Hid (rl.getD jx []=y):=⟨_,U rfl⟩;rw [hy.u] at cz cp Uc EN;have GY:=U (hH.gd y Uc.u.1);obtain ⟨ya,yc,dz,-⟩:=cp.shape
    rename_i va7 vc7
    have CO:=U oL;have NO:=U (dw.mk ly);have CR:=U kt;have CY:=U (CL.mk cz bW);have NY:=U (dw.mk cp);have NQ:=U (dw.mk HU4.u.ints);have A0:=U (show CL wA cb 0 (.int .i64 ((n:Nat):Int)) from CL.mk zx.u.c0 (zx.u.lt _ zx.u.fc));have A1:=U (show CL wA cb 1 (.slice (some ⟨ob,oo,none⟩) n oc) from CL.mk zx.u.c1 (zx.u.lt _ zx.u.fc));have A2:=U (show CL wA cb 2 (.slice (some ⟨rb,ro,none⟩) n rc) from CL.mk zx.u.c2 (zx.u.lt _ zx.u.fc));have AV:=U (show CL wA w.heap.size 0 (.slice ua n uc) from CL.mk ((qu mN.u QM.u.lt (Nv.u _ (.inr ⟨Nat.le_refl _,QM.u.lt⟩))).trans QM.u.cell) (Nat.lt_of_lt_of_le QM.u.lt mN.u.size));have KA:=U (Below.refl wA.heap.size wA);clear oL ly kt pD bW cz cp e5 dz zd;go_upto_region 6 with fail
    refine b6<|k5 (g8 (.bool true) .lss (h:=aH _ f7)) ?_;go_frame
    go_upto_region 7 with fail
    refine b6<|k5 (ag aO _ _ rfl b9 (o9) (lo.length) vc9 (d) rfl rfl (by omega))<|k5 (g7 (.int .i64 ((pt:Nat):Int)) ⟨b9,o9+d,none⟩ (af CP.u.cell))<|j6 rfl ?_;go_frame
    go_upto_region 8 with fail
    refine b6<|k5 (j0 (cn _ _))<|k5 (g7 (.slice (some ⟨ob,oo,none⟩) n oc) ⟨cb,1,none⟩ (Rg.ae _ _ Tryz.underlying22 A1.u.cell))<|j6 rfl<|k5 (ag bI _ _ rfl ob (oo) (n) oc (i) rfl rfl bJ.u) ?_;go_frame
    refine k5 (g7 (.slice ob3 os.length Ud) ⟨ob,oo+i,none⟩ (Rg.ae _ _ Tryz.underlying26 CO.u.cell))<|j6 rfl ?_;go_frame
    refine f3 45 (aC 112 _ _ _ rfl rfl rfl (Jz _ _)) ?_;refine (Qc NO.u.i HAS.u (by have:=tQ.u; omega) HPI.u hjx).mono ?_;rintro e1 Nw ⟨rfl,hb⟩;refine ⟨_,rfl,?_⟩;go_frame;replace A0:=U (A0.u.p hb);replace A1:=U (A1.u.p hb);replace A2:=U (A2.u.p hb);replace AV:=U (AV.u.p hb);replace CO:=U (CO.u.p hb);replace NO:=U (NO.u.p hb);replace CR:=U (CR.u.p hb);replace CY:=U (CY.u.p hb);replace NY:=U (NY.u.p hb);replace NQ:=U (NQ.u.p hb);replace CP:=U (CP.u.p hb);replace KA:=U (Rg.acc KA.u hb);clear hb
    refine j5 (.tuple #[.int .i64 ((jx:Nat):Int),.bool true]) rfl<|k5 (i5 (.int .i64 ((jx:Nat):Int)))<|k5 (i5 (.bool true))<|j6 rfl<|j9 rfl ?_;go_frame
    go_upto_region 9 with fail;have aj:Below Nw.heap.size Nw Nw.drew:=(Below.refl _ _).drew;replace A0:=U (A0.u.p aj);replace A1:=U (A1.u.p aj);replace A2:=U (A2.u.p aj);replace AV:=U (AV.u.p aj);replace CO:=U (CO.u.p aj);replace NO:=U (NO.u.p aj);replace CR:=U (CR.u.p aj);replace CY:=U (CY.u.p aj);replace NY:=U (NY.u.p aj);replace NQ:=U (NQ.u.p aj);replace CP:=U (CP.u.p aj);replace KA:=U (Rg.acc KA.u aj);clear aj;refine Rg.Any.begin (S:=Rg.aG 14 (fun _=>True) (fun W=>Below Nw.drew.heap.size Nw.drew W)) mix ?_;generalize Nw.drew=GC at *;have hS:∀ (l:Array Bool) W,Below GC.heap.size GC W->Rg.aG 14 (fun _=>True) (fun W=>Below GC.heap.size GC W) l W:=fun l W h=>⟨.inr trivial,h⟩;have hI:Below GC.heap.size GC GC:=Below.refl _ _
    refine d7 0 14 (.pointer (some ⟨cb,2,none⟩)) 49 rfl rfl (i9 fun w=>aA _ rfl rfl (cK _ _)) (hS _ _ hI)<|d7 1 14 (.slice (some ⟨rb,ro,none⟩) n rc) 50 rfl rfl (i8 ⟨cb,2,none⟩ (fun W hW=>Rg.ae _ _ Tryz.underlying23 ((Below.cell (p:=⟨cb,2,none⟩) hW A2.u.lt).trans A2.u.cell))) (hS _ _ hI)<|d8 2 14 (.int .i64 ((i:Nat):Int)) 51 (hS _ _ hI)<|d7 3 14 (.pointer (some ⟨rb,ro+i,none⟩)) 52 rfl rfl (Rg.ai bE _ _ rfl rfl rb (ro) (n) rc (i) rfl rfl bJ.u) (hS _ _ hI)<|d7 4 14 (.slice (some ⟨vb,vo,none⟩) os.length vc8) 53 rfl rfl (i8 ⟨rb,ro+i,none⟩ (fun W hW=>Rg.ae _ _ Tryz.underlying41 ((Below.cell (p:=⟨rb,ro+i,none⟩) hW CR.u.lt).trans CR.u.cell))) (hS _ _ hI) ?_;go_frame
    refine d8 5 14 (.int .i64 ((jx:Nat):Int)) 54 (hS _ _ hI)<|d7 6 14 (.pointer (some ⟨vb,vo+jx,none⟩)) 55 rfl rfl (Rg.ai aK _ _ rfl rfl vb (vo) (os.length) vc8 (jx) rfl rfl HXJ.u) (hS _ _ hI)<|d7 7 14 (.slice va7 (Ma.ah y).length vc7) 56 rfl rfl (i8 ⟨vb,vo+jx,none⟩ (fun W hW=>Rg.ae _ _ Tryz.underlying27 ((Below.cell (p:=⟨vb,vo+jx,none⟩) hW CY.u.lt).trans CY.u.cell))) (hS _ _ hI)<|d7 8 14 ((.slice ua n uc)) 57 rfl rfl (i8 ⟨w.heap.size,0,none⟩ (fun W hW=>Rg.ae _ _ Tryz.underlying27 ((Below.cell (p:=⟨w.heap.size,0,none⟩) hW AV.u.lt).trans AV.u.cell))) (hS _ _ hI) ?_;go_frame
    refine Rg.Any.one (i:=9) (by kernel_rfl) (Rg.Any.ask (some 58) rfl rfl rfl _ _ (aC 113 _ _ _ rfl rfl rfl (Xt _ _)) ?_);refine (Eu _ _ y q GC NY.u.i NQ.u.i GY.u.1 GQ.u.1 (by rw [GY.u.2,GQ.u.2]) (by rw [GY.u.2]; exact eB) (by rw [GY.u.2]; exact hN)).mono ?_;rintro e1 GD ⟨mv,rfl,gJ,hb⟩;have Xw:=U ((BQ gJ).mono (F':=fun z=>wA.heap.size<=z) (fun z hz=>Nat.le_trans KA.u.size hz));have bj:=Rg.acc hI hb;clear hb hI;refine ⟨_,rfl,(hS _ _ bj),?_⟩;go_frame;have NM:=U (dw.mk gJ.1)
    refine d8 10 14 (.tuple #[mv,.int .i64 0]) 48 (hS _ _ bj)<|d7 11 14 (mv) 59 rfl rfl (i9 fun w=>bP (v:=mv) _ _ rfl rfl rfl) (hS _ _ bj)<|d7 12 14 (.int .i64 0) 60 rfl rfl (i9 fun w=>bP (v:=.int .i64 0) _ _ rfl rfl rfl) (hS _ _ bj)<|d7 13 14 (mv) 13 rfl rfl (i9 fun w=>Rg.cL (v:=mv) _ rfl rfl) (hS _ _ bj)<|i7 14 14 rfl rfl (b5 (.int .i64 0) _ rfl rfl) (hS _ _ bj) ?_;go_frame
    refine Rg.Any.done (by kernel_rfl) ?_ _;replace A0:=U (A0.u.p bj);replace A1:=U (A1.u.p bj);replace A2:=U (A2.u.p bj);replace AV:=U (AV.u.p bj);replace CO:=U (CO.u.p bj);replace NO:=U (NO.u.p bj);replace CR:=U (CR.u.p bj);replace CY:=U (CY.u.p bj);replace NY:=U (NY.u.p bj);replace NQ:=U (NQ.u.p bj);replace CP:=U (CP.u.p bj);replace KA:=U (Rg.acc KA.u bj);clear hS bj;clear gJ;have KC:=U (show Rg.Kp C1 wA GD from Rg.Kp.aF KA.u);have QO:=U (zx.u.p KA.u);have Xx:=U (hJ _ _ _ _ AR.u KA.u)
    have Xy:=U (show ∀ z,(F z∨(w.heap.size<=z/\z<w3.heap.size))->¬ C1 z from fun z hz hc=>by
     rcases AU.u z hc with h1 | h1
     ·exact Nv.u z hz h1
     ·have:=WK.u.lt z hz; omega)
    have Xz:=U ((vS (Xw.u)).mono (F':=fun z=>(F z∨(w.heap.size<=z/\z<w3.heap.size))∨(wA.heap.size<=z/\z<GD.heap.size)) (fun z hz=>.inr hz))
    have XA:=U (QO.u.mono (F':=fun z=>(F z∨(w.heap.size<=z/\z<w3.heap.size))∨(wA.heap.size<=z/\z<GD.heap.size)) (fun z hz=>.inl hz) (fun z hz=>by
     rcases hz with hz | hz
     ·exact QO.u.lt z hz
     ·exact hz.2))
    have XB:=U (show ∀ z,((F z∨(w.heap.size<=z/\z<w3.heap.size))∨(wA.heap.size<=z/\z<GD.heap.size))->¬ C1 z from fun z hz hc=>by
     rcases hz with hz | hz
     ·exact Xy.u z hz hc
     ·have:=hC _ _ _ AR.u z hc; omega)
    have hds:d*s+s<=bX O n (m+1):=by
     rw [sx.u,<- q8]
     have:d*s+s=(d+1)*s:=by rw [Nat.succ_mul]
     rw [this];exact Nat.mul_le_mul_right s aw
    have gZ:=IH.u (i+1) (t+d*s) (Ma.ak y q) mv _ C1 GD (by have:=HI.u; omega) (by rw [hs.u]; have:=HT.u; omega) (fun r hr=>by
     rw [hs.u] at hr;rw [<- EN.u,<- Qy (by rw [hs.u]; exact hr),hs.u,Nat.add_assoc]
     exact HR.u _ (by omega)) (hH.mul _ _ Uc.u.1 HQ.u) XA.u Xz.u Xx.u XB.u
    rw [hs.u] at gZ;have dB:=QO.u.k;go_upto_region 10 with fail
    refine b6<|k5 (g7 (.func (.func 108) #[] #[.pointer (some ⟨cb,0,none⟩),.pointer (some ⟨yb,0,none⟩),.pointer (some ⟨wb,0,none⟩)]) ⟨wb,0,none⟩ (jM Tryz.underlying154 dB))<|j6 rfl<|k5 (g8 (.int .i64 ((i+1:Nat):Int)) .add (h:=bQ _ (by omega) (by omega)))<|j5 (mv) rfl ?_;go_frame
    refine f3 65 (zw 108 _ _ _ _ rfl rfl rfl rfl (QK _ _)) ?_;refine gZ.mono ?_
    rintro e8 w8 (⟨rfl,C8,Ue,Uf,Ug⟩ | ⟨rfl,Uh⟩)
    ·refine ⟨_,rfl,?_⟩
     go_frame;refine k5 (bn _ _ true rfl rfl) ?_;go_frame
     have HX:=U (show ∃ C':Nat->Prop,J (t+(d+1)*s) C' w8/\Rg.Kp C w3 w8/\∀ z,C' z->C z∨w3.heap.size<=z from ⟨C8,by rw [Nat.succ_mul,<- Nat.add_assoc]; exact Ue,(mN.u.trans (KC.u.trans Uf (fun _ _ h=>h)) (fun k hk hc=>(AU.u k hc).resolve_right (by omega))),fun z hz=>by
      rcases Ug z hz with h1 | h1
      ·exact AU.u z h1
      ·exact .inr (Nat.le_trans mN.u.size (Nat.le_trans KC.u.size h1))⟩)
     clear gZ dB Ue Uf Ug XA QO Xz Xx Xy XB KC KA A0 A1 A2 AV CO NO CR CY NY NQ CP NM Xw;go_wp2
     go_roundw
     case rel=>exact ⟨d+1,by go_num,aw,HX⟩
     case measure=>simp [intOf]; omega
    ·refine ⟨_,rfl,?_⟩
     go_frame;refine k5 (bn _ _ false rfl rfl) ?_;go_frame;have HX:=U (show QH J Jx (t+bX O n (m+1)) C w (.returned (.bool false)) w8 from .inr ⟨rfl,Uh⟩);clear gZ dB Uh XA QO Xz Xx Xy XB KC KA A0 A1 A2 AV CO NO CR CY NY NQ CP NM Xw;go_wp2;go_ret;exact HX.u

theorem XC (args:Array Value) (w:World):(callFunc 114 args).run Tryz.prog w=.ok (.enter 114 args) w:=by kernel_rfl
theorem GH {P:Program} {t:TypeId} {y:Nat} (hs:(P.info? t).map (fun i=>(i.zero,i.size,i.bytes))=some (some z,1,y)) {w:World} {b o:Nat} {u:Value} {F:Fn} {x1 x2:Array Value} (h:w.cell? ⟨b,o,none⟩=some u) (hf:w.frozen? ⟨b,o,none⟩=false) :
  (storeVar t ⟨b,o,none⟩ (.func F x1 x2)).run P w=.ok () (w.setCell ⟨b,o,none⟩ (.func F x1 x2)):=by
 obtain ⟨i0,hi,dr,bD,dM⟩:=info_parts hs
 have h0:(⟨b,o,none⟩:Addr).add 0=⟨b,o,none⟩:=by simp [Addr.add]
 simp [storeVar,sizeOf,typeInfo,hi,bD,Value.cells,storeCells,store,h0];simp [Sem.run,h,hf]
theorem zy:(Tryz.prog.info? 154).map (fun i=>(i.zero,i.size,i.bytes))=some (some .nilFunc,1,8):=by kernel_rfl
theorem AW {o:Oper} {a:Act} {w:World} (ho:o.op=.alloc 154):(execOp a.eval o).run Tryz.prog w=.ok (.value (.pointer (some ⟨w.heap.size,0,none⟩))) (w.alloc (.cells #[.nilFunc] 154)):=by
 obtain ⟨i0,hi,dr,bD,dM⟩:=info_parts zy;unfold execOp;simp only [ho]
 kernel_rfl
theorem xL {o:Oper} {a:Act} {w:World} (F:FuncId) (x y z:Operand) (ho:o.op=.makeFunc (.func F) #[] #[x,y,z]) {u t:Value} (hx:a.eval x=v) (hy:a.eval y=u) (hz:a.eval z=t):(execOp a.eval o).run Tryz.prog w=.ok (.value (.func (.func F) #[] #[v,u,t])) w:=by
 unfold execOp;simp [ho,hx,hy,hz,Instr.makeFunc]
theorem GJ (eB:1<=N) (hN:N<=64) (hH:cy N H) (bR:ar N H O R) {cb l:Nat} {J:Nat->(Nat->Prop)->World->Prop} {Jx:World->Prop}
  (hY:Xq l (dK N O R) J Jx) (hJ:∀ t C W W',J t C W->Below W.heap.size W W'->J t C W') (hC:∀ t C W,J t C W->∀ z,C z->z<W.heap.size) {C:Nat->Prop} {w:World} (fc:F cb) (h0:w.cell? ⟨cb,0,none⟩=some (.int .i64 ((N:Nat):Int))) (h1:w.cell? ⟨cb,1,none⟩=some ov) (h2:w.cell? ⟨cb,2,none⟩=some rv) (ho:Rg.aM F w ov (O.map Ma.ah)) (hr:bs F w rv (R.map (List.map Ma.ah))) (aw:∀ z,F z->z<w.heap.size) (hd:∀ z,F z->¬ C z) (hj:J 0 C w) :
  Calls Tryz.prog 107 #[.func (.yield l) #[] #[],.pointer (some ⟨cb,0,none⟩)] w fun e W'=>(∃ v,e=.returned v)/\((∃ C':Nat->Prop,J (dK N O R).length C' W'/\Rg.Kp C w W'/\∀ z,C' z->C z∨w.heap.size<=z)∨Jx W'):=by
 have A0:=U (show CL w cb 0 (.int .i64 ((N:Nat):Int)) from CL.mk h0 (aw _ fc));have A1:=U (show CL w cb 1 ov from CL.mk h1 (aw _ fc));have A2:=U (show CL w cb 2 rv from CL.mk h2 (aw _ fc));have A00:=A0;have A10:=A1;have A20:=A2;have HO:=U ho;have HR:=U hr;have HL:=U aw;have HD:=U hd;have HJ:=U hj;have HF:=U fc;have HYY:=U hY;have K:=U (Below.refl w.heap.size w);clear h0 h1 h2 ho hr aw hd hj fc hY
 go_enter Tryz.func107,Tryz.ntmps107
 go_upto_region 0 with fail
 refine b6<|k5 (i_ (v:=.func (.yield l) #[] #[]) _ _ rfl rfl rfl) ?_;go_frame
 have aJ:CL (w.alloc (.cells #[.func (.yield l) #[] #[]] 118)) w.heap.size 0 (.func (.yield l) #[] #[]):=CL.mk (by rw [Rg.aT]; rfl) (by simp);have hb:=(Below.refl w.heap.size w).alloc (Nat.le_refl _) (.cells #[.func (.yield l) #[] #[]] 118);generalize w.alloc (.cells #[.func (.yield l) #[] #[]] 118)=w1 at *;replace A0:=U (A0.u.p hb);replace A1:=U (A1.u.p hb);replace A2:=U (A2.u.p hb);replace K:=U (Rg.acc K.u hb);clear hb;have BY:=U aJ;clear aJ;have hw1:w.heap.size<w1.heap.size:=BY.u.lt;go_upto_region 1 with fail
 refine b6<|k5 (AW rfl) ?_;go_frame
 have aJ:CW (w1.alloc (.cells #[.nilFunc] 154)) w1.heap.size .nilFunc:=⟨by rw [Rg.aT]; rfl,kG w1 _ _ 0 0,by simp⟩;have hb:=(Below.refl w1.heap.size w1).alloc (Nat.le_refl _) (.cells #[.nilFunc] 154);generalize w1.alloc (.cells #[.nilFunc] 154)=w2 at *;replace A0:=U (A0.u.p hb);replace A1:=U (A1.u.p hb);replace A2:=U (A2.u.p hb);replace BY:=U (BY.u.p hb);replace K:=U (Rg.acc K.u hb);clear hb;have BW:=U aJ;clear aJ;go_upto_region 2 with fail
 refine b6<|k5 (xL (v:=.pointer (some ⟨cb,0,none⟩)) (u:=.pointer (some ⟨w.heap.size,0,none⟩)) (t:=.pointer (some ⟨w1.heap.size,0,none⟩)) _ _ _ _ rfl rfl rfl rfl)<|Rg.aL none rfl rfl (Rg.aq _ _ _ rfl _ rfl _ rfl (GH zy BW.u.c BW.u.f)) ?_;go_frame
 obtain ⟨W3,Nx⟩:∃ X,w2.setCell ⟨w1.heap.size,0,none⟩ (.func (.func 108) #[] #[.pointer (some ⟨cb,0,none⟩),.pointer (some ⟨w.heap.size,0,none⟩),.pointer (some ⟨w1.heap.size,0,none⟩)])=X:=⟨_,rfl⟩
 have AX:Below w1.heap.size w2 W3:=by rw [<- Nx]; exact (Below.refl _ _).setCell (p:=⟨w1.heap.size,0,none⟩) (Nat.le_refl _) _
 have dB:W3.cell? ⟨w1.heap.size,0,none⟩=some (.func (.func 108) #[] #[.pointer (some ⟨cb,0,none⟩),.pointer (some ⟨w.heap.size,0,none⟩),.pointer (some ⟨w1.heap.size,0,none⟩)]):=by rw [<- Nx]; exact World.cell?_setCell_same _ _ _ BW.u.c
 have KB:=U (show Below w.heap.size w W3 from by rw [<- Nx]; exact K.u.setCell (p:=⟨w1.heap.size,0,none⟩) (Nat.le_of_lt hw1) _);have QP:=U (show CL W3 w.heap.size 0 (.func (.yield l) #[] #[]) from CL.mk (by rw [<- Nx,World.cell?_setCell_other _ _ _ _ (by intro e; simp only [Addr.mk.injEq] at e; have:=BY.u.lt; have:=AX.size; omega)]; exact BY.u.cell) (by have:=BY.u.lt; have:=AX.size; omega));have qp:=U (show CL W3 w1.heap.size 0 (.func (.func 108) #[] #[.pointer (some ⟨cb,0,none⟩),.pointer (some ⟨w.heap.size,0,none⟩),.pointer (some ⟨w1.heap.size,0,none⟩)]) from CL.mk dB (by have:=BW.u.lt; have:=AX.size; omega));have A0:=U (show CL W3 cb 0 (.int .i64 ((N:Nat):Int)) from (U A00.u).u.p KB.u);have Ua:=U (hJ _ _ _ _ HJ.u KB.u);have Ub:=U (HO.u.kp (Rg.Kp.aF (M:=fun _=>False) KB.u) (fun _ _=>id));have HR3:=U (HR.u.kp (Rg.Kp.aF (M:=fun _=>False) KB.u) (fun _ _=>id))
 have A1:=U (A10.u.p KB.u);have A2:=U (A20.u.p KB.u);rw [Nx];clear Nx dB AX K BY BW;have JT:=U KB.u.size;go_upto_region 3 with fail
 refine b6<|k5 (j0 (cP _ _))<|k5 (g7 (.int .i64 ((N:Nat):Int)) ⟨cb,0,none⟩ (af A0.u.cell)) ?_;go_frame
 refine f3 10 (ax 114 _ _ rfl rfl (XC _ _)) ?_;refine (Eo N W3 eB hN).mono ?_;rintro e1 w3 ⟨QQ,rfl,tX,hb⟩;have FIO:=U (vS (BQ tX));refine ⟨_,rfl,?_⟩;go_frame;replace A0:=U (A0.u.p hb);replace A1:=U (A1.u.p hb);replace A2:=U (A2.u.p hb);replace QP:=U (QP.u.p hb);replace qp:=U (qp.u.p hb);replace KB:=U (Rg.acc KB.u hb);clear hb
 refine j5 (.tuple #[QQ,.int .i64 0]) rfl<|k5 (i5 (QQ))<|k5 (i5 (.int .i64 0))<|j5 (QQ) rfl<|j6 rfl ?_;go_frame
 have ss:=U (show ∀ r,r<bX O N N->(dK N O R).getD (0+r) []=k7 N O R N 0 (Ma.bm N) r from fun r hr=>by
  unfold dK;rw [Nat.zero_add,List.getD_eq_getElem?_getD,List.getElem?_map,List.getElem?_range hr]
  rfl)
 have hlen:(dK N O R).length=bX O N N:=by unfold dK; simp
 have WK:=U (show uE N O R (fun z=>F z∨(w.heap.size<=z/\z<w3.heap.size)) cb w.heap.size w1.heap.size l ov rv w3 from
  ⟨.inl HF.u,.inr ⟨Nat.le_refl _,QP.u.lt⟩,.inr ⟨Nat.le_of_lt hw1,qp.u.lt⟩,A0.u.cell,A1.u.cell,A2.u.cell,QP.u.cell,qp.u.cell,(HO.u.kp (Rg.Kp.aF (M:=fun _=>False) KB.u) (fun _ _=>id)).mono (fun _ h=>.inl h),(HR.u.kp (Rg.Kp.aF (M:=fun _=>False) KB.u) (fun _ _=>id)).mono (fun _ h=>.inl h),fun z hz=>by
   rcases hz with hz | hz
   ·have:=HL.u z hz; have:=KB.u.size; omega
   ·exact hz.2⟩)
 have HJ5:=U (hJ _ _ _ _ HJ.u KB.u);have jr:=U (FIO.u.mono (F':=fun z=>F z∨(w.heap.size<=z/\z<w3.heap.size)) (fun z hz=>.inr ⟨Nat.le_trans JT.u hz.1,hz.2⟩))
 have HDD:=U (show ∀ z,(F z∨(w.heap.size<=z/\z<w3.heap.size))->¬ C z from fun z hz hc=>by
  rcases hz with hz | hz
  ·exact HD.u z hz hc
  ·have:=hC _ _ _ HJ.u z hc; omega)
 have gZ:=JS eB hN hH bR HYY.u hJ hC N 0 0 (Ma.bm N) QQ _ C w3 (Nat.zero_add _) (by rw [hlen,Nat.zero_add]; exact Nat.le_refl _) ss.u hH.one WK.u jr.u HJ5.u HDD.u;rw [Nat.zero_add,<- hlen] at gZ;have dB:=WK.u.k;go_upto_region 4 with fail
 refine b6<|k5 (g7 (.func (.func 108) #[] #[.pointer (some ⟨cb,0,none⟩),.pointer (some ⟨w.heap.size,0,none⟩),.pointer (some ⟨w1.heap.size,0,none⟩)]) ⟨w1.heap.size,0,none⟩ (jM Tryz.underlying154 dB))<|j5 (QQ) rfl ?_;go_frame
 refine f3 15 (zw 108 _ _ _ _ rfl rfl rfl rfl (QK _ _)) ?_;refine gZ.mono ?_;rintro e8 w8 h8
 have HX:=U (show (∃ C':Nat->Prop,J (dK N O R).length C' w8/\Rg.Kp C w w8/\∀ z,C' z->C z∨w.heap.size<=z)∨Jx w8 from by
  rcases h8 with ⟨_,C8,Ue,Uf,Ug⟩ | ⟨_,Uh⟩
  ·exact .inl ⟨C8,Ue,(Rg.Kp.aF (M:=C) KB.u).trans Uf (fun _ _ h=>h),fun z hz=>(Ug z hz).imp id (fun h1=>Nat.le_trans KB.u.size h1)⟩
  ·exact .inr Uh)
 obtain ⟨bv,rfl⟩:∃ bv,e8=.returned (.bool bv):=by rcases h8 with ⟨rfl,_⟩ | ⟨rfl,_⟩ <;> exact ⟨_,rfl⟩
 refine ⟨_,rfl,?_⟩;go_frame;clear gZ dB h8 WK jr HDD HJ5 ss Ua Ub HR3 A0 A1 A2 A00 A10 A20 QP qp FIO KB HYY HO HR HL HD HJ HF;go_wp2
 go_end0
 exact ⟨⟨_,rfl⟩,HX.u⟩
end Go.Proofs.YtpedbljnhnoohaaGreat
namespace Go.Proofs.RF
open Go Go.RowKit
def vT (fn:FuncId) (tmps:Array Value) (ps:Array Tmp) (assign body:Code) (D:Nat) (st:LoopState) (pe:Option Code):Loop :=
 { state:=st,pending:=pe,fn,tmps,params:=ps,assign,body,defers:=D }
def At (L:Nat) (r:Loop) (W:World):Prop:=W.heap[L]?=some (.loop r)
theorem At.put {r r':Loop} (h:At L r W):At L r' (W.putObj L (.loop r')) :=
 World.putObj_heap_same (Array.getElem?_eq_some_iff.1 h).1
theorem At.size {L:Nat} {r:Loop} {W:World} (h:At L r W):L<W.heap.size:=(Array.getElem?_eq_some_iff.1 h).1
theorem At.cell {L:Nat} {r r':Loop} {W:World} (h:At L r W) (a:Addr):(W.putObj L (.loop r')).cell? a=W.cell? a:=by
 unfold World.cell?
 by_cases e:a.block=L
 ·rw [e,World.putObj_heap_same h.size,show W.heap[L]?=_ from h]
 ·rw [World.putObj_heap_other e]
theorem At.frozen {L:Nat} {r r':Loop} {W:World} (h:At L r W) (a:Addr):(W.putObj L (.loop r')).frozen? a=W.frozen? a:=by
 unfold World.frozen?
 by_cases e:a.block=L
 ·rw [e,World.putObj_heap_same h.size,show W.heap[L]?=_ from h]
 ·rw [World.putObj_heap_other e]
theorem At.p {r:Loop} (h:At L r W) (hB:B<=L) (o:Obj):Below B W (W.putObj L o) :=
 have _:=h
 ⟨rfl,rfl,rfl,by simp,fun k hk=>World.putObj_heap_other (by omega)⟩
theorem At.keep {r:Loop} (h:At L r W) (hk:W'.heap[L]?=W.heap[L]?):At L r W':=hk.trans h
theorem At.aF {r:Loop} (h:At L r W) (hb:Below B W W') (hL:L<B):At L r W':=(hb.block L hL).trans h
theorem At.oz {r:Loop} (h:At L r W) (hb:Below W.heap.size W W'):At L r W':=(hb.block L h.size).trans h
theorem At.alloc {L:Nat} {r:Loop} {W:World} (h:At L r W) (o:Obj):At L r (W.alloc o):=(Below.heap_alloc W o L h.size).trans h
theorem At.drew {L:Nat} {r:Loop} {W:World} (h:At L r W):At L r W.drew:=h
theorem At.setCell {L:Nat} {r:Loop} {W:World} (h:At L r W) (a:Addr) (v:Value):At L r (W.setCell a v) :=
 (KeepsOthers.setCell W a v).same L _ h rfl
theorem eX.put {r:Loop} (h:eX D W) (hl:At L r W) (o:Obj):eX D (W.putObj L o):=by
 have hne:D≠L:=by
  intro e; subst e;have:=(show W.heap[D]?=_ from h).symm.trans hl;simp at this
 exact (World.putObj_heap_other hne).trans h
theorem outer {P:Program} {g:Operand} {ps:Array Tmp} {assign body:Code} {Q:Exit->Act->World->Prop} {a:Act} {w:World}
  {gf:Nat} {lb:Array Value} (hg:a.eval g=.func (.func gf) #[] lb) (eg:∀ args w,(callFunc gf args).run P w=.ok (.enter gf args) w)
  (h:∀ (fn:FuncId) (rec:LoopState->Option Code->Loop) (W1:World),rec=vT fn a.tmps ps assign body w.heap.size ->
   W1=(w.alloc (.deferred (some []))).alloc (.loop (rec .ready none)) ->
   At (w.heap.size+1) (rec .ready none) W1->eX w.heap.size W1->Below w.heap.size w W1 ->
   CallsIn Fence.wide (n - 1) P gf (#[.func (.yield (w.heap.size+1)) #[] #[]]++lb) W1 (fun e W2=>(∃ v,e=.returned v) /\
    ((At (w.heap.size+1) (rec .ready none) W2 /\
      Q .normal { a with defers:={ target:=.collected w.heap.size,args:=#[] } :: a.defers } (W2.putObj (w.heap.size+1) (.loop (rec .exhausted none)))) ∨
     (∃ c,At (w.heap.size+1) (rec .done (some c)) W2 /\
      c.wpIn Fence.wide n P Q { a with defers:={ target:=.collected w.heap.size,args:=#[] } :: a.defers } (W2.putObj (w.heap.size+1) (.loop (rec .exhausted (some c)))))))) :
  (Code.rangeFunc g ps assign body).wpIn Fence.wide n P Q a w:=by
 refine wpIn_rangeFunc ?_;intro fn _;have hro:Fence.wide.round=none:=rfl;rw [hro];obtain ⟨rec,gZ⟩:∃ rec,rec=vT fn a.tmps ps assign body w.heap.size:=⟨_,rfl⟩;obtain ⟨W1,JU⟩:∃ W1,(w.alloc (.deferred (some []))).alloc (.loop (rec .ready none))=W1:=⟨_,rfl⟩
 have XD:At (w.heap.size+1) (rec .ready none) W1:=by
  rw [<- JU]; have:=World.alloc_heap_new (w.alloc (.deferred (some []))) (.loop (rec .ready none)); rwa [World.size_alloc] at this
 have hK1:eX w.heap.size W1:=by
  rw [<- JU]; exact (Below.heap_alloc _ _ _ (by simp)).trans (World.alloc_heap_new w _)
 have bW:Below w.heap.size w W1:=by
  rw [<- JU]; exact ((Below.refl _ w).alloc (Nat.le_refl _) _).alloc (by simp) _
 refine ⟨w.heap.size+1,[{ target:=.collected w.heap.size,args:=#[] }],W1,{ target:=.fn (.func gf) lb,args:=#[.func (.yield (w.heap.size+1)) #[] #[]] },W1,gf,
  #[.func (.yield (w.heap.size+1)) #[] #[]]++lb,W1,?_,?_,?_,?_,fun h=>by simp [Fence.wide] at h,?_⟩
 ·rw [<- JU,gZ]; exact run_enterLoop_outer _ _ _ _ _
 ·simp only [resolve,hg]
  simp [go_sem]
 ·intro f' XE; trivial
 ·simp [invoke,go_sem,eg]
 ·refine (h fn rec W1 gZ JU.symm XD hK1 bW).mono ?_
  rintro e W2 ⟨⟨v,rfl⟩,(⟨hl,hq⟩ | ⟨c,hl,hq⟩)⟩
  ·exact ⟨none,_,by have:=run_endLoop (P:=P) hl (by rw [gZ]; simp [vT]); rw [gZ] at this; exact this,by rw [gZ] at hq; exact hq⟩
  ·exact ⟨some c,_,by have:=run_endLoop (P:=P) hl (by rw [gZ]; simp [vT]); rw [gZ] at this; exact this,by rw [gZ] at hq; exact hq⟩
def Ny (L:Nat) (rec:LoopState->Option Code->Loop) (R:Ending->World->Prop):Exit->Act->World->Prop
 | .normal,_,W=>At L (rec .busy none) W/\R (.returned (.bool true)) (W.putObj L (.loop (rec .ready none)))
 | .ret,_,W=>At L (rec .busy none) W/\R (.returned (.bool false)) (W.putObj L (.loop (rec .done (some .ret))))
 | .exit id,_,W=>At L (rec .busy none) W/\R (.returned (.bool false)) (W.putObj L (.loop (rec .done (some (.exit id)))))
 | .goto t,_,W=>At L (rec .busy none) W/\R (.returned (.bool false)) (W.putObj L (.loop (rec .done (some (.goto t)))))
 | .panic _,_,_=>False
 | .outgrown,_,_=>False
theorem round {P:Program} {fn:FuncId} {tmps:Array Value} {ps:Array Tmp} {assign body:Code} {args:Array Value} {R:Ending->World->Prop}
  {rec:LoopState->Option Code->Loop} (gZ:rec=vT fn tmps ps assign body D)
  (hL:At L (rec .ready none) W) (hs:args.size=ps.size)
  (h:assign.wpIn (Fence.wide.inRound L) n P (Exit.then (fun nM QR=>At L (rec .ready none) QR /\
    body.wpIn (Fence.wide.inRound L) n P (Ny L rec R) nM (QR.putObj L (.loop (rec .busy none)))) (fun _ _ _=>False))
   { tmps:=(ps.zip args).foldl (fun t (p,v)=>t.setIfInBounds p v) tmps,defers:=[] } W) :
  YieldAt Fence.wide n P L args W R:=by
 subst gZ;refine ⟨fn,_,assign,body,run_yield hL hs,roundIn_of_wpIn trivial (wpIn_mono h ?_)⟩;rintro e nM QR hq
 cases e with
 | normal =>
  obtain ⟨h1,h2⟩:=hq;refine ⟨_,run_beginRound h1 rfl,wpIn_mono h2 ?_⟩;rintro e aa7 aa8 hp
  cases e with
  | normal=>exact ⟨_,_,run_endRound (P:=P) none hp.1,hp.2⟩
  | ret=>exact ⟨_,_,run_endRound (P:=P) (some .ret) hp.1,hp.2⟩
  | exit id=>exact ⟨_,_,run_endRound (P:=P) (some (.exit id)) hp.1,hp.2⟩
  | goto t=>exact ⟨_,_,run_endRound (P:=P) (some (.goto t)) hp.1,hp.2⟩
  | panic ch=>exact hp.elim
  | outgrown=>exact hp.elim
 | ret=>exact hq.elim
 | exit id=>exact hq.elim
 | goto t=>exact hq.elim
 | panic ch=>exact hq.elim
 | outgrown=>exact hq.elim
theorem Lm {P:Program} {g:Operand} {ps:Array Tmp} {assign body:Code} {Q:Exit->Act->World->Prop} {a:Act} {w:World}
  {gf:Nat} {lb:Array Value} (hg:a.eval g=.func (.func gf) #[] lb) (eg:∀ args w,(callFunc gf args).run P w=.ok (.enter gf args) w)
  (h:∀ (fn:FuncId) (rec:LoopState->Option Code->Loop) (W1:World),rec=vT fn a.tmps ps assign body w.heap.size ->
   W1=(w.alloc (.deferred (some []))).alloc (.loop (rec .ready none)) ->
   At (w.heap.size+1) (rec .ready none) W1->eX w.heap.size W1->Below w.heap.size w W1 ->
   CallsIn Fence.wide 0 P gf (#[.func (.yield (w.heap.size+1)) #[] #[]]++lb) W1 (fun e W2=>(∃ v,e=.returned v) /\
    ((At (w.heap.size+1) (rec .ready none) W2 /\
      Q .normal { a with defers:=mark w.heap.size :: a.defers } (W2.putObj (w.heap.size+1) (.loop (rec .exhausted none)))) ∨
     (∃ c,At (w.heap.size+1) (rec .done (some c)) W2 /\
      c.wp P Q { a with defers:=mark w.heap.size :: a.defers } (W2.putObj (w.heap.size+1) (.loop (rec .exhausted (some c)))))))) :
  (Code.rangeFunc g ps assign body).wp P Q a w:=by
 refine wpIn_wide.1 (outer (n:=1) hg eg fun fn rec W1 h1 h2 h3 h4 h5=>(h fn rec W1 h1 h2 h3 h4 h5).mono ?_)
 rintro e W2 ⟨hv,(⟨hl,hq⟩ | ⟨c,hl,hq⟩)⟩
 ·exact ⟨hv,.inl ⟨hl,hq⟩⟩
 ·exact ⟨hv,.inr ⟨c,hl,wpIn_wide.2 hq⟩⟩
structure jN (W W':World):Prop where
 cell:∀ a,W'.cell? a=W.cell? a
 frozen:∀ a,W'.frozen? a=W.frozen? a
 size:W.heap.size<=W'.heap.size
 blk:∀ (g:Nat) (cur:Array Value) (e:TypeId) (fz:Nat × Nat),W.heap[g]?=some (.cells cur e fz)->W'.heap[g]?=some (.cells cur e fz)
theorem At.same {r r':Loop} (h:At L r W):jN W (W.putObj L (.loop r')) :=
 ⟨fun a=>h.cell a,fun a=>h.frozen a,by simp,fun g cur e fz hg=>by
  have hne:g≠L:=by
   intro e1; subst e1;have:=hg.symm.trans h;simp at this
  exact (World.putObj_heap_other (by omega)).trans hg⟩
theorem qV (o:Obj):Go.Proofs.Rg.Kp (fun z=>z=L) W (W.putObj L o):=⟨rfl,rfl,rfl,by simp,fun k _ hn=>World.putObj_heap_other (fun e=>hn e)⟩
end Go.Proofs.RF
namespace Go.Proofs.YtpedbljnhnoohaaGreat
open Go.RowKit
open Go.Proofs
section
open Go.Proofs.Ob
open Go.Proofs.Cm (Gd Gr ar ap lexLt cy St)
attribute [local irreducible] Go.Calls Go.wpList
theorem FI.same {l:List Int} (h:Rg.FI F W v l) (hs:RF.jN W W'):Rg.FI F W' v l:=eY hs.cell hs.size h
def Ui (I:Nat->(Nat->Prop)->World->Prop) (Ix:Code->World->Prop) (t:Nat) (C:Nat->Prop) (W:World):Exit->Act->World->Prop
 | .normal,_,W'=>∃ C':Nat->Prop,I (t+1) C' W'/\Rg.Kp C W W'/\∀ z,C' z->C z∨W.heap.size<=z
 | .ret,_,W'=>Ix .ret W'/\Rg.Kp C W W'
 | .exit id,_,W'=>Ix (.exit id) W'/\Rg.Kp C W W'
 | .goto g,_,W'=>Ix (.goto g) W'/\Rg.Kp C W W'
 | .panic _,_,_=>False
 | .outgrown,_,_=>False
theorem XF:∀ (args:Array Value) (w:World),(callFunc 107 args).run Tryz.prog w=.ok (.enter 107 args) w:=fun _ _=>by kernel_rfl
theorem zz {C C':Nat->Prop} (h:Rg.Kp C W W') (hC:∀ z,C z->C' z):Rg.Kp C' W W':=h.gO hC
theorem zA {g:Operand} {ps:Array Go.Tmp} {assign body:Code} {Q:Exit->Act->World->Prop} {a:Act} {w:World} (eB:1<=N) (hN:N<=64) (hH:cy N H) (bR:ar N H O R) {cb:Nat}
  (hg:a.eval g=.func (.func 107) #[] #[.pointer (some ⟨cb,0,none⟩)]) (FD:ps.size=1) {C0:Nat->Prop} (fc:F cb) (h0:w.cell? ⟨cb,0,none⟩=some (.int .i64 ((N:Nat):Int))) (h1:w.cell? ⟨cb,1,none⟩=some ov) (h2:w.cell? ⟨cb,2,none⟩=some rv) (ho:Rg.aM F w ov (O.map Ma.ah)) (hr:bs F w rv (R.map (List.map Ma.ah))) (aw:∀ z,F z->z<w.heap.size) (hd:∀ z,F z->¬ C0 z)
  (I:Nat->(Nat->Prop)->World->Prop) (Ix:Code->World->Prop) (hI:∀ t C W W',I t C W->Below W.heap.size W W'->I t C W') (XG:∀ t C W W',I t C W->RF.jN W W'->I t C W') (Uj:∀ c W W',Ix c W->RF.jN W W'->Ix c W')
  (XH:∀ t C W,I t C W->∀ z,C z->z<W.heap.size/\z≠w.heap.size/\z≠w.heap.size+1) (mE:I 0 C0 w) (nM:Value->Act)
  (qe:∀ (n l:Nat) (x:Value) (W:World) (K:Act->World->Prop),K (nM x) W->assign.wpIn (Fence.wide.inRound l) n Tryz.prog (Exit.then K (fun _ _ _=>False)) { tmps:=(ps.zip #[x]).foldl (fun t (p,v)=>t.setIfInBounds p v) a.tmps,defers:=[] } W)
  (yY:∀ (n l t:Nat) (C:Nat->Prop) (x:Value) (W:World),I t C W->t<(dK N O R).length->Rg.FI (fun z=>¬ C z) W x (Ma.ah ((dK N O R).getD t []))->w.heap.size+2<=W.heap.size->body.wpIn (Fence.wide.inRound l) n Tryz.prog (Ui I Ix t C W) (nM x) W)
  (yZ:∀ (C:Nat->Prop) (W:World),I (dK N O R).length C W->RF.eX w.heap.size W->Rg.Kp C0 w W->Q .normal { a with defers:=RF.mark w.heap.size :: a.defers } W)
  (y6:∀ (c:Code) (W:World),Ix c W->RF.eX w.heap.size W->Rg.Kp C0 w W->c.wp Tryz.prog Q { a with defers:=RF.mark w.heap.size :: a.defers } W) :
  (Code.rangeFunc g ps assign body).wp Tryz.prog Q a w:=by
 refine RF.Lm hg XF fun fn rec W1 gZ JU hL hD hb=>callsIn_wide.2 ?_
 have cO:w.heap.size+2=W1.heap.size:=by rw [JU]; simp
 have Ac:I 0 C0 W1:=hI _ _ _ _ mE hb;have qf:Rg.Kp (fun _=>False) w W1:=Rg.Kp.aF hb
 refine (GJ (l:=w.heap.size+1) eB hN hH bR
  (J:=fun t C W=>∃ C1:Nat->Prop,I t C1 W/\(∀ z,C z↔C1 z∨z=w.heap.size+1)/\RF.At (w.heap.size+1) (rec .ready none) W/\RF.eX w.heap.size W/\w.heap.size+2<=W.heap.size/\Rg.Kp C0 w W/\(∀ z,C1 z->C0 z∨w.heap.size<=z))
  (Jx:=fun W=>∃ c,Ix c W/\RF.At (w.heap.size+1) (rec .done (some c)) W/\RF.eX w.heap.size W/\Rg.Kp C0 w W)
  ?_ ?_ ?_ (F:=F) (C:=fun z=>C0 z∨z=w.heap.size+1) fc ((qu qf (aw _ fc) id).trans h0) ((qu qf (aw _ fc) id).trans h1) ((qu qf (aw _ fc) id).trans h2) (ho.kp qf (fun _ _=>id)) (hr.kp qf (fun _ _=>id)) (fun z hz=>by have:=aw z hz; omega) (fun z hz hc=>by
   rcases hc with hc | hc
   ·exact hd z hz hc
   ·have:=aw z hz; omega) ⟨C0,Ac,fun _=>Iff.rfl,hL,hD,by omega,zz qf (fun _ h=>False.elim h),fun z h=>.inl h⟩).mono ?_
 ·
  rintro m t C W uv ht ⟨C1,hi,AY,hl,hk,hs,tH,cC⟩ hu;refine RF.round gZ hl (by rw [FD]; rfl) (qe m _ uv W _ ⟨hl,?_⟩);have df:=hl.put (r':=rec .busy none);have QT:=hl.same (r':=rec .busy none);have dy:RF.eX w.heap.size (W.putObj (w.heap.size+1) (.loop (rec .busy none))):=hk.put hl _;have hU:=XG _ _ _ _ hi QT;have ve:=FI.same (hu.mono (F':=fun z=>¬ C1 z) (fun z hz hc=>hz ((AY z).2 (.inl hc)))) QT;refine wpIn_mono (yY m _ t C1 uv _ hU ht ve (by simpa using hs)) ?_;have hLn:¬ C1 (w.heap.size+1):=fun hc=>(XH _ _ _ hi _ hc).2.2 rfl;have hDn:¬ C1 w.heap.size:=fun hc=>(XH _ _ _ hi _ hc).2.1 rfl
  have fin:∀ (W3:World),Rg.Kp C1 (W.putObj (w.heap.size+1) (.loop (rec .busy none))) W3->RF.At (w.heap.size+1) (rec .busy none) W3/\RF.eX w.heap.size W3:=fun W3 jz =>
   ⟨(jz.block _ df.size hLn).trans df,(jz.block _ dy.size hDn).trans dy⟩
  have pE:∀ (W3:World),Rg.Kp C1 (W.putObj (w.heap.size+1) (.loop (rec .busy none))) W3->∀ o,Rg.Kp C0 w (W3.putObj (w.heap.size+1) o):=fun W3 jz o =>
   ((tH.trans (RF.qV _) (fun z hz hc=>by omega)).trans jz (fun z hz hc=>(cC z hc).resolve_right (by omega))).trans (RF.qV _) (fun z hz hc=>by omega)
  rintro e a3 W3 hp
  cases e with
  | normal =>
   obtain ⟨C',hi3,jz,AZ⟩:=hp;obtain ⟨km,p_⟩:=fin W3 jz;refine ⟨km,.inl ⟨rfl,fun z=>C' z∨z=w.heap.size+1,⟨C',XG _ _ _ _ hi3 km.same,fun _=>Iff.rfl,km.put,p_.put km _,by have:=jz.size; simp at this ⊢; omega,pE W3 jz _,fun z hz=>(AZ z hz).elim (fun h=>cC z h) (fun h=>.inr (by simp at h; omega))⟩,?_,fun z hz=>?_⟩⟩
   ·refine ((zz (RF.qV _) (fun z hz=>(AY z).2 (.inr hz))).trans (zz jz (fun z hz=>(AY z).2 (.inl hz))) (fun _ _ h=>h)).trans (zz (RF.qV _) (fun z hz=>(AY z).2 (.inr hz))) (fun _ _ h=>h)
   ·rcases hz with hz | hz
    ·rcases AZ z hz with h | h
     ·exact .inl ((AY z).2 (.inl h))
     ·exact .inr (by simpa using h)
    ·exact .inl ((AY z).2 (.inr hz))
  | ret =>
   obtain ⟨QU,jz⟩:=hp;obtain ⟨km,p_⟩:=fin W3 jz;exact ⟨km,.inr ⟨rfl,.ret,Uj _ _ _ QU km.same,km.put,p_.put km _,pE W3 jz _⟩⟩
  | exit id =>
   obtain ⟨QU,jz⟩:=hp;obtain ⟨km,p_⟩:=fin W3 jz;exact ⟨km,.inr ⟨rfl,.exit id,Uj _ _ _ QU km.same,km.put,p_.put km _,pE W3 jz _⟩⟩
  | goto id =>
   obtain ⟨QU,jz⟩:=hp;obtain ⟨km,p_⟩:=fin W3 jz;exact ⟨km,.inr ⟨rfl,.goto id,Uj _ _ _ QU km.same,km.put,p_.put km _,pE W3 jz _⟩⟩
  | panic ch=>exact hp.elim
  | outgrown=>exact hp.elim
 ·rintro t C W W' ⟨C1,hi,AY,hl,hk,hs,tH,cC⟩ QV
  exact ⟨C1,hI _ _ _ _ hi QV,AY,hl.oz QV,hk.oz QV,Nat.le_trans hs QV.size,tH.trans (Rg.Kp.aF QV) (fun _ _ h=>False.elim h),cC⟩
 ·rintro t C W ⟨C1,hi,AY,hl,_,hs,_⟩ z hz
  rcases (AY z).1 hz with h | h
  ·exact (XH _ _ _ hi z h).1
  ·omega
 ·rintro e W2 ⟨hv,(⟨C',⟨C1,hi,_,hl,hk,_⟩,xK,_⟩ | ⟨c,hx,hl,hk,tH⟩)⟩
  ·refine ⟨hv,.inl ⟨hl,yZ C1 _ (XG _ _ _ _ hi hl.same) (hk.put hl _) ?_⟩⟩
   have pE:Rg.Kp C0 w W2:=(zz qf (fun _ h=>h.elim)).trans xK (fun z hz hc=>hc.resolve_right (by omega));exact pE.trans (RF.qV _) (fun z hz hc=>by omega)
  ·exact ⟨hv,.inr ⟨c,hl,y6 c _ (Uj _ _ _ hx hl.same) (hk.put hl _) (tH.trans (RF.qV _) (fun z hz hc=>by omega))⟩⟩

theorem XI (args:Array Value) (w:World):(callFunc 137 args).run Tryz.prog w=.ok (.enter 137 args) w:=by kernel_rfl
theorem JV (n:Int) (ov rv:Value) (w:World) :
  Calls Tryz.prog 79 #[.agg #[.int .i64 n,ov,rv]] w fun e w'=>e=.returned (.func (.func 107) #[] #[.pointer (some ⟨w.heap.size,0,none⟩)])/\(CL w' w.heap.size 0 (.int .i64 n)/\CL w' w.heap.size 1 ov/\CL w' w.heap.size 2 rv)/\Below w.heap.size w w':=by
 go_enter Tryz.func79,Tryz.ntmps79
 have aJ:=dX w (.int .i64 n) ov rv;go_upto_region 0 with fail
 refine b6<|k5 (Rg.aS _ _ rfl rfl)<|j5 (.nilFunc) rfl ?_;go_frame
 have hb:Below w.heap.size w (w.alloc (.cells #[.int .i64 n,ov,rv] 25)):=(Below.refl _ _).alloc (Nat.le_refl _) _;generalize w.alloc (.cells #[.int .i64 n,ov,rv] 25)=w1 at *;have H:=U aJ;have K:=U hb;clear aJ hb;go_wp2;go_ret;exact ⟨rfl,H.u,K.u⟩
theorem DO (hg:∀ s∈gs,Gd N s) (aR:1<=N) (aX:N<=12) (bR:ar N (Cm.Gr N (·∈gs)) O R) {w:World} (h:ba w ov rv (O.map Ma.ah) (R.map (List.map Ma.ah))) :
  Calls Tryz.prog 106 #[.agg #[.int .i64 ((N:Nat):Int),ov,rv]] w fun e w'=>e=.returned (.int .i64 (if bX O N N<=5040 then 0 else 5))/\Below w.heap.size w w':=by
 have CE:=U h;have K:=U (Below.refl w.heap.size w);obtain ⟨oa,oc,rfl,-⟩:=h.1.shape;obtain ⟨ra,rc,rfl⟩:=h.2.shape;obtain ⟨on,fT⟩:∃ n,Hid ((O.map Ma.ah).length=n):=⟨_,U rfl⟩;obtain ⟨rn,gG⟩:∃ n,Hid ((R.map (List.map Ma.ah)).length=n):=⟨_,U rfl⟩;rw [fT.u,gG.u] at CE;rw [fT.u,gG.u];obtain ⟨sz,cO⟩:∃ n,Hid (bX O N N=n):=⟨_,U rfl⟩;rw [cO.u];have HB:=U (show sz<=8916100448256 by rw [<- cO.u]; exact qU aX (Gr.dO hg) bR (Nat.le_refl _));have hsb:sz<=8916100448256:=HB.u;clear h
 go_enter Tryz.func106,Tryz.ntmps106
 go_upto_region 0 with fail;refine b6 ?_;have aJ:=dX w (.int .i64 ((N:Nat):Int)) (.slice oa on oc) (.slice ra rn rc);refine k5 (Rg.aS _ _ rfl rfl) ?_;go_frame;have hb:=(Below.refl w.heap.size w).alloc (Nat.le_refl _) (.cells #[.int .i64 ((N:Nat):Int),.slice oa on oc,.slice ra rn rc] 25);generalize w.alloc (.cells #[.int .i64 ((N:Nat):Int),.slice oa on oc,.slice ra rn rc] 25)=w1 at *;replace CE:=U (CE.u.p hb);replace K:=U (Rg.acc K.u hb);clear hb;have A0:=U aJ.1;have A1:=U aJ.2.1;have A2:=U aJ.2.2;clear aJ;refine j6 rfl ?_;go_frame;go_upto_region 1 with fail
 refine b6<|k5 (g7 ((.agg #[.int .i64 ((N:Nat):Int),.slice oa on oc,.slice ra rn rc])) ⟨w.heap.size,0,none⟩ (aD A0.u.cell A1.u.cell A2.u.cell)) ?_;go_frame
 refine f3 7 (ax 137 _ _ rfl rfl (XI _ _)) ?_;refine (Gn hg aR aX bR CE.u).mono ?_;rintro e1 w2 ⟨rfl,hb⟩;refine ⟨_,rfl,?_⟩;go_frame;replace CE:=U (CE.u.p hb);replace A0:=U (A0.u.p hb);replace A1:=U (A1.u.p hb);replace A2:=U (A2.u.p hb);replace K:=U (Rg.acc K.u hb);clear hb
 refine j5 (.tuple #[.int .i64 ((bX O N N:Nat):Int),.int .i64 0]) rfl<|k5 (i5 (.int .i64 ((bX O N N:Nat):Int)))<|k5 (i5 (.int .i64 0))<|j6 rfl<|j6 rfl ?_;go_frame
 rw [cO.u]
 by_cases h5:sz<=5040
 case pos =>
  skip
  go_upto_region 2 with fail
  refine b6<|j6 rfl<|k5 (g8 (.bool false) .neq (h:=az _ f8))<|j9 rfl<|j6 rfl ?_;go_frame
  refine k5 (g8 (.bool false) .gtr (h:=bl _ f8))<|k5 (i3 (.bool false)) ?_;go_frame
  go_upto_region 4 with fail
  refine b6<|j6 rfl ?_;go_frame
  go_wp2;go_ret;exact ⟨rfl,K.u⟩
 case neg =>
  skip
  go_upto_region 2 with fail
  refine b6<|j6 rfl<|k5 (g8 (.bool false) .neq (h:=az _ f8))<|j9 rfl<|j6 rfl ?_;go_frame
  refine k5 (g8 (.bool true) .gtr (h:=bl _ f7))<|k5 (i3 (.bool true)) ?_;go_frame
  go_upto_region 3 with fail
  refine b6<|j6 rfl ?_;go_frame
  go_wp2;go_ret;exact ⟨rfl,K.u⟩

theorem XJ (args:Array Value) (w:World):(callFunc 142 args).run Tryz.prog w=.ok (.enter 142 args) w:=by kernel_rfl
theorem XK (args:Array Value) (w:World):(callFunc 203 args).run Tryz.prog w=.ok (.enter 203 args) w:=by kernel_rfl
theorem QW (args:Array Value) (w:World):(callFunc 143 args).run Tryz.prog w=.ok (.enter 143 args) w:=by kernel_rfl
def jO (x g:List Nat):List Nat:=Ma.ak (Ma.ak (Ma.aY g) x) g
theorem uF (eB:1<=N) (hN:N<=64) (v1 v2:Value) (x g:List Nat) (w:World) (h:Rg.NP w v1 x) (h':Rg.NP w v2 g) (gx:Gd N x) (gg:Gd N g) :
  Calls Tryz.prog 202 #[v1,v2] w fun e w'=>∃ v,e=.returned (.tuple #[v,.int .i64 0])/\Rg.nV w w' v (jO x g)/\Below w.heap.size w w':=by
 have NX:=U (dw.mk h);have NG:=U (dw.mk h');have hz:=U (Bj gx.1 gg.1 (by rw [gx.2]; exact eB) (by rw [gx.2]; exact hN) (gx.2.trans gg.2.symm));obtain ⟨xa,xc,rfl,_⟩:=h.shape;obtain ⟨ga,gc,rfl,_⟩:=h'.shape;have XL:=U gx;have zB:=U gg;have kU:=Rg.Rows.two 27 h h';have Uk:=U kU;have K:=U (Below.refl w.heap.size w);clear h h' gx gg kU
 go_enter Tryz.func202,Tryz.ntmps202
 go_upto_region 0 with fail
 refine b6<|j7 rfl<|j6 rfl ?_;go_frame
 go_upto_region 1 with fail
 refine b6<|j7 rfl<|j7 rfl<|k5 (tz (u1:=.slice xa x.length xc) (u2:=.slice ga g.length gc) _ _ rfl rfl rfl (tx w _ _ ⟨_,_,_,rfl⟩ ⟨_,_,_,rfl⟩)) ?_;go_frame
 have hb:=(Below.refl w.heap.size w).alloc (Nat.le_refl _) (.cells #[.slice xa x.length xc,.slice ga g.length gc] 27);generalize w.alloc (.cells #[.slice xa x.length xc,.slice ga g.length gc] 27)=w1 at *;replace NX:=U (NX.u.p hb);replace NG:=U (NG.u.p hb);replace K:=U (Rg.acc K.u hb);clear hb;refine f3 10 (ax 142 _ _ rfl rfl (XJ _ _)) ?_;refine (Bf Uk.u (Nat.le_succ 1) hz (Below.refl w1.heap.size w1)).mono ?_;rintro e1 w2 ⟨rfl,hb⟩;refine ⟨_,rfl,?_⟩;go_frame;replace NX:=U (NX.u.p hb);replace NG:=U (NG.u.p hb);replace K:=U (Rg.acc K.u hb);clear hb;refine j6 rfl ?_;go_frame;clear Uk hz;go_upto_region 2 with fail
 refine b6<|j6 rfl<|k5 (g8 (.bool false) .neq (h:=az _ (decide_eq_false (by decide)))) ?_;go_frame
 go_upto_region 4 with fail
 refine b6<|j7 rfl ?_;go_frame
 refine f3 15 (ax 203 _ _ rfl rfl (XK _ _)) ?_;refine (Ch _ g w2 NG.u.i zB.u.1 (by rw [zB.u.2]; omega) (by rw [zB.u.2]; exact eB)).mono ?_;rintro e1 w3 ⟨iv,rfl,po,hb⟩;refine ⟨_,rfl,?_⟩;go_frame;replace NX:=U (NX.u.p hb);replace NG:=U (NG.u.p hb);replace K:=U (Rg.acc K.u hb);clear hb;have QZ:=U (dw.mk po.1);refine j7 rfl ?_;go_frame;refine f3 17 (aC 143 _ _ _ rfl rfl rfl (QW _ _)) ?_;refine (n5 _ _ (Ma.aY g) x w3 QZ.u.i NX.u.i (fun z hz=>by rw [XL.u.2]; exact xV (Cm.aQ zB.u) hz) (by rw [Ma.dG,zB.u.2]; omega) (by rw [Ma.dG,zB.u.2]; exact eB) (by rw [XL.u.2]; exact eB)).mono ?_;rintro e1 w4 ⟨mv,rfl,gJ,hb⟩;refine ⟨_,rfl,?_⟩;go_frame;replace NX:=U (NX.u.p hb);replace NG:=U (NG.u.p hb);replace QZ:=U (QZ.u.p hb);replace K:=U (Rg.acc K.u hb)
 clear hb;have XM:=U (dw.mk gJ.1);refine j7 rfl ?_;go_frame;refine f3 19 (aC 143 _ _ _ rfl rfl rfl (QW _ _)) ?_;refine (n5 _ _ (Ma.ak (Ma.aY g) x) g w4 XM.u.i NG.u.i (fun z hz=>by rw [zB.u.2]; exact xV (Cm.bf (Cm.aQ zB.u) XL.u) hz) (by rw [Ma.cQ,Ma.dG,zB.u.2]; omega) (by rw [Ma.cQ,Ma.dG,zB.u.2]; exact eB) (by rw [zB.u.2]; exact eB)).mono ?_;rintro e1 w5 ⟨cv,rfl,hcv,hb⟩;have HFC:=U (hcv.2.mono K.u.size);refine ⟨_,rfl,?_⟩;go_frame;replace NX:=U (NX.u.p hb);replace NG:=U (NG.u.p hb);replace QZ:=U (QZ.u.p hb);replace XM:=U (XM.u.p hb);replace K:=U (Rg.acc K.u hb);clear hb;have NC9:=U (dw.mk hcv.1)
 refine j5 (cv) rfl<|j6 rfl ?_;go_frame
 clear po gJ hcv;go_wp2
 go_ret2
 exact ⟨_,rfl,⟨NC9.u.i,HFC.u⟩,K.u⟩
theorem uG (hN:N<=64) (lv gv:Value) (s g:List Nat) (w:World) (h:Rg.Ints w lv (Ma.ah s)) (hs:∀ y∈s,y<N) (hl:s.length<=100000) (h':Rg.NP w gv g) (gg:Gd N g) :
  Calls Tryz.prog 205 #[lv,gv] w fun e w'=>∃ v,e=.returned v/\gK w.heap.size w' v (Ma.ah (s.map (ap g)))/\Below w.heap.size w w':=by
 obtain ⟨n,la,lc,hn,rfl,-⟩:=h.len;rw [Ma.aB] at hn;subst hn;obtain ⟨n,ga,gc,hn,rfl,-⟩:=Rg.Ints.len h';rw [Ma.aB,gg.2] at hn;subst hn;have NS:=U (dw.mk h);have NG:=U (dw.mk h');have HS:=U hs;have GG:=U gg;have K:=U (Below.refl w.heap.size w);clear h h' hs gg
 go_enter Tryz.func205,Tryz.ntmps205
 go_upto_region 0 with fail
 refine b6<|j7 rfl ?_;go_frame
 go_upto_region 1 with fail
 refine b6<|j7 rfl ?_;go_frame
 go_upto_region 2 with fail
 refine b6<|j7 rfl<|k5 (g9 Tryz.underlying26)<|j6 rfl ?_;go_frame
 have RO:=U (gK.nil w.heap.size w);go_wp2
 go_loopw [5,10] (fun ov iv wr=>∃ k:Nat,iv=.int .i64 ((k:Nat):Int)/\k<=s.length/\Hid (gK w.heap.size wr ov (Ma.ah ((s.take k).map (ap g))))/\Hid (Below w.heap.size w wr)) (fun _ iv _=>s.length - (intOf iv).toNat)
 case atStart=>exact ⟨0,rfl,Nat.zero_le _,RO,K⟩
 case round =>
  clear RO;obtain ⟨k,rfl,hk,RO,KR⟩:=hrel;generalize wr=wA at *;replace NS:=U (NS.u.p KR.u);replace NG:=U (NG.u.p KR.u);obtain ⟨oa,oc,dz⟩:=RO.u.shape;rw [Ma.aB,List.length_map,List.length_take,Nat.min_eq_left hk] at dz;subst dz
  by_cases aw:k<s.length
  case neg =>
   obtain rfl:k=s.length:=by omega
   go_upto_region 3 with fail
   refine b6<|k5 (g8 (.bool false) .lss (h:=aH _ f8)) ?_;go_frame
   go_upto_region 7 with fail
   refine b6<|j7 rfl<|j7 rfl ?_;go_frame
   have HX:=U (show gK w.heap.size wA (.slice oa s.length oc) (Ma.ah (s.map (ap g))) by have:=RO.u; rwa [List.take_length] at this);clear RO NS NG;go_wp2;go_ret;exact ⟨_,rfl,HX.u,KR.u⟩
  case pos =>
   have qf:k<100000:=by omega
   obtain ⟨lb,lo,_,e1,hlc⟩:=NS.u.at (M:=s) rfl (by omega);simp only [Value.slice.injEq,true_and] at e1;obtain ⟨rfl,rfl⟩:=e1;obtain ⟨gb,eZ,_,e1,Ah⟩:=NG.u.at (M:=g) GG.u.2 (by have:=HS.u _ (List.getElem_mem aw); omega);simp only [Value.slice.injEq,true_and] at e1;obtain ⟨rfl,rfl⟩:=e1;obtain ⟨x,hx⟩:∃ x,Hid (s[k]=x):=⟨_,U rfl⟩;have M5:=U (show x<N from hx.u▸HS.u _ (List.getElem_mem aw))
   have CS:=U (show CL wA lb (lo+k) (.int .i64 ((x:Nat):Int)) by
    have:=hlc k aw
    rwa [List.getD_eq_getElem?_getD,List.getElem?_eq_getElem aw,Option.getD_some,hx.u] at this)
   obtain ⟨y,hy⟩:∃ y,Hid (ap g x=y):=⟨_,U rfl⟩;have CG:=U (show CL wA gb (eZ+x) (.int .i64 ((y:Nat):Int)) from hy.u▸Ah x M5.u);clear hlc Ah;go_upto_region 3 with fail
   refine b6<|k5 (g8 (.bool true) .lss (h:=aH _ f7)) ?_;go_frame
   go_upto_region 4 with fail
   refine b6<|k5 (ag aO _ _ rfl lb (lo) (s.length) lc (k) rfl rfl (by omega))<|k5 (g7 (.int .i64 ((x:Nat):Int)) ⟨lb,lo+k,none⟩ (af CS.u.cell))<|j6 rfl ?_;go_frame
   have Pn:=U (show (Ma.ah ((s.take k).map (ap g))).length=k by rw [Ma.aB,List.length_map,List.length_take,Nat.min_eq_left hk]);go_upto_region 5 with fail
   refine b6<|j7 rfl<|j7 rfl<|j6 rfl<|k5 (ag bB _ _ rfl gb (eZ) (N) gc (x) rfl rfl M5.u) ?_;go_frame
   refine k5 (g7 (.int .i64 ((y:Nat):Int)) ⟨gb,eZ+x,none⟩ (af CG.u.cell))<|k5 (Rg.aI _ _ _ rfl (.int .i64 ((y:Nat):Int)) rfl (DL wA _)) ?_;go_frame
   obtain ⟨a9,c9,X9,r1,r2,r3⟩:=RO.u.push KR.u.size ((y:Nat):Int) (by rw [Pn.u]; omega) 26;rw [Pn.u] at r1 r2
   refine k5 (Rg.bw _ _ _ rfl rfl rfl r1)<|j7 rfl ?_;go_frame
   have C_:=U (show gK w.heap.size X9 (.slice a9 (k+1) c9) (Ma.ah ((s.take (k+1)).map (ap g))) by
    rw [List.take_succ_eq_append_getElem aw,hx.u,List.map_append,List.map_singleton,hy.u];unfold Ma.ah;rw [List.map_append]
    exact r2)
   have KX:=U (r3 (Nat.le_refl _) KR.u);clear r1 r2 r3 RO KR NS NG CS CG Pn;go_wp2
   go_roundw
   case rel=>exact ⟨k+1,by go_num,aw,C_,KX⟩
   case measure=>simp [intOf]; omega

theorem Q0 (args:Array Value) (w:World):(callFunc 202 args).run Tryz.prog w=.ok (.enter 202 args) w:=by kernel_rfl
theorem JW (args:Array Value) (w:World):(callFunc 205 args).run Tryz.prog w=.ok (.enter 205 args) w:=by kernel_rfl
theorem aas (b:Nat) (w:World):(Instr.fieldAt 76 (.pointer (some ⟨b,0,none⟩)) 0).run Tryz.prog w=.ok (.pointer (some ⟨b,0,none⟩)) w:=by kernel_rfl
theorem aat (b:Nat) (w:World):(Instr.fieldAt 76 (.pointer (some ⟨b,0,none⟩)) 1).run Tryz.prog w=.ok (.pointer (some ⟨b,1,none⟩)) w:=by kernel_rfl
theorem Vm (b:Nat) (w:World):(Instr.fieldAt 83 (.pointer (some ⟨b,0,none⟩)) 0).run Tryz.prog w=.ok (.pointer (some ⟨b,0,none⟩)) w:=by kernel_rfl
theorem Vn (b:Nat) (w:World):(Instr.fieldAt 83 (.pointer (some ⟨b,0,none⟩)) 1).run Tryz.prog w=.ok (.pointer (some ⟨b,1,none⟩)) w:=by kernel_rfl
theorem aau (b:Nat) (w:World):(Instr.fieldAt 86 (.pointer (some ⟨b,0,none⟩)) 0).run Tryz.prog w=.ok (.pointer (some ⟨b,0,none⟩)) w:=by kernel_rfl
theorem aav (b:Nat) (w:World):(Instr.fieldAt 86 (.pointer (some ⟨b,0,none⟩)) 1).run Tryz.prog w=.ok (.pointer (some ⟨b,1,none⟩)) w:=by kernel_rfl
theorem aaw (b:Nat) (w:World):(Instr.fieldAt 99 (.pointer (some ⟨b,0,none⟩)) 0).run Tryz.prog w=.ok (.pointer (some ⟨b,0,none⟩)) w:=by kernel_rfl
theorem aax (b:Nat) (w:World):(Instr.fieldAt 99 (.pointer (some ⟨b,0,none⟩)) 1).run Tryz.prog w=.ok (.pointer (some ⟨b,1,none⟩)) w:=by kernel_rfl
structure ThU (N:Nat) (tv:Value) (Pb:List Nat->Bool) (Fk:Nat->Prop) (A:World->Prop):Prop where
 m : ∃ F recv, (∀ gv W, (callMethod tv "cayley/search.maps" #[gv]).run Tryz.prog W = .ok (.enter F #[recv, gv]) W) /\
  ∀ W gv g,A W->Rg.NP W gv g->Gd N g->Calls Tryz.prog F #[recv,gv] W fun e W'=>e=.returned (.bool (Pb g))/\Below W.heap.size W W'
 same:∀ W W',A W->RF.jN W W'->A W'
 kp:∀ C W W',A W->Rg.Kp C W W'->(∀ z,Fk z->¬ C z)->A W'
theorem JX (w:World) (x y:Value) (t:TypeId):CL (w.alloc (.cells #[x,y] t)) w.heap.size 0 x/\CL (w.alloc (.cells #[x,y] t)) w.heap.size 1 y :=
 ⟨CL.mk (by rw [Rg.aT]; rfl) (by simp),CL.mk (by rw [Rg.aT]; rfl) (by simp)⟩
theorem GK (eB:1<=N) (hN:N<=64) (xv yv gv:Value) (x y g:List Nat) (w:World) (hx:Rg.NP w xv x) (hy:Rg.NP w yv y) (hg:Rg.NP w gv g) (gx:Gd N x) (gg:Gd N g) :
  Calls Tryz.prog 201 #[.agg #[xv,yv],gv] w fun e w'=>e=.returned (.bool (decide (jO x g=y)))/\Below w.heap.size w w':=by
 obtain ⟨n,xa,xc,hn,rfl,-⟩:=Rg.Ints.len hx;rw [Ma.aB,gx.2] at hn;subst hn;obtain ⟨n,ya,yc,hn,rfl,-⟩:=Rg.Ints.len hy;rw [Ma.aB] at hn;subst hn;obtain ⟨n,ga,gc,hn,rfl,-⟩:=Rg.Ints.len hg;rw [Ma.aB,gg.2] at hn;subst hn;have NX:=U (dw.mk hx);have NY:=U (dw.mk hy);have NG:=U (dw.mk hg);have GX:=U gx;have GG:=U gg;have K:=U (Below.refl w.heap.size w);clear hx hy hg gx gg
 go_enter Tryz.func201,Tryz.ntmps201
 go_upto_region 0 with fail;refine b6 ?_;have aJ:=JX w (.slice xa N xc) (.slice ya y.length yc) 76;refine k5 (Rg.aS _ _ rfl rfl) ?_;go_frame;have hb:=(Below.refl w.heap.size w).alloc (Nat.le_refl _) (.cells #[.slice xa N xc,.slice ya y.length yc] 76);generalize w.alloc (.cells #[.slice xa N xc,.slice ya y.length yc] 76)=w1 at *;replace NX:=U (NX.u.p hb);replace NY:=U (NY.u.p hb);replace NG:=U (NG.u.p hb);replace K:=U (Rg.acc K.u hb);clear hb;have B0:=U aJ.1;have B1:=U aJ.2;clear aJ;refine j9 rfl ?_;go_frame;go_upto_region 1 with fail
 refine b6<|k5 (j0 (aas _ _))<|k5 (g7 (.slice xa N xc) ⟨w.heap.size,0,none⟩ (Rg.ae _ _ Tryz.underlying27 B0.u.cell))<|j7 rfl ?_;go_frame
 refine f3 11 (aC 202 _ _ _ rfl rfl rfl (Q0 _ _)) ?_;refine (uF eB hN _ _ x g w1 NX.u.i NG.u.i GX.u GG.u).mono ?_;rintro e1 w2 ⟨cv,rfl,hcv,hb⟩;refine ⟨_,rfl,?_⟩;go_frame;replace NX:=U (NX.u.p hb);replace NY:=U (NY.u.p hb);replace NG:=U (NG.u.p hb);replace B0:=U (B0.u.p hb);replace B1:=U (B1.u.p hb);replace K:=U (Rg.acc K.u hb);clear hb;have NC:=U (dw.mk hcv.1)
 refine j5 (.tuple #[cv,.int .i64 0]) rfl<|k5 (i5 (cv))<|k5 (i5 (.int .i64 0))<|j5 (cv) rfl<|j6 rfl ?_;go_frame
 clear hcv;go_upto_region 2 with fail
 refine b6<|j5 (cv) rfl<|k5 (j0 (aat _ _))<|k5 (g7 (.slice ya y.length yc) ⟨w.heap.size,1,none⟩ (Rg.ae _ _ Tryz.underlying27 B1.u.cell)) ?_;go_frame
 refine f3 17 (aC 131 _ _ _ rfl rfl rfl (PR _ _)) ?_;refine (t_ _ _ (Ma.ah (jO x g)) (Ma.ah y) w2 NC.u.i NY.u.i).mono ?_;rintro e1 w3 ⟨rfl,hb⟩;refine ⟨_,rfl,?_⟩;go_frame;replace NX:=U (NX.u.p hb);replace NY:=U (NY.u.p hb);replace NG:=U (NG.u.p hb);replace B0:=U (B0.u.p hb);replace B1:=U (B1.u.p hb);replace NC:=U (NC.u.p hb);replace K:=U (Rg.acc K.u hb);clear hb;refine k5 (Rg.cL (v:=(.bool (decide (Ma.ah (jO x g)=Ma.ah y)))) _ rfl rfl) ?_;go_frame
 have HE:=U (show decide (Ma.ah (jO x g)=Ma.ah y)=decide (jO x g=y) by
  by_cases e:jO x g=y
  ·rw [e]; simp
  ·rw [decide_eq_false e,decide_eq_false (fun e2=>e (Ma.lG e2))])
 rw [HE.u];clear HE;go_wp2;go_ret;exact ⟨rfl,K.u⟩
theorem GL (hN:N<=64) (sv tv gv:Value) (s t g:List Nat) (w:World) (hs:Rg.NP w sv s) (ht:Rg.NP w tv t) (hg:Rg.NP w gv g) (iG:∀ y∈s,y<N) (hl:s.length<=100000) (gg:Gd N g) :
  Calls Tryz.prog 206 #[.agg #[sv,tv],gv] w fun e w'=>e=.returned (.bool (decide (s.map (ap g)=t)))/\Below w.heap.size w w':=by
 obtain ⟨n,xa,xc,hn,rfl,-⟩:=Rg.Ints.len hs;obtain ⟨n2,ya,yc,aX,rfl,-⟩:=Rg.Ints.len ht;obtain ⟨n3,ga,gc,Q4,rfl,-⟩:=Rg.Ints.len hg;have NX:=U (dw.mk hs);have NY:=U (dw.mk ht);have NG:=U (dw.mk hg);have HL:=U hl;have GG:=U gg;have K:=U (Below.refl w.heap.size w);clear hs ht hg gg hn aX Q4 hl
 go_enter Tryz.func206,Tryz.ntmps206
 go_upto_region 0 with fail;refine b6 ?_;have aJ:=JX w (.slice xa n xc) (.slice ya n2 yc) 86;refine k5 (Rg.aS _ _ rfl rfl) ?_;go_frame;have hb:=(Below.refl w.heap.size w).alloc (Nat.le_refl _) (.cells #[.slice xa n xc,.slice ya n2 yc] 86);generalize w.alloc (.cells #[.slice xa n xc,.slice ya n2 yc] 86)=w1 at *;replace NX:=U (NX.u.p hb);replace NY:=U (NY.u.p hb);replace NG:=U (NG.u.p hb);replace K:=U (Rg.acc K.u hb);clear hb;have B0:=U aJ.1;have B1:=U aJ.2;clear aJ;refine j9 rfl ?_;go_frame;go_upto_region 1 with fail;have aj:Below w1.heap.size w1 w1.drew:=(Below.refl _ _).drew;replace NX:=U (NX.u.p aj);replace NY:=U (NY.u.p aj);replace NG:=U (NG.u.p aj);replace B0:=U (B0.u.p aj);replace B1:=U (B1.u.p aj);replace K:=U (Rg.acc K.u aj);clear aj;refine Rg.Any.begin (S:=Rg.aG 7 (fun _=>True) (fun W=>Below w1.drew.heap.size w1.drew W)) mix ?_
 generalize w1.drew=w2 at *;have hS:∀ (l:Array Bool) W,Below w2.heap.size w2 W->Rg.aG 7 (fun _=>True) (fun W=>Below w2.heap.size w2 W) l W:=fun l W h=>⟨.inr trivial,h⟩;have hI:Below w2.heap.size w2 w2:=Below.refl _ _
 refine d7 0 7 (.pointer (some ⟨w.heap.size,0,none⟩)) 5 rfl rfl (i9 fun w=>aA _ rfl rfl (aau _ _)) (hS _ _ hI)<|d7 1 7 (.slice xa n xc) 6 rfl rfl (i8 ⟨w.heap.size,0,none⟩ (fun W hW=>Rg.ae _ _ Tryz.underlying26 ((Below.cell (p:=⟨w.heap.size,0,none⟩) hW B0.u.lt).trans B0.u.cell))) (hS _ _ hI)<|d8 2 7 (.slice ga n3 gc) 7 (hS _ _ hI)<|d7 4 7 (.pointer (some ⟨w.heap.size,1,none⟩)) 9 rfl rfl (i9 fun w=>aA _ rfl rfl (aav _ _)) (hS _ _ hI)<|d7 5 7 (.slice ya n2 yc) 10 rfl rfl (i8 ⟨w.heap.size,1,none⟩ (fun W hW=>Rg.ae _ _ Tryz.underlying26 ((Below.cell (p:=⟨w.heap.size,1,none⟩) hW B1.u.lt).trans B1.u.cell))) (hS _ _ hI) ?_;go_frame
 refine Rg.Any.one (i:=3) (by kernel_rfl) (Rg.Any.ask (some 8) rfl rfl rfl _ _ (aC 205 _ _ _ rfl rfl rfl (JW _ _)) ?_);refine (uG hN _ _ s g w2 NX.u.i iG HL.u NG.u.i GG.u).mono ?_;rintro e1 w3 ⟨iv,rfl,po,hb⟩;have aP:=po.fi (by rw [Ma.aB,List.length_map]; have:=HL.u; omega) (G:=fun _=>True) (fun _ _ _=>trivial);have bj:=Rg.acc hI hb;clear hb hI;refine ⟨_,rfl,(hS _ _ bj),?_⟩;go_frame;have NM:=U (dw.mk aP.ints);refine Rg.Any.one (i:=6) (by kernel_rfl) (Rg.Any.ask (some 11) rfl rfl rfl _ _ (aC 126 _ _ _ rfl rfl rfl (Dp _ _)) ?_);refine (mj _ _ (Ma.ah (s.map (ap g))) (Ma.ah t) w3 NM.u.i (NY.u.p bj).i).mono ?_;rintro e1 w4 ⟨rfl,hb⟩;have bC:=Rg.acc bj hb;have cF:=hb;clear hb bj;refine ⟨_,rfl,(hS _ _ bC),?_⟩;go_frame;refine Rg.Any.one (i:=7) (by kernel_rfl) (Rg.Any.run (some 4) rfl rfl rfl (Rg.cL (v:=(.bool (decide (Ma.ah (s.map (ap g))=Ma.ah t)))) _ rfl rfl) (hS _ _ bC) ?_)
 go_frame;refine Rg.Any.done (by kernel_rfl) ?_ _;replace NX:=U (NX.u.p bC);replace NY:=U (NY.u.p bC);replace NG:=U (NG.u.p bC);replace B0:=U (B0.u.p bC);replace B1:=U (B1.u.p bC);replace NM:=U (NM.u.p cF);replace K:=U (Rg.acc K.u bC);clear hS bC cF
 have HE:=U (show decide (Ma.ah (s.map (ap g))=Ma.ah t)=decide (s.map (ap g)=t) by
  by_cases e:s.map (ap g)=t
  ·rw [e]; simp
  ·rw [decide_eq_false e,decide_eq_false (fun e2=>e (Ma.lG e2))])
 rw [HE.u];clear HE;go_wp2;go_ret;exact ⟨rfl,K.u⟩
end
section
attribute [local irreducible] Go.Calls
theorem Nz (a:Option Addr) (c:Nat) (w:World):Calls Tryz.prog 167 #[.slice a 0 c,.int .i64 0,.int .i64 0] w fun e w'=>e=.returned (.tuple #[])/\w'=w:=by
 go_enter Tryz.func167,Tryz.ntmps167
 go_wp2
 go_loopw [6] (fun iv wr=>iv=.int .i64 1/\wr=w) (fun _ _=>0)
 case atStart=>exact ⟨rfl,rfl⟩
 case round =>
  obtain ⟨rfl,rfl⟩:=hrel;go_wp2
  go_end0
  exact ⟨rfl,rfl⟩
theorem NA (a:Option Addr) (c:Nat) (k:Int) (w:World):Calls Tryz.prog 150 #[.slice a 0 c,.int .i64 0,.int .i64 0,.int .i64 k] w fun e w'=>e=.returned (.tuple #[])/\w'=w:=by
 go_enter Tryz.func150,Tryz.ntmps150
 go_wp2
 go_loopw [1,2] (fun x y wr=>x=.int .i64 0/\y=.int .i64 0/\wr=w) (fun _ _ _=>0)
 case atStart=>exact ⟨rfl,rfl,rfl⟩
 case round =>
  obtain ⟨rfl,rfl,rfl⟩:=hrel
  go_wp2_with (go_at_call 167; refine (Nz a c _).mono ?_; rintro e w' ⟨rfl,rfl⟩)
  refine bodyPost_ret (results_none rfl _ _ _) rfl ?_;exact ⟨rfl,rfl⟩
theorem GN (w:World):Calls Tryz.prog 161 #[.int .u64 0] w fun e w'=>(∃ k,e=.returned (.int .i64 k))/\w'=w:=by
 go_enter Tryz.func161,Tryz.ntmps161
 go_wp2;go_ret;exact ⟨⟨_,rfl⟩,rfl⟩
theorem NB (w:World):Calls Tryz.prog 139 #[.int .u64 0] w fun e w'=>(∃ k,e=.returned (.int .i64 k))/\w'=w:=by
 go_enter Tryz.func139,Tryz.ntmps139
 go_wp2_with (go_at_call 161; refine (GN _).mono ?_; rintro e w' ⟨⟨k,rfl⟩,rfl⟩)
 go_ret;exact ⟨⟨_,rfl⟩,rfl⟩
theorem JY (w:World):Calls Tryz.prog 123 #[.slice none 0 0] w fun e w'=>e=.returned (.tuple #[])/\w'=w:=by
 go_enter Tryz.func123,Tryz.ntmps123
 go_wp2_with (first | (go_at_call 139; refine (NB _).mono ?_; rintro e w' ⟨⟨k,rfl⟩,rfl⟩) | (go_at_call 150; refine (NA none 0 _ _).mono ?_; rintro e w' ⟨rfl,rfl⟩))
 go_end0
 exact ⟨rfl,rfl⟩
theorem XN:∀ (args:Array Value) (w:World),(callFunc 124 args).run Tryz.prog w=.ok (.enter 124 args) w:=fun _ _=>by kernel_rfl
theorem JZ (l fb:Nat) (w:World) (h:w.cell? ⟨fb,0,none⟩=some (.slice none 0 0)) :
  Calls Tryz.prog 124 #[.func (.yield l) #[] #[],.pointer (some ⟨fb,0,none⟩)] w fun e w'=>(∃ v,e=.returned v)/\w'=w:=by
 go_enter Tryz.func124,Tryz.ntmps124
 go_wp2
 go_loopw [7] (fun iv wr=>iv=.int .i64 0/\wr=w) (fun _ _=>0)
 case atStart=>exact ⟨rfl,rfl⟩
 case round =>
  obtain ⟨rfl,rfl⟩:=hrel;go_wp2
  go_end0
  exact ⟨⟨_,rfl⟩,rfl⟩
end
end Go.Proofs.YtpedbljnhnoohaaGreat
