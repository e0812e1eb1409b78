/- Lemmas and contracts on the way to the statement; no condition of their own beyond those written. -/
import Derived.Test.YtpedbljnhnoohaaGreatXWntoZe
import Derived.Shelf.SlSortCmp.Whole1
import Derived.Ground.SlsfProg
import Derived.Lib.SmallJoins
import Derived.Deep.Matrix
import Derived.Deep.Strs
import Derived.RangeFuncBound
set_option linter.unusedVariables false
set_option linter.unusedSimpArgs false
set_option maxRecDepth 100000
set_option maxHeartbeats 8000000
variable {n B N L D tc j tb base tf n₀ bytes:Nat} {v rv ov z v1 v2 xv u1 yv u2 cv tv:Go.Value} {W w' W' X w0 W0:Go.World} {F M F' F0 Fk:Nat->Prop} {O gs A LL:List (List Nat)} {ll OO PS:List (List Int)} {R:List (List (List Nat))} {RR gl:List (List (List Int))} {H:List Nat->Prop} {d ck:Int} {xs:List Go.Value} {xl l1 l2:List Int}
set_option linter.unusedVariables false
namespace Go.Proofs.YtpedbljnhnoohaaGreat
open Go.Proofs
section
open Go.RowKit
open Go.Proofs.Ob
open Go.Shelf
attribute [local irreducible] Go.Calls Go.wpList
theorem Ie {o:Oper} {a:Act} {w:World} {ad:Addr} {c:Nat} (x y:Operand) (ho:o.op=.binOp .eql 26 x y 26) (hx:a.eval x=.slice (some ad) n c) (hy:a.eval y=.slice none 0 0):(execOp a.eval o).run Tryz.prog w=.ok (.value (.bool false)) w:=by
 have h1:(binOp .eql 26 (.slice (some ad) n c) (.slice none 0 0)).run Tryz.prog w=.ok (.bool false) w:=by kernel_rfl
 have hg:(eqGuard .eql 26 x y (.slice (some ad) n c) (.slice none 0 0)).run Tryz.prog w=.ok () w:=by
  simp [eqGuard]
 unfold execOp;simp only [ho,hx,hy,Sem.run_bind,Sem.run_pure,hg,h1,Result.andThen_ok]
theorem Ig (v:Value) (l:List Int) (w:World) (h:Rg.Ints w v l) (h1:1<=l.length) (hl:l.length<=1000000) :
  Calls Tryz.prog 109 #[v] w fun e w'=>∃ v',e=.returned v'/\w'.ownsRow w.heap.size 3 1 v' l.length (l.map (Value.int .i64))/\BE w w':=by
 obtain ⟨la,lc,rfl,_,_,_,hs⟩:=h.shape;obtain ⟨b,o,rfl,_⟩:=hs (by omega);have HI:=U h;have K:=U (bi w);clear h hs
 go_enter Tryz.func109,Tryz.ntmps109
 go_upto_region 1 with fail;refine c6<|j8 rfl<|k8 (Ie _ _ rfl rfl rfl) ?_;go_frame;go_upto_region 3 with fail;refine c6 ?_;have bV:=sL.new (B:=w.heap.size) w (Nat.le_refl _);refine k8 (Rg.o7 aQ rfl w) ?_;go_frame;have hb:=be w (.cells #[] 3);generalize w.alloc (.cells #[] 3)=w1 at *;replace HI:=U (HI.u.p hb);replace K:=U (Rg.acc K.u hb);clear hb;have FO:=U bV;refine j8 rfl ?_;go_frame;obtain ⟨v5,X5,r1,r2,r3⟩:=Rg.wG (P:=Tryz.prog) aQ 26 FO.u.1 K.u.size HI.u qD (by rw [List.length_map]; omega);refine k8 (Rg.aT _ _ _ rfl rfl rfl r1)<|j6 (v5) rfl ?_;go_frame;rw [List.length_map,Nat.zero_add,List.nil_append] at r2;have R2:=U r2;have K5:=U (K.u.grown r3 K.u.size (fun j hj=>(FO.u.1.lt j hj).1));clear r1 r2 r3 FO;go_wp2;go_ret;exact ⟨_,rfl,R2.u,K5.u⟩
def MK (tc:Nat) (ov rv:Value) (z:Nat):Prop:=z=tc∨ov.ownBlock=some z∨rv.ownBlock=some z
theorem pJ {e:TypeId} {size:Nat} (h:W.ownsRow B e size v n xs):∀ k,v.ownBlock=some k->∃ o:Obj,W.heap[k]?=some o/\o.isCells=true:=fun k e1=>by
 obtain ⟨_,h3⟩:=h
 rcases h3 with ⟨h4,_⟩ | ⟨g,cap,cur,h4,_,h5,_⟩
 ·rw [h4] at e1; simp [Value.ownBlock] at e1
 ·rw [h4] at e1
  simp [Value.ownBlock] at e1;subst e1;exact ⟨_,h5,rfl⟩
theorem BH {a:Addr} (h:W.cell? a=some v):∃ o:Obj,W.heap[a.block]?=some o/\o.isCells=true:=by
 unfold World.cell? at h
 cases e:W.heap[a.block]? with
 | none=>rw [e] at h; cases h
 | some o =>
  rw [e] at h;refine ⟨o,rfl,?_⟩
  cases o <;> simp at h <;> rfl
theorem dV.isCells {B:Nat} {W:World} {tc:Nat} {c0 c1 c2 ov rv:Value} {O:List (List Int)} {R:List (List (List Int))} (h:dV B W tc c0 c1 c2 ov rv O R):∀ z,MK tc ov rv z->∃ o:Obj,W.heap[z]?=some o/\o.isCells=true:=by
 obtain ⟨us,vs,h1,h2,_⟩:=h.own
 rintro z (e | e | e)
 ·subst e; exact BH h.gZ.c0
 ·exact pJ h1 z e
 ·exact pJ h2 z e
theorem xi {row:Option Nat} (hg:W.grownBy W' row) (hr:∀ r,row=some r->∃ o:Obj,W.heap[r]?=some o/\o.isCells=false) {us:List Value} (h:Rg.bR F W us ll):Rg.bR F W' us ll :=
 ⟨h.1,fun i a b=>xg hg hr (h.2 i a b)⟩
theorem OQ {row:Option Nat} (hg:W.grownBy W' row) (hr:∀ r,row=some r->∃ o:Obj,W.heap[r]?=some o/\o.isCells=false) (h:Rg.aL F W v ll):Rg.aL F W' v ll:=by
 obtain ⟨us,h1,h2⟩:=h;exact ⟨us,xg hg hr h1,xi hg hr h2⟩
theorem EE {row:Option Nat} (hg:W.grownBy W' row) (hr:∀ r,row=some r->∃ o:Obj,W.heap[r]?=some o/\o.isCells=false) {e:TypeId} {size:Nat} (h:W.ownsRow B e size v n xs):W'.ownsRow B e size v n xs :=
 im h (Rg.Kp.cC hg (M:=fun k=>row=some k) fun _ e=>e) (fun k e1 e2=>by
  obtain ⟨o,h1,h2⟩:=pJ h k e2;obtain ⟨o',h3,h4⟩:=hr k e1
  rw [h1] at h3; cases h3; rw [h2] at h4; cases h4)
theorem dV.nc {c0 c1 c2:Value} {O:List (List Int)} {R:List (List (List Int))} (h:dV B W tc c0 c1 c2 ov rv O R) {row:Option Nat} (hg:W.grownBy W' row) (hr:∀ r,row=some r->∃ o:Obj,W.heap[r]?=some o/\o.isCells=false):dV B W' tc c0 c1 c2 ov rv O R:=by
 obtain ⟨us,vs,h1,h2,h3,h4⟩:=h.own;have hk:Rg.Kp (fun k=>row=some k) W W':=Rg.Kp.cC hg fun _ e=>e;refine ⟨h.gZ.kp hk (fun e=>?_),h.low,⟨us,vs,EE hg hr h1,EE hg hr h2,(xi hg hr h3).mono fun _ g=>g.up hg.size,bX.mono ⟨h4.1,fun i a b=>OQ hg hr (h4.2 i a b)⟩ fun _ g=>g.up hg.size⟩,h.apart,h.ot,h.rt⟩;obtain ⟨o,q1,q2⟩:=h.isCells tc (.inl rfl);obtain ⟨o',q3,q4⟩:=hr tc e;rw [q1] at q3; cases q3; rw [q2] at q4; cases q4
theorem x8 (hc:∀ a,W'.cell? a=W.cell? a) (hs:W.heap.size<=W'.heap.size) {us:List Value} (h:Rg.cH W v us):Rg.cH W' v us:=by
 obtain ⟨a,cap,e,h1,h2,h3,h4⟩:=h;refine ⟨a,cap,e,h1,h2,h3,fun h0=>?_⟩;obtain ⟨b,o,e1,e2,e4⟩:=h4 h0;exact ⟨b,o,e1,Nat.lt_of_lt_of_le e2 hs,fun i hi=>(hc _).trans (e4 i hi)⟩
theorem Ih (hc:∀ a,W'.cell? a=W.cell? a) (hs:W.heap.size<=W'.heap.size) (h:Rg.Rows W v ll):Rg.Rows W' v ll:=by
 obtain ⟨us,h1,h2,h3⟩:=h;exact ⟨us,x8 hc hs h1,h2,fun i a b=>x8 hc hs (h3 i a b)⟩
theorem Dj {α:Type} {l:List (List α)} {i:Nat} (h:i<l.length):l.getD i []=l[i]:=by rw [List.getD_eq_getElem?_getD,List.getElem?_eq_getElem h]; rfl
theorem R8 {m:Nat} {α:Type} (f:Nat->α):(eF m m).map (fun z=>f z.1)=(List.range m).map f:=by
 rw [<- mB (Nat.le_refl m),List.map_map];rfl
end
section
open Go.RowKit
open Go.Proofs.Ob
open Go.Proofs.Cm (Gd)
attribute [local irreducible] Go.Calls Go.wpList
def gi (w:World) (g n:Nat) (f:Nat->Int):Prop:=g<w.heap.size/\(∀ i,i<n->w.cell? ⟨g,i,none⟩=some (.int .i64 (f i)))/\∀ i,w.frozen? ⟨g,i,none⟩=false
theorem gi.congr {w:World} {g:Nat} {f f':Nat->Int} (h:gi w g n f) (e:∀ i,i<n->f i=f' i):gi w g n f' :=
 ⟨h.1,fun i hi=>by rw [<- e i hi]; exact h.2.1 i hi,h.2.2⟩
theorem gi.set {w:World} {g:Nat} {f:Nat->Int} (h:gi w g n f) (k:Nat) (v:Int) (hk:k<n):gi (w.setCell ⟨g,k,none⟩ (.int .i64 v)) g n (fun i=>if i=k then v else f i):=by
 refine ⟨by simpa using h.1,fun i hi=>?_,fun i=>by rw [World.frozen?_setCell]; exact h.2.2 i⟩;show _=some (Value.int .i64 (if i=k then v else f i))
 by_cases e:i=k
 ·subst e
  rw [if_pos rfl];exact World.cell?_setCell_same (h:=h.2.1 i hi) ..
 ·rw [if_neg e,World.cell?_setCell_other (h:=by intro h; injection h with h1 h2; omega) ..]
  exact h.2.1 i hi
theorem gi.kp {w:World} {g:Nat} {f:Nat->Int} (h:gi w g n f) (hk:Rg.Kp M w w') (hM:¬ M g):gi w' g n f :=
 ⟨Nat.lt_of_lt_of_le h.1 hk.size,fun i hi=>(World.cell?_of_block (a:=⟨g,i,none⟩) (hk.block g h.1 hM)).trans (h.2.1 i hi),fun i=>(World.frozen?_of_block (a:=⟨g,i,none⟩) (hk.block g h.1 hM)).trans (h.2.2 i)⟩
theorem gi.p {w:World} {g:Nat} {f:Nat->Int} (h:gi w g n f) (hb:BE w w'):gi w' g n f:=h.kp (M:=fun _=>False) (Rg.Kp.aD hb) id
theorem gi.np {w:World} {g cap:Nat} {f:Nat->Int} (h:gi w g n f) (l:List Nat) (hl:l.length=n) (hc:n<=cap) (hm:cap<=maxLen) (hn:n<=1000) (e:∀ i (hi:i<l.length),f i=((l[i]:Nat):Int)):Rg.NP w (.slice (some ⟨g,0,none⟩) n cap) l:=by
 refine Rg.Ints.mk (by simp [Ma.ah,hl]) h.1 (by simp [Ma.ah]; omega) hm (by simp [Ma.ah]; omega) fun i hi=>?_
 have uy:i<l.length:=by simpa [Ma.ah] using hi
 rw [Nat.zero_add,h.2.1 i (by omega),e i uy];simp [Ma.ah]
end
section
open Go.RowKit
open Go.Proofs.Ob
open Go.Proofs.Cm (Gd Gr ar)
attribute [local irreducible] Go.Calls Go.wpList
theorem Af (w:World) (n:Nat):gi (w.alloc (.cells (madeCells #[.int .i64 0] n) 3)) w.heap.size n (fun _=>0):=by
 have h:=World.rowIs_made w (.int .i64 0) n 3;exact ⟨by simp,fun i hi=>h.cell hi,fun i=>h.frozen i⟩
theorem fE.Yy (h:fE B W v ll) (hB:B<=W.heap.size) {u:Value} {l:List Int} (hv:Rg.FI (PG B W v) W u l) (Gz:∃ a n c,u=.slice a n c) (hn:ll.length<1000000) (ty:TypeId) :
  ∃ a c X,(Builtin.append_ #[41,41] ty #[v,.slice (some ⟨W.heap.size,0,none⟩) 1 1]).run Tryz.prog (W.alloc (.cells #[u] 27))=.ok (.slice a (ll.length+1) c) X/\fE B X (.slice a (ll.length+1) c) (ll++[l])/\(∀ {B':Nat} {W0:World},B'<=B->Below B' W0 W->Below B' W0 X):=by
 obtain ⟨us,h1,h2⟩:=h.own;have hb:BE W (W.alloc (.cells #[u] 27)):=(Below.refl _ _).alloc (Nat.le_refl _) _;obtain ⟨ua,un,uc,Gz⟩:=Gz;have az:=fun k e=>(h1.lt k e).2;obtain ⟨v',X,r1,r2,r3,r4,a,c,rfl⟩:=fe (P:=Tryz.prog) aM ty (Rg.bP h1 hb) (Nat.le_trans hB hb.size) W.heap.size 1 (u:=u) (by rw [Rg.aW]; rfl) (by rw [Gz]; rfl) hn;have gO:Rg.Kp (fun _=>False) W (W.alloc (.cells #[u] 27)):=Rg.Kp.aD hb
 have cR:(W.alloc (.cells #[u] 27)).heap.size=W.heap.size+1:=by simp
 have hk:Rg.Kp (fun k=>v.ownBlock=some k) W X:=Rg.Kp.trans (M:=fun k=>v.ownBlock=some k) (gO.gS fun _=>False.elim) (Rg.Kp.cC r3 fun _ e=>e) (fun _ _ e=>e);have hg:∀ k,PG B W v k->¬ v.ownBlock=some k:=fun k g=>g.2.2
 have hm:∀ k,PG B W v k->PG B X (.slice a (ll.length+1) c) k:=fun k g=>by
  refine ⟨g.1,Nat.lt_of_lt_of_le g.2.1 hk.size,fun e=>?_⟩
  rcases r4 with r4 | r4
  ·rw [r4] at e; exact g.2.2 e
  ·rw [r4] at e; injection e with e; have:=g.2.1; omega
 refine ⟨a,c,X,r1,⟨us++[u],by rw [List.length_append]; exact r2,(bR.snoc (h2.kp hk hg) (hv.kp hk hg)).mono hm⟩,fun {B' W0} JZ ky=>?_⟩;refine (ky.trans ⟨hk.os,hk.tape,hk.output,hk.size,fun k P2=>hk.block k ?_ fun e=>?_⟩)
 ·have:=ky.size; omega
 ·have:=(h1.lt k e).1; omega
theorem c_.mono {B B':Nat} {w:World} {d:Int} {ll:List (List Int)} {cv:Value} {c:Int} (h:c_ B w d ll cv c) (hB:B'<=B):c_ B' w d ll cv c:=by
 rcases h with h | ⟨h0,n,gs,h1,h2,h3,h4,ov,rv,O,R,h5,h6,h7,h8⟩
 ·exact .inl h
 ·exact .inr ⟨h0,n,gs,h1,h2,h3,h4,ov,rv,O,R,h5,aL.mono h6 (fun z hz=>Nat.le_trans hB hz),aV.mono h7 (fun z hz=>Nat.le_trans hB hz),h8⟩
theorem c_.p {w:World} {c:Int} (h:c_ B w d ll cv c) (hb:BE w w'):c_ B w' d ll cv c:=h.kp (M:=fun _=>False) (Rg.Kp.aD hb) (fun _ e=>e.elim)
end
section
open Go.RowKit
open Go.Proofs.Ob
open Go.Proofs.Cm (Gd Gr)
attribute [local irreducible] Go.Calls Go.wpList
def R9 (F:FuncId) (jd:Array Value) (mv:List Int) (p:Int->Bool) (w:World):Prop :=
 ∀ x,x∈mv->∀ w1,BE w w1->Calls Tryz.prog F (#[.int .i64 x]++jd) w1 fun e w2=>e=.returned (.bool (p x))/\BE w1 w2
def x9 (mv:List Int) (p:Int->Bool):Int:=match mv.findIdx? p with
 | some i=>i
 | none=>-1
theorem OS {mv:List Int} {p:Int->Bool} {k:Nat} (hk:k<mv.length) (h:∀ i (hi:i<mv.length),i<k->p mv[i]=false) (hp:p mv[k]=true):x9 mv p=k:=by
 have:mv.findIdx? p=some k:=by
  rw [List.findIdx?_eq_some_iff_getElem];exact ⟨hk,hp,fun j hj=>by simp [h j (by omega) hj]⟩
 unfold x9; rw [this]
theorem KU {mv:List Int} {p:Int->Bool} (h:∀ i (hi:i<mv.length),p mv[i]=false):x9 mv p = -1:=by
 have:mv.findIdx? p=none:=by
  rw [List.findIdx?_eq_none_iff];intro x hx;obtain ⟨i,hi,rfl⟩:=List.getElem_of_mem hx;exact h i hi
 unfold x9; rw [this]
theorem OT (mv:List Int) (p:Int->Bool):decide (0<=x9 mv p)=mv.any p:=by
 unfold x9
 cases h:mv.findIdx? p with
 | none =>
  rw [List.findIdx?_eq_none_iff] at h
  have:mv.any p=false:=by rw [List.any_eq_false]; intro x hx; simp [h x hx]
  rw [this]; rfl
 | some i =>
  rw [List.findIdx?_eq_some_iff_getElem] at h;obtain ⟨h1,h2,_⟩:=h
  have:mv.any p=true:=by rw [List.any_eq_true]; exact ⟨_,List.getElem_mem h1,h2⟩
  rw [this]; simp
theorem yL (wO:Value) (mv:List Int) (F:FuncId) (jd:Array Value) (p:Int->Bool) (w:World) (h:Rg.Ints w wO mv) (hl:mv.length<=1000) (hF:∀ args w,(callFunc F args).run Tryz.prog w=.ok (.enter F args) w) (hf:R9 F jd mv p w) :
  Calls Tryz.prog 136 #[wO,.func (.func F) #[] jd] w fun e w'=>e=.returned (.int .i64 (x9 mv p))/\BE w w':=by
 obtain ⟨ad,cap,rfl,hc,hm,_,aP⟩:=h.shape;have Hr:=U aP;have HF:=U hf;clear h aP hf
 go_enter Tryz.func136,Tryz.ntmps136
 go_wp2
 go_loopw [8] (fun vi wr=>∃ k:Nat,k<=mv.length/\vi=.int .i64 k/\Hid (∀ i (hi:i<mv.length),i<k->p mv[i]=false)/\Hid (BE w wr)) (fun vi _=>mv.length - (intOf vi).toNat)
 case atStart=>exact ⟨0,by omega,rfl,fun i hi h0=>by omega,Below.refl _ _⟩
 case round =>
  obtain ⟨k,hk,rfl,mO,hb⟩:=hrel
  by_cases az:k<mv.length
  ·obtain ⟨b,o,rfl,N7,P3⟩:=Hr.u (by omega)
   have eu:=P3 k az;obtain ⟨x,hx⟩:∃ x,x=mv[k]:=⟨_,rfl⟩;rw [<- hx] at eu;have e0:wr.cell? ⟨b,o+k,none⟩=some (.int .i64 x):=(hb.u.cell (p:=⟨b,o+k,none⟩) N7).trans eu;have jJ:=HF.u x (by rw [hx]; exact List.getElem_mem _) wr hb.u;have n8:=U az;have Hx:=U hx;clear P3 eu hx
   cases hp:p x
   ·have Hp:=U hp
    have s_:=U (show Calls Tryz.prog F (#[.int .i64 x]++jd) wr (fun e w2=>e=.returned (.bool false)/\BE wr w2) from jJ.mono fun e w2 ⟨h1,h2⟩=>⟨h1.trans (by rw [Hp.u]),h2⟩);clear jJ hp
    go_wp2_with (refine s_.u.mono ?_; rintro e w1 ⟨rfl,bZ⟩)
    go_roundw
    case rel=>exact ⟨k+1,by omega,by go_num,fun i hi h0=>(by
     rcases Nat.lt_or_ge i k with h1 | h1
     ·exact mO.u i hi h1
     ·obtain rfl:i=k:=by omega
      rw [<- Hx.u]; exact Hp.u),Rg.acc hb.u bZ⟩
    case measure=>simp [intOf]; omega
   ·have Hp:=U hp
    have s_:=U (show Calls Tryz.prog F (#[.int .i64 x]++jd) wr (fun e w2=>e=.returned (.bool true)/\BE wr w2) from jJ.mono fun e w2 ⟨h1,h2⟩=>⟨h1.trans (by rw [Hp.u]),h2⟩);clear jJ hp
    go_wp2_with (refine s_.u.mono ?_; rintro e w1 ⟨rfl,bZ⟩)
    go_ret;exact ⟨Rg.iX (OS n8.u mO.u (by rw [<- Hx.u]; exact Hp.u)).symm,Rg.acc hb.u bZ⟩
  ·obtain rfl:k=mv.length:=by omega
   go_wp2;go_ret;exact ⟨Rg.iX (KU (fun i hi=>mO.u i hi hi)).symm,hb.u⟩
theorem gD (wO:Value) (mv:List Int) (F:FuncId) (jd:Array Value) (p:Int->Bool) (w:World) (h:Rg.Ints w wO mv) (hl:mv.length<=1000) (hF:∀ args w,(callFunc F args).run Tryz.prog w=.ok (.enter F args) w) (hf:R9 F jd mv p w) :
  Calls Tryz.prog 105 #[wO,.func (.func F) #[] jd] w fun e w'=>e=.returned (.bool (mv.any p))/\BE w w':=by
 have hi:=U (yL wO mv F jd p w h hl hF hf);have ha:=OT mv p;generalize x9 mv p=r at hi ha;generalize mv.any p=b at ha ⊢;have Ha:=U ha;clear ha h hf hF
 go_enter Tryz.func105,Tryz.ntmps105
 go_wp2_with (refine hi.u.mono ?_; rintro e w1 ⟨rfl,bZ⟩)
 go_ret;exact ⟨Rg.cN Ha.u,bZ⟩
end
section
open Go.RowKit
open Go.Proofs.Ob
open Go.Proofs.Cm (Gd Gr ar ap)
attribute [local irreducible] Go.Calls Go.wpList
theorem eG {w:World} (hc:ar N H O R) (h:bl w ov rv (O.map Ma.ah) (R.map (List.map Ma.ah))) {i:Nat} (hi:i<N) :
  ∃ ob oo oc rb ro rc,ov=.slice (some ⟨ob,oo,none⟩) N oc/\rv=.slice (some ⟨rb,ro,none⟩) N rc/\(∃ ua uc,CL w ob (oo+i) (.slice ua (O.getD i []).length uc)/\Rg.Ints w (.slice ua (O.getD i []).length uc) (Ma.ah (O.getD i []))) /\
   (∃ va vc,CL w rb (ro+i) (.slice va (O.getD i []).length vc)/\Rg.Rows w (.slice va (O.getD i []).length vc) ((R.getD i []).map Ma.ah)):=by
 have tG:(O.map Ma.ah).length=N:=by rw [List.length_map,hc.i_]
 have Ii:(R.map (List.map Ma.ah)).length=N:=by rw [List.length_map,hc.iN]
 obtain ⟨oa,oc,rfl,-⟩:=h.1.shape;obtain ⟨ra,rc,rfl⟩:=h.2.shape;have h1:=h.1;have h2:=h.2;rw [tG] at h1;rw [Ii] at h2;obtain ⟨ob,oo,ua,uc,e5,tx,oy,lT⟩:=KD h1 (i:=i) (by rw [tG]; exact hi);subst e5;obtain ⟨rb,ro,e6,KV,u,oC,hu⟩:=h2.Oo (k:=i) (by rw [Ii]; exact hi);subst e6
 have Vj:(O.map Ma.ah)[i]'(by rw [tG]; exact hi)=Ma.ah (O.getD i []):=by
  have Vk:i<O.length:=by rw [hc.i_]; exact hi
  rw [List.getElem_map,dO Vk]
 rw [Vj] at oy lT;rw [Ma.aB] at oy lT
 have Ia:(R.map (List.map Ma.ah))[i]'(by rw [Ii]; exact hi)=(R.getD i []).map Ma.ah:=by
  have EC:i<R.length:=by rw [hc.iN]; exact hi
  rw [List.getElem_map,dO EC]
 rw [Ia] at hu;obtain ⟨va,vc,rfl,-⟩:=hu.shape;rw [List.length_map,hc.len i hi] at oC hu;rw [tG,Ii];exact ⟨ob,oo,oc,rb,ro,rc,rfl,rfl,⟨ua,uc,CL.mk oy tx,lT⟩,⟨va,vc,CL.mk oC KV,hu⟩⟩

theorem OU (w:World):Rg.Ints w (.slice none 0 0) []:=(show FP (fun _=>True) w (.slice none 0 0) [] from ⟨none,0,rfl,Nat.le_refl _,Nat.zero_le _,Nat.zero_le _,fun h=>absurd h (Nat.lt_irrefl 0)⟩).np
end
section
open Go.RowKit
open Go.Proofs.Cm (Gd Gr ar)
structure dM (w:World) (v:Value) (l:List Int):Prop where
 i:Rg.Ints w v l
theorem dM.p {w w':World} {v:Value} {l:List Int} (h:dM w v l) (hb:BE w w'):dM w' v l:=⟨h.i.p hb⟩
theorem dM.at {w:World} {lv:Value} {M:List Nat} (h:dM w lv (Ma.ah M)) (hM:M.length=D) (hD:1<=D):∃ b o c,lv=.slice (some ⟨b,o,none⟩) D c/\∀ i,i<D->CL w b (o+i) (.int .i64 ((M.getD i 0:Nat):Int)):=by
 obtain ⟨a,c,rfl,hc,hm,_,aP⟩:=Rg.NP.shape (show Rg.NP w lv M from h.i);obtain ⟨b,o,rfl,hb,hr⟩:=aP (by omega);refine ⟨b,o,c,by rw [hM],fun i hi=>⟨?_,hb⟩⟩;rw [List.getD_eq_getElem?_getD,List.getElem?_eq_getElem (show i<M.length by omega),Option.getD_some];exact hr i (by omega)
theorem fQ {w:World} {a:Option Addr} {c:Nat} {T:List (List Int)} (h:Rg.Rows w (.slice a n c) T) {i:Nat} (hi:i<T.length):∃ b o ua uc,a=some ⟨b,o,none⟩/\b<w.heap.size/\w.cell? ⟨b,o+i,none⟩=some (.slice ua T[i].length uc)/\Rg.Ints w (.slice ua T[i].length uc) T[i]:=by
 obtain ⟨a',c',e,-,-,-,hx⟩:=h.shape;simp only [Value.slice.injEq] at e;obtain ⟨rfl,rfl,rfl⟩:=e;obtain ⟨b,o,e1,e2,e3⟩:=hx (by omega);obtain ⟨u,h1,h2⟩:=e3 i hi;obtain ⟨ua,uc,e4,-⟩:=Rg.Ints.shape h2;subst e4;exact ⟨b,o,ua,uc,e1,e2,h1,h2⟩
theorem l7 {w:World} {a:Option Addr} {c:Nat} {l:List Int} (h:Rg.Ints w (.slice a n c) l) {k:Nat} (hk:k<l.length):∃ b o,a=some ⟨b,o,none⟩/\b<w.heap.size/\w.cell? ⟨b,o+k,none⟩=some (.int .i64 l[k]):=by
 obtain ⟨a',c',e,-,-,-,hx⟩:=h.shape;simp only [Value.slice.injEq] at e;obtain ⟨rfl,rfl,rfl⟩:=e;obtain ⟨b,o,e1,e2,e3⟩:=hx (by omega);exact ⟨b,o,e1,e2,e3 k hk⟩
structure gJ (w:World) (v:Value) (T:List (List Int)):Prop where
 r:Rg.Rows w v T
theorem gJ.p {w w':World} {v:Value} {T:List (List Int)} (h:gJ w v T) (hb:BE w w'):gJ w' v T:=⟨Rg.Rows.p h.r hb⟩
theorem l8 (hb:Below B W0 W) (hB:B<=W.heap.size) (hk:Rg.Kp M W X) (hM:∀ k,M k->B<=k):Below B W0 X :=
 hb.trans ⟨hk.os,hk.tape,hk.output,hk.size,fun k h=>hk.block k (Nat.lt_of_lt_of_le h hB) fun e=>Nat.lt_irrefl _ (Nat.lt_of_lt_of_le h (hM k e))⟩
theorem Dk {D:Nat} (h1:1<=D) (h2:D<=64):∀ {gs:List (List Nat)},(∀ s∈gs,Gd D s)->Ma.jF ((D:Nat):Int) (gs.map Ma.ah)=0
 | [],_=>rfl
 | s :: gs,h=>by
  have g:=h s (List.mem_cons_self ..);have e1:Ma.bY (Ma.ah s)=0:=Ma.nZ (by rw [Ma.aB,g.2]; exact h1) (by rw [Ma.aB,g.2]; exact h2) (Ma.uw g.1)
  have e2:((Ma.ah s).length:Int)=(D:Int):=by rw [Ma.aB,g.2]
  show (if Ma.bY (Ma.ah s)=0 then (if ((Ma.ah s).length:Int)=(D:Int) then Ma.jF (D:Int) (gs.map Ma.ah) else 10) else Ma.bY (Ma.ah s))=0;rw [if_pos e1,if_pos e2];exact Dk h1 h2 (fun x hx=>h x (List.mem_cons_of_mem _ hx))
theorem x_ (h1:1<=D) (h2:D<=64) (hl:gs.length<=4096) (h:∀ s∈gs,Gd D s):bK ((D:Nat):Int) (gs.map Ma.ah)=0:=by
 unfold bK;rw [if_pos (by omega),if_pos (by rw [List.length_map]; exact hl)];exact Dk h1 h2 h
theorem OV {w:World} {d:Nat} (h:pz w ((d:Nat):Int) (gs.map Ma.ah) cv 0) :
  ∃ oa on oc ra rn rc O R,cv=.agg #[.int .i64 ((d:Nat):Int),.slice oa on oc,.slice ra rn rc]/\bl w (.slice oa on oc) (.slice ra rn rc) (O.map Ma.ah) (R.map (List.map Ma.ah))/\ar d (Gr d (·∈gs)) O R:=by
 rcases h with ⟨h,_⟩ | ⟨_,n,gs',h1,h2,_,_,ov,rv,O,R,rfl,h3,h4,h5⟩
 ·exact absurd rfl h
 ·obtain rfl:d=n:=by omega
  obtain rfl:=dT h2;obtain ⟨oa,oc,rfl,-⟩:=h3.shape;obtain ⟨ra,rc,rfl⟩:=h4.shape;exact ⟨_,_,_,_,_,_,O,R,rfl,⟨h3,h4⟩,h5⟩
end
section
open Go.RowKit
open Go.Proofs.Ob
open Go.Proofs.Cm (Gd ap)
attribute [local irreducible] Go.Calls Go.wpList
theorem KZ (args:Array Value) (w:World):(callFunc 57 args).run Tryz.prog w=.ok (.enter 57 args) w:=by kernel_rfl
theorem R_ (args:Array Value) (w:World):(callFunc 58 args).run Tryz.prog w=.ok (.enter 58 args) w:=by kernel_rfl
theorem jX {n n':Int} {sx tP:Value} {oK:List (List Int)} {iQ:List (List (List Int))} {w:World} {b:Bool} (h1:bl w ov rv OO RR) (h2:bl w sx tP oK iQ) (hb:Hid (b=true↔(n=n'/\OO=oK/\RR=iQ))) :
  Calls Tryz.prog 13 #[.agg #[.int .i64 n,ov,rv],.agg #[.int .i64 n',sx,tP]] w fun e w'=>e=.returned (.bool b)/\BE w w':=by
 obtain ⟨oa,oc,rfl,_⟩:=h1.1.shape;obtain ⟨ra,rc,rfl⟩:=h1.2.shape;obtain ⟨oe,od,rfl,_⟩:=h2.1.shape;obtain ⟨re,rd,rfl⟩:=h2.2.shape
 have eQ:RR.length<=1000000000:=by
  obtain ⟨us,⟨_,_,_,_,_,h4,_⟩,h5,_⟩:=h1.2;have:us.length<=Rg.oY:=h4;unfold Rg.oY at this; omega
 have abL:iQ.length<=1000000000:=by
  obtain ⟨us,⟨_,_,_,_,_,h4,_⟩,h5,_⟩:=h2.2;have:us.length<=Rg.oY:=h4;unfold Rg.oY at this; omega
 have H1:=U h1;have H2:=U h2;have aN:=eA w (.int .i64 n) (.slice oa OO.length oc) (.slice ra RR.length rc);have nA:BE w (w.alloc (.cells #[.int .i64 n,.slice oa OO.length oc,.slice ra RR.length rc] 25)):=(Below.refl _ _).alloc (Nat.le_refl _) _;clear h1 h2
 go_enter Tryz.func13,Tryz.ntmps13
 obtain ⟨ca,OX⟩:∃ ca,w.heap.size=ca:=⟨_,rfl⟩;rw [OX] at aN;go_upto_region 0 with fail;refine c6<|k8 (Rg.aY _ _ rfl rfl) ?_;go_frame;rw [OX];generalize w.alloc (.cells #[.int .i64 n,.slice oa OO.length oc,.slice ra RR.length rc] 25)=w0 at *;have Ij:=eA w0 (.int .i64 n') (.slice oe oK.length od) (.slice re iQ.length rd);have dh:BE w0 (w0.alloc (.cells #[.int .i64 n',.slice oe oK.length od,.slice re iQ.length rd] 25)):=(Below.refl _ _).alloc (Nat.le_refl _) _;obtain ⟨cb,tV⟩:∃ cb,w0.heap.size=cb:=⟨_,rfl⟩;rw [tV] at Ij;refine k8 (Rg.aY _ _ rfl rfl) ?_;go_frame;rw [tV];refine k7 rfl ?_;go_frame;generalize w0.alloc (.cells #[.int .i64 n',.slice oe oK.length od,.slice re iQ.length rd] 25)=w1 at *;have fO:=U (Rg.acc nA dh);have A0:=U (aN.1.up dh);have A1:=U (aN.2.1.up dh);have A2:=U (aN.2.2.up dh);have B0:=U Ij.1;have B1:=U Ij.2.1;have B2:=U Ij.2.2;have zH:=U (gJ.mk (Rg.Rows.p H1.u.1 fO.u));have D_:=U (gJ.mk (Rg.Rows.p H2.u.1 fO.u));have HR1:=U (H1.u.2.p fO.u);have HR2:=U (H2.u.2.p fO.u);have K:=U (bi w1);clear aN Ij nA dh OX tV H1 H2
 by_cases hn:n=n'
 case neg =>
  have K7:=U (show b=false from by
   cases e:b with
   | false=>rfl
   | true=>exact absurd ((hb.u.1 e).1) (by assumption))
  go_upto_region 1 with fail;refine c6<|k8 (j4 (cT _ _))<|k8 (g7 (.int .i64 n) ⟨ca,0,none⟩ (af ((Below.cell (p:=⟨ca,0,none⟩) K.u A0.u.lt).trans A0.u.cell)))<|k8 (j4 (cT _ _))<|k8 (g7 (.int .i64 n') ⟨cb,0,none⟩ (af ((Below.cell (p:=⟨cb,0,none⟩) K.u B0.u.lt).trans B0.u.cell))) ?_;go_frame;refine k8 (g8 (.bool true) .neq (h:=aE _ (decide_eq_true hn)))<|k7 rfl<|f9 12<|f9 13<|f9 14 ?_;go_frame;refine f9 15<|f9 16<|f9 17<|k8 (i8 (.bool true))<|k7 rfl ?_;go_frame;refine f9 20<|f9 21<|f9 22<|f9 23<|f9 24 ?_;go_frame;refine f9 25<|f9 26<|k8 (i8 (.bool true)) ?_;go_frame;go_upto_region 2 with fail;refine c6<|k7 rfl ?_;go_frame;go_wp2;go_ret;exact ⟨by rw [K7.u]; rfl,Rg.acc fO.u K.u⟩
 case pos =>
  obtain ⟨bo,sD⟩:∃ t,Hid (decide (OO=oK)=t):=⟨_,U rfl⟩
  cases bo
  case false =>
   have ir:¬ OO=oK:=of_decide_eq_false sD.u
   have K7:=U (show b=false from by
    cases e:b with
    | false=>rfl
    | true=>exact absurd ((hb.u.1 e).2.1) (by assumption))
   go_upto_region 1 with fail;refine c6<|k8 (j4 (cT _ _))<|k8 (g7 (.int .i64 n) ⟨ca,0,none⟩ (af ((Below.cell (p:=⟨ca,0,none⟩) K.u A0.u.lt).trans A0.u.cell)))<|k8 (j4 (cT _ _))<|k8 (g7 (.int .i64 n') ⟨cb,0,none⟩ (af ((Below.cell (p:=⟨cb,0,none⟩) K.u B0.u.lt).trans B0.u.cell))) ?_;go_frame;refine k8 (g8 (.bool false) .neq (h:=aE _ (decide_eq_false (fun h=>h hn))))<|k7 rfl<|k8 (j4 (cp _ _))<|k8 (g7 (.slice oa OO.length oc) ⟨ca,1,none⟩ (Rg.ae _ _ Tryz.underlying22 ((Below.cell (p:=⟨ca,1,none⟩) K.u A1.u.lt).trans A1.u.cell)))<|k8 (j4 (cp _ _)) ?_;go_frame;refine k8 (g7 (.slice oe oK.length od) ⟨cb,1,none⟩ (Rg.ae _ _ Tryz.underlying22 ((Below.cell (p:=⟨cb,1,none⟩) K.u B1.u.lt).trans B1.u.cell))) ?_;go_frame;refine eL (some 16) rfl rfl _ _ (ax 57 _ _ _ rfl rfl rfl (KZ _ _)) ?_;refine (pA (zH.u.p K.u).r (D_.u.p K.u).r sD).mono ?_;rintro e1 jD ⟨rfl,hb⟩;refine ⟨_,rfl,?_⟩;go_frame;replace K:=U (Rg.acc K.u hb);clear hb;refine k8 (bw _ _ false rfl rfl)<|k8 (i7 (.bool true))<|k7 rfl<|f9 20<|f9 21 ?_;go_frame;refine f9 22<|f9 23<|f9 24<|f9 25<|f9 26 ?_;go_frame;refine k8 (i8 (.bool true)) ?_;go_frame;go_upto_region 2 with fail;refine c6<|k7 rfl ?_;go_frame;go_wp2;go_ret;exact ⟨by rw [K7.u]; rfl,Rg.acc fO.u K.u⟩
  case true =>
   have hoy:OO=oK:=of_decide_eq_true sD.u;have HOY:=U hoy;have HNY:=U hn
   by_cases hlen:RR.length=iQ.length
   case neg =>
    have iP:¬ RR=iQ:=fun e=>hlen (by rw [e])
    have K7:=U (show b=false from by
     cases e:b with
     | false=>rfl
     | true=>exact absurd ((hb.u.1 e).2.2) (by assumption))
    go_upto_region 1 with fail;refine c6<|k8 (j4 (cT _ _))<|k8 (g7 (.int .i64 n) ⟨ca,0,none⟩ (af ((Below.cell (p:=⟨ca,0,none⟩) K.u A0.u.lt).trans A0.u.cell)))<|k8 (j4 (cT _ _))<|k8 (g7 (.int .i64 n') ⟨cb,0,none⟩ (af ((Below.cell (p:=⟨cb,0,none⟩) K.u B0.u.lt).trans B0.u.cell))) ?_;go_frame;refine k8 (g8 (.bool false) .neq (h:=aE _ (decide_eq_false (fun h=>h hn))))<|k7 rfl<|k8 (j4 (cp _ _))<|k8 (g7 (.slice oa OO.length oc) ⟨ca,1,none⟩ (Rg.ae _ _ Tryz.underlying22 ((Below.cell (p:=⟨ca,1,none⟩) K.u A1.u.lt).trans A1.u.cell)))<|k8 (j4 (cp _ _)) ?_;go_frame;refine k8 (g7 (.slice oe oK.length od) ⟨cb,1,none⟩ (Rg.ae _ _ Tryz.underlying22 ((Below.cell (p:=⟨cb,1,none⟩) K.u B1.u.lt).trans B1.u.cell))) ?_;go_frame;refine eL (some 16) rfl rfl _ _ (ax 57 _ _ _ rfl rfl rfl (KZ _ _)) ?_;refine (pA (zH.u.p K.u).r (D_.u.p K.u).r sD).mono ?_;rintro e1 w33 ⟨rfl,hb⟩;refine ⟨_,rfl,?_⟩;go_frame;replace K:=U (Rg.acc K.u hb);clear hb;refine k8 (bw _ _ true rfl rfl)<|k8 (i7 (.bool false))<|k7 rfl<|k8 (j4 (cJ _ _))<|k8 (g7 (.slice ra RR.length rc) ⟨ca,2,none⟩ (Rg.ae _ _ Tryz.underlying23 ((Below.cell (p:=⟨ca,2,none⟩) K.u A2.u.lt).trans A2.u.cell))) ?_;go_frame;refine k8 (g9 Tryz.underlying23)<|k8 (j4 (cJ _ _))<|k8 (g7 (.slice re iQ.length rd) ⟨cb,2,none⟩ (Rg.ae _ _ Tryz.underlying23 ((Below.cell (p:=⟨cb,2,none⟩) K.u B2.u.lt).trans B2.u.cell)))<|k8 (g9 Tryz.underlying23)<|k8 (g8 (.bool true) .neq (h:=aE _ f7)) ?_;go_frame;refine k8 (i7 (.bool true)) ?_;go_frame;go_upto_region 2 with fail;refine c6<|k7 rfl ?_;go_frame
    go_wp2;go_ret;exact ⟨by rw [K7.u]; rfl,Rg.acc fO.u K.u⟩
   case pos =>
    have G1:=U hlen;have mh:RR.length<=iQ.length:=Nat.le_of_eq hlen;have qt:iQ.length<=RR.length:=Nat.le_of_eq hlen.symm;go_upto_region 1 with fail;refine c6<|k8 (j4 (cT _ _))<|k8 (g7 (.int .i64 n) ⟨ca,0,none⟩ (af ((Below.cell (p:=⟨ca,0,none⟩) K.u A0.u.lt).trans A0.u.cell)))<|k8 (j4 (cT _ _))<|k8 (g7 (.int .i64 n') ⟨cb,0,none⟩ (af ((Below.cell (p:=⟨cb,0,none⟩) K.u B0.u.lt).trans B0.u.cell))) ?_;go_frame;refine k8 (g8 (.bool false) .neq (h:=aE _ (decide_eq_false (fun h=>h hn))))<|k7 rfl<|k8 (j4 (cp _ _))<|k8 (g7 (.slice oa OO.length oc) ⟨ca,1,none⟩ (Rg.ae _ _ Tryz.underlying22 ((Below.cell (p:=⟨ca,1,none⟩) K.u A1.u.lt).trans A1.u.cell)))<|k8 (j4 (cp _ _)) ?_;go_frame;refine k8 (g7 (.slice oe oK.length od) ⟨cb,1,none⟩ (Rg.ae _ _ Tryz.underlying22 ((Below.cell (p:=⟨cb,1,none⟩) K.u B1.u.lt).trans B1.u.cell))) ?_;go_frame;refine eL (some 16) rfl rfl _ _ (ax 57 _ _ _ rfl rfl rfl (KZ _ _)) ?_;refine (pA (zH.u.p K.u).r (D_.u.p K.u).r sD).mono ?_;rintro e1 w54 ⟨rfl,hb⟩;refine ⟨_,rfl,?_⟩;go_frame;replace K:=U (Rg.acc K.u hb);clear hb;refine k8 (bw _ _ true rfl rfl)<|k8 (i7 (.bool false))<|k7 rfl<|k8 (j4 (cJ _ _))<|k8 (g7 (.slice ra RR.length rc) ⟨ca,2,none⟩ (Rg.ae _ _ Tryz.underlying23 ((Below.cell (p:=⟨ca,2,none⟩) K.u A2.u.lt).trans A2.u.cell))) ?_;go_frame;refine k8 (g9 Tryz.underlying23)<|k8 (j4 (cJ _ _))<|k8 (g7 (.slice re iQ.length rd) ⟨cb,2,none⟩ (Rg.ae _ _ Tryz.underlying23 ((Below.cell (p:=⟨cb,2,none⟩) K.u B2.u.lt).trans B2.u.cell)))<|k8 (g9 Tryz.underlying23)<|k8 (g8 (.bool false) .neq (h:=aE _ f8)) ?_;go_frame
    refine k8 (i7 (.bool false)) ?_;go_frame;go_upto_region 3 with fail;refine c6<|j7 rfl ?_;go_frame;have EF:=U (show ∀ j (h:j<RR.length) (h':j<iQ.length),j<0->RR[j]=iQ[j] from fun j _ _ h=>absurd h (Nat.not_lt_zero _));clear hlen hoy hn;go_wp2
    go_loopw [5] (fun iv wr=>∃ i:Nat,iv=.int .i64 ((i:Nat):Int)/\i<=RR.length/\Hid (∀ j (h:j<RR.length) (h':j<iQ.length),j<i->RR[j]=iQ[j])/\Hid (BE w1 wr)) (fun iv _=>RR.length - (intOf iv).toNat)
    case atStart=>exact ⟨0,rfl,Nat.zero_le _,EF,K⟩
    case round =>
     clear EF K;obtain ⟨i,rfl,hi,EF,K⟩:=hrel;generalize wr=wd at *
     by_cases K8:i<RR.length
     case neg =>
      have HBT:=U (show b=true from hb.u.2 ⟨HNY.u,HOY.u,List.ext_getElem G1.u fun j h h'=>EF.u j h h' (by omega)⟩);go_upto_region 4 with fail;refine c6<|j7 rfl<|k8 (j4 (cJ _ _))<|k8 (g7 (.slice ra RR.length rc) ⟨ca,2,none⟩ (Rg.ae _ _ Tryz.underlying23 ((Below.cell (p:=⟨ca,2,none⟩) K.u A2.u.lt).trans A2.u.cell)))<|k8 (g9 Tryz.underlying23) ?_;go_frame;refine k8 (g8 (.bool false) .lss (h:=aI _ f8)) ?_;go_frame;go_upto_region 8 with fail;refine c6<|k7 rfl ?_;go_frame;go_wp2;go_ret;exact ⟨by rw [HBT.u]; rfl,Rg.acc fO.u K.u⟩
     case pos =>
      have BI:=U K8
      have Sa:i<iQ.length:=by omega
      have WO:=U Sa;obtain ⟨xb,xo,e1,xlt,u1,uE,cA⟩:=HR1.u.Oo K8;subst e1;obtain ⟨yb,yo,e1,ylt,u2,p7,ig⟩:=HR2.u.Oo Sa;subst e1;obtain ⟨x,hx⟩:∃ x,Hid (RR[i]'K8=x):=⟨_,U rfl⟩;obtain ⟨y,hy⟩:∃ x,Hid (iQ[i]'Sa=x):=⟨_,U rfl⟩;rw [hx.u] at cA;rw [hy.u] at ig;obtain ⟨pa,pc,rfl,_⟩:=cA.shape;obtain ⟨pb,pd,rfl,_⟩:=ig.shape;have CX:=U (CL.mk uE xlt);have CY:=U (CL.mk p7 ylt);have RX:=U (gJ.mk cA);have RY:=U (gJ.mk ig);obtain ⟨t,ht⟩:∃ t,Hid (decide (x=y)=t):=⟨_,U rfl⟩;clear uE p7 cA ig xlt ylt
      cases t
      case false =>
       have K7:=U (show b=false from by
        cases e:b with
        | false=>rfl
        | true =>
         have h5:=(hb.u.1 e).2.2;subst h5;rw [hx.u] at hy
         exact absurd hy.u (of_decide_eq_false ht.u))
       go_upto_region 4 with fail;refine c6<|j7 rfl<|k8 (j4 (cJ _ _))<|k8 (g7 (.slice (some ⟨xb,xo,none⟩) RR.length rc) ⟨ca,2,none⟩ (Rg.ae _ _ Tryz.underlying23 ((Below.cell (p:=⟨ca,2,none⟩) K.u A2.u.lt).trans A2.u.cell)))<|k8 (g9 Tryz.underlying23) ?_;go_frame;refine k8 (g8 (.bool true) .lss (h:=aI _ f7)) ?_;go_frame;go_upto_region 6 with fail;have aj:BE wd wd.drew:=(Below.refl _ _).drew;replace K:=U (Rg.acc K.u aj);clear aj;refine Rg.Any.begin (S:=Rg.aK 11 (fun _=>True) (fun W=>BE w1 W)) mix ?_;generalize wd.drew=w85 at *;have hS:∀ (l:Array Bool) W,BE w1 W->Rg.aK 11 (fun _=>True) (fun W=>BE w1 W) l W:=fun l W h=>⟨.inr trivial,h⟩;have hI:=K.u;refine d7 0 11 (.pointer (some ⟨ca,2,none⟩)) 35 rfl rfl (j3 fun w=>aw _ rfl rfl (cJ _ _)) (hS _ _ hI)<|d7 1 11 (.slice (some ⟨xb,xo,none⟩) RR.length rc) 36 rfl rfl (j2 ⟨ca,2,none⟩ (fun W hW=>Rg.ae _ _ Tryz.underlying23 ((Below.cell (p:=⟨ca,2,none⟩) hW A2.u.lt).trans A2.u.cell))) (hS _ _ hI)<|d8 2 11 (.int .i64 (i:Int)) 37 (hS _ _ hI)<|d7 3 11 (.pointer (some ⟨xb,xo+i,none⟩)) 38 rfl rfl (Rg.ai bG _ _ rfl rfl xb (xo) (RR.length) rc (i) rfl rfl BI.u) (hS _ _ hI)<|d7 4 11 (.slice pa x.length pc) 39 rfl rfl (j2 ⟨xb,xo+i,none⟩ (fun W hW=>Rg.ae _ _ Tryz.underlying41 ((Below.cell (p:=⟨xb,xo+i,none⟩) hW CX.u.lt).trans CX.u.cell))) (hS _ _ hI) ?_;go_frame;refine d7 5 11 (.pointer (some ⟨cb,2,none⟩)) 40 rfl rfl (j3 fun w=>aw _ rfl rfl (cJ _ _)) (hS _ _ hI)<|d7 6 11 (.slice (some ⟨yb,yo,none⟩) iQ.length rd) 41 rfl rfl (j2 ⟨cb,2,none⟩ (fun W hW=>Rg.ae _ _ Tryz.underlying23 ((Below.cell (p:=⟨cb,2,none⟩) hW B2.u.lt).trans B2.u.cell))) (hS _ _ hI)<|d8 7 11 (.int .i64 (i:Int)) 42 (hS _ _ hI)<|d7 8 11 (.pointer (some ⟨yb,yo+i,none⟩)) 43 rfl rfl (Rg.ai bG _ _ rfl rfl yb (yo) (iQ.length) rd (i) rfl rfl WO.u) (hS _ _ hI)<|d7 9 11 (.slice pb y.length pd) 44 rfl rfl (j2 ⟨yb,yo+i,none⟩ (fun W hW=>Rg.ae _ _ Tryz.underlying41 ((Below.cell (p:=⟨yb,yo+i,none⟩) hW CY.u.lt).trans CY.u.cell))) (hS _ _ hI) ?_;go_frame
       refine Rg.Any.one (i:=10) (by kernel_rfl) (Rg.Any.ask (some 45) rfl rfl rfl _ _ (ax 58 _ _ _ rfl rfl rfl (R_ _ _)) ?_);refine (uQ (RX.u.p hI).r (RY.u.p hI).r ht).mono ?_;rintro e1 w86 ⟨rfl,hb⟩;have br:=Rg.acc hI hb;have dH:=hb;clear hb hI;refine ⟨_,rfl,(hS _ _ br),?_⟩;go_frame;refine j1 11 46 rfl rfl (bw _ _ false rfl rfl) (hS _ _ br) ?_;go_frame;refine Rg.Any.done (by kernel_rfl) ?_ _;replace K:=U br;clear hS br dH;go_upto_region 7 with fail;refine c6<|k7 rfl ?_;go_frame;go_wp2;go_ret;exact ⟨by rw [K7.u]; rfl,Rg.acc fO.u K.u⟩
      case true =>
       have Bz:=U (show ∀ j (h:j<RR.length) (h':j<iQ.length),j<i+1->RR[j]=iQ[j] from fun j h h' hj=>by
        by_cases e:j=i
        ·subst e; rw [hx.u,hy.u]; exact of_decide_eq_true ht.u
        ·exact EF.u j h h' (by omega))
       go_upto_region 4 with fail;refine c6<|j7 rfl<|k8 (j4 (cJ _ _))<|k8 (g7 (.slice (some ⟨xb,xo,none⟩) RR.length rc) ⟨ca,2,none⟩ (Rg.ae _ _ Tryz.underlying23 ((Below.cell (p:=⟨ca,2,none⟩) K.u A2.u.lt).trans A2.u.cell)))<|k8 (g9 Tryz.underlying23) ?_;go_frame;refine k8 (g8 (.bool true) .lss (h:=aI _ f7)) ?_;go_frame;go_upto_region 6 with fail;have aj:BE wd wd.drew:=(Below.refl _ _).drew;replace K:=U (Rg.acc K.u aj);clear aj;refine Rg.Any.begin (S:=Rg.aK 11 (fun _=>True) (fun W=>BE w1 W)) mix ?_;generalize wd.drew=aaW at *;have hS:∀ (l:Array Bool) W,BE w1 W->Rg.aK 11 (fun _=>True) (fun W=>BE w1 W) l W:=fun l W h=>⟨.inr trivial,h⟩;have hI:=K.u;refine d7 0 11 (.pointer (some ⟨ca,2,none⟩)) 35 rfl rfl (j3 fun w=>aw _ rfl rfl (cJ _ _)) (hS _ _ hI)<|d7 1 11 (.slice (some ⟨xb,xo,none⟩) RR.length rc) 36 rfl rfl (j2 ⟨ca,2,none⟩ (fun W hW=>Rg.ae _ _ Tryz.underlying23 ((Below.cell (p:=⟨ca,2,none⟩) hW A2.u.lt).trans A2.u.cell))) (hS _ _ hI)<|d8 2 11 (.int .i64 (i:Int)) 37 (hS _ _ hI)<|d7 3 11 (.pointer (some ⟨xb,xo+i,none⟩)) 38 rfl rfl (Rg.ai bG _ _ rfl rfl xb (xo) (RR.length) rc (i) rfl rfl BI.u) (hS _ _ hI)<|d7 4 11 (.slice pa x.length pc) 39 rfl rfl (j2 ⟨xb,xo+i,none⟩ (fun W hW=>Rg.ae _ _ Tryz.underlying41 ((Below.cell (p:=⟨xb,xo+i,none⟩) hW CX.u.lt).trans CX.u.cell))) (hS _ _ hI) ?_;go_frame;refine d7 5 11 (.pointer (some ⟨cb,2,none⟩)) 40 rfl rfl (j3 fun w=>aw _ rfl rfl (cJ _ _)) (hS _ _ hI)<|d7 6 11 (.slice (some ⟨yb,yo,none⟩) iQ.length rd) 41 rfl rfl (j2 ⟨cb,2,none⟩ (fun W hW=>Rg.ae _ _ Tryz.underlying23 ((Below.cell (p:=⟨cb,2,none⟩) hW B2.u.lt).trans B2.u.cell))) (hS _ _ hI)<|d8 7 11 (.int .i64 (i:Int)) 42 (hS _ _ hI)<|d7 8 11 (.pointer (some ⟨yb,yo+i,none⟩)) 43 rfl rfl (Rg.ai bG _ _ rfl rfl yb (yo) (iQ.length) rd (i) rfl rfl WO.u) (hS _ _ hI)<|d7 9 11 (.slice pb y.length pd) 44 rfl rfl (j2 ⟨yb,yo+i,none⟩ (fun W hW=>Rg.ae _ _ Tryz.underlying41 ((Below.cell (p:=⟨yb,yo+i,none⟩) hW CY.u.lt).trans CY.u.cell))) (hS _ _ hI) ?_;go_frame
       refine Rg.Any.one (i:=10) (by kernel_rfl) (Rg.Any.ask (some 45) rfl rfl rfl _ _ (ax 58 _ _ _ rfl rfl rfl (R_ _ _)) ?_);refine (uQ (RX.u.p hI).r (RY.u.p hI).r ht).mono ?_;rintro e1 abM ⟨rfl,hb⟩;have bE:=Rg.acc hI hb;have cM:=hb;clear hb hI;refine ⟨_,rfl,(hS _ _ bE),?_⟩;go_frame;refine j1 11 46 rfl rfl (bw _ _ true rfl rfl) (hS _ _ bE) ?_;go_frame;refine Rg.Any.done (by kernel_rfl) ?_ _;replace K:=U bE;clear hS bE cM;go_upto_region 5 with fail;refine c6<|j7 rfl<|k8 (g8 (.int .i64 (((i+1):Nat):Int)) .add (h:=bD _ (by omega) (by omega)))<|j7 rfl ?_;go_frame;go_wp2;go_roundw
       case rel=>exact ⟨i+1,by go_num,BI.u,Bz,K⟩
       case measure=>simp [intOf]; have:=BI.u; omega
end
section
open Go.RowKit
open Go.Proofs.Ob
open Go.Proofs.Cm (Gd)
attribute [local irreducible] Go.Calls Go.wpList
theorem gi.up {w:World} {g:Nat} {f:Nat->Int} (h:gi w g n f) (hb:BE w w'):gi w' g n f:=h.p hb
def GM (tk gb rb z:Nat):Prop:=z=tk∨z=gb∨z=rb
structure bW (B:Nat) (F M:Nat->Prop) (W:World) (v:Value) (l:List (List Nat)):Prop where
 size:B<=W.heap.size
 own:∃ us,W.ownsRow B 27 1 v l.length us/\Rg.bR F W us (l.map Ma.ah)
 off:∀ k,v.ownBlock=some k->¬ F k/\¬ M k
theorem bW.lt {B:Nat} {F M:Nat->Prop} {W:World} {v:Value} {l:List (List Nat)} (h:bW B F M W v l):∀ k,v.ownBlock=some k->B<=k/\k<W.heap.size:=fun k e=>by
 obtain ⟨us,h1,h2⟩:=h.own;exact h1.lt k e
theorem bW.shape {l:List (List Nat)} (h:bW B F M W v l):∃ a c,v=.slice a l.length c:=by
 obtain ⟨us,h1,h2⟩:=h.own;exact Rg.cQ h1
theorem bW.nil (B:Nat) (F M:Nat->Prop) (W:World) (hB:B<=W.heap.size):bW B F M W (.slice none 0 0) [] :=
 ⟨hB,⟨[],World.ownsRow_nil _ _ _ _,Rg.bR.nil _ _⟩,fun k e=>by simp [Value.ownBlock] at e⟩
theorem bW.rows {l:List (List Nat)} (h:bW B F M W v l) (hl:l.length<=1000000000):Rg.Rows W v (l.map Ma.ah):=by
 obtain ⟨us,h1,h2⟩:=h.own;exact Rg.Rows.cV h1 hl h2.1 (fun i a b=>(h2.2 i a b).ints)
theorem bW.kp {B:Nat} {F M N:Nat->Prop} {W W':World} {v:Value} {l:List (List Nat)} (h:bW B F M W v l) (hk:Rg.Kp N W W') (hF:∀ k,F k->¬ N k) (hN:∀ k,v.ownBlock=some k->¬ N k):bW B F M W' v l:=by
 obtain ⟨us,h1,h2⟩:=h.own;exact ⟨Nat.le_trans h.size hk.size,⟨us,im h1 hk (fun k hn e=>hN k e hn),h2.kp hk hF⟩,h.off⟩
theorem bW.upk {N:Nat->Prop} {l:List (List Nat)} (h:bW B F M W v l) (hk:Rg.Kp N W W') (hF:∀ k,F k->¬ N k) (hN:∀ k,N k->M k):bW B (cE F W W') M W' v l:=by
 obtain ⟨us,h1,h2⟩:=h.own;refine ⟨Nat.le_trans h.size hk.size,⟨us,im h1 hk (fun k hn e=>(h.off k e).2 (hN k hn)),(h2.kp hk hF).mono fun k=>.inl⟩,fun k e=>⟨fun g=>?_,(h.off k e).2⟩⟩;have:=(h.lt k e).2
 rcases g with g | g
 ·exact (h.off k e).1 g
 ·omega
theorem bW.push {l:List (List Nat)} (h:bW B F M W v l) {u:Value} {x:List Nat} (hu:FP F W u x) (hs:∃ a m c,u=.slice a m c) (hF:∀ k,F k->k<W.heap.size) (hM:∀ k,M k->k<W.heap.size) (hn:l.length<1000000) (ty:TypeId) :
  ∃ a c X,(Builtin.append_ #[41,41] ty #[v,.slice (some ⟨W.heap.size,0,none⟩) 1 1]).run Tryz.prog (W.alloc (.cells #[u] 27))=.ok (.slice a (l.length+1) c) X/\bW B F M X (.slice a (l.length+1) c) (l++[x])/\Rg.Kp (fun k=>v.ownBlock=some k) W X:=by
 obtain ⟨us,h1,h2⟩:=h.own;obtain ⟨a0,m0,c0,rfl⟩:=hs;have hb:BE W (W.alloc (.cells #[.slice a0 m0 c0] 27)):=(Below.refl _ _).alloc (Nat.le_refl _) _;obtain ⟨v',X,r1,r2,r3,r4,a,c,rfl⟩:=fe (P:=Tryz.prog) aM ty (Rg.bP h1 hb) (Nat.le_trans h.size hb.size) W.heap.size 1 (u:=.slice a0 m0 c0) (by rw [Rg.aW]; rfl) rfl hn;have hk:Rg.Kp (fun k=>v.ownBlock=some k) W X:=Rg.Kp.trans (M:=fun k=>v.ownBlock=some k) ((Rg.Kp.aD hb).gS fun _=>False.elim) (Rg.Kp.cC r3 fun _ e=>e) (fun _ _ e=>e);have hg:∀ k,F k->¬ v.ownBlock=some k:=fun k g e=>(h.off k e).1 g;refine ⟨a,c,X,r1,⟨Nat.le_trans h.size hk.size,⟨us++[.slice a0 m0 c0],by rw [List.length_append]; exact r2,by rw [List.map_append]; exact bR.snoc (h2.kp hk hg) (Rg.FI.kp hu hk hg)⟩,fun k e=>?_⟩,hk⟩
 rcases r4 with r4 | r4
 ·exact h.off k (by rw [<- r4]; exact e)
 ·rw [r4] at e
  injection e with e
  have e2:(W.alloc (.cells #[.slice a0 m0 c0] 27)).heap.size=W.heap.size+1:=by simp
  exact ⟨fun g=>by have:=hF _ g; omega,fun g=>by have:=hM _ g; omega⟩
theorem bW.fr {l:List (List Nat)} (h:bW B F M W v l) (hl:l.length<=1000000000) (hF:∀ z,F z->B<=z):Rg.aL (fun z=>B<=z) W v (l.map Ma.ah):=by
 obtain ⟨us,h1,h2⟩:=h.own;exact ⟨us,Rg.cK.of (Rg.cH.cV h1 hl) (fun k e=>(h.lt k e).1),h2.mono hF⟩
end
section
open Go.RowKit
open Go.Proofs.Ob
open Go.Proofs.Cm (Gd ap Gr ar)
attribute [local irreducible] Go.Calls Go.wpList
theorem Yz (args:Array Value) (w:World):(callFunc 115 args).run Tryz.prog w=.ok (.enter 115 args) w:=by kernel_rfl
theorem Ag (args:Array Value) (w:World):(callFunc 13 args).run Tryz.prog w=.ok (.enter 13 args) w:=by kernel_rfl
theorem tW {n:Int} (h:1<=n/\n<=64) (hk:¬ fF n OO RR):bI n OO RR=3:=by unfold bI; rw [if_pos h,if_neg hk]
theorem yd {n:Int} (h:¬ (1<=n/\n<=64)):bI n OO RR=2:=by unfold bI; rw [if_neg h]
theorem Sb {w:World} (h:Rg.Rows w v ll) {i:Nat} (hi:i<ll.length):∃ u,Rg.Ints w u ll[i]:=by
 obtain ⟨us,_,h2,h3⟩:=h;exact ⟨_,h3 i (by omega) hi⟩
structure Ah (w W:World) (v:Value) (gs:List (List Nat)):Prop where
 cU:BE w W
 row:bW w.heap.size (fun z=>z<w.heap.size) (fun _=>False) W v gs
theorem Ah.nil {w W:World} (h:BE w W):Ah w W (.slice none 0 0) []:=⟨h,bW.nil _ _ _ _ h.size⟩
theorem Ah.p {w:World} (h:Ah w W v gs) (hb:BE W W'):Ah w W' v gs :=
 ⟨Rg.acc h.cU hb,h.row.kp (N:=fun _=>False) (Rg.Kp.aD hb) (fun _ _=>id) (fun _ _=>id)⟩
theorem Ah.push {w W:World} {v u:Value} {gs:List (List Nat)} {x:List Nat} (h:Ah w W v gs) (hu:Rg.NP w u x) (hs:∃ a m c,u=.slice a m c) (hT:gs.length<1000000) (ty:TypeId) :
  ∃ a c Y,(Builtin.append_ #[41,41] ty #[v,.slice (some ⟨W.heap.size,0,none⟩) 1 1]).run Tryz.prog (W.alloc (.cells #[u] 27))=.ok (.slice a (gs.length+1) c) Y/\Ah w Y (.slice a (gs.length+1) c) (gs++[x]):=by
 obtain ⟨a,c,Y,r1,r2,r3⟩:=h.row.push ((FP.zx hu).p h.cU) hs (fun k hk=>Nat.lt_of_lt_of_le hk h.cU.size) (fun _ e=>e.elim) hT ty;exact ⟨a,c,Y,r1,l8 h.cU h.cU.size r3 (fun k e=>(h.row.lt k e).1),r2⟩
theorem qZ {n:Int} {w:World} (h:bl w ov rv OO RR) :
  Calls Tryz.prog 80 #[.agg #[.int .i64 n,ov,rv]] w fun e w'=>e=.returned (.int .i64 (bI n OO RR))/\BE w w':=by
 obtain ⟨oa,oc,rfl,-,kX,-⟩:=h.1.shape;obtain ⟨ra,rc,rfl⟩:=h.2.shape
 have eQ:RR.length<=1000000000:=by
  obtain ⟨us,⟨_,_,_,_,_,h4,_⟩,h5,_⟩:=h.2;have:us.length<=Rg.oY:=h4;unfold Rg.oY at this; omega
 have H:=U h;have aN:=eA w (.int .i64 n) (.slice oa OO.length oc) (.slice ra RR.length rc);have hb:BE w (w.alloc (.cells #[.int .i64 n,.slice oa OO.length oc,.slice ra RR.length rc] 25)):=(Below.refl _ _).alloc (Nat.le_refl _) _;clear h
 go_enter Tryz.func80,Tryz.ntmps80
 obtain ⟨cb,tV⟩:∃ cb,w.heap.size=cb:=⟨_,rfl⟩;rw [tV] at aN;go_upto_region 0 with fail;refine c6<|k8 (Rg.aY _ _ rfl rfl)<|j7 rfl ?_;go_frame;rw [tV];clear tV;generalize w.alloc (.cells #[.int .i64 n,.slice oa OO.length oc,.slice ra RR.length rc] 25)=w0 at *;have A0:=U aN.1;have A1:=U aN.2.1;have A2:=U aN.2.2;have fO:=U hb;have HO:=U (Rg.Rows.p H.u.1 fO.u);have HR:=U (H.u.2.p fO.u);have K:=U (bi w0);clear aN hb H;go_upto_region 1 with fail;refine c6<|k8 (j4 (cT _ _))<|k8 (g7 (.int .i64 n) ⟨cb,0,none⟩ (af ((Below.cell (p:=⟨cb,0,none⟩) K.u A0.u.lt).trans A0.u.cell)))<|j7 rfl ?_;go_frame
 by_cases aU:n<1
 case pos =>
  have pK:=U (yd (OO:=OO) (RR:=RR) (fun h:1<=n/\n<=64=>by omega));go_upto_region 2 with fail;refine c6<|j7 rfl<|k8 (g8 (.bool true) .lss (h:=aI _ (decide_eq_true aU)))<|k7 rfl<|f9 14 ?_;go_frame;refine f9 15<|k8 (i8 (.bool true)) ?_;go_frame;go_upto_region 3 with fail;refine c6<|j7 rfl ?_;go_frame;go_wp2;go_ret;exact ⟨by rw [pK.u]; rfl,Rg.acc fO.u K.u⟩
 case neg =>
  by_cases aZ:64<n
  case pos =>
   have pK:=U (yd (OO:=OO) (RR:=RR) (fun h:1<=n/\n<=64=>by omega));go_upto_region 2 with fail;refine c6<|j7 rfl<|k8 (g8 (.bool false) .lss (h:=aI _ (decide_eq_false aU)))<|k7 rfl<|j7 rfl ?_;go_frame;refine k8 (g8 (.bool true) .gtr (h:=bA _ (decide_eq_true aZ)))<|k8 (i7 (.bool true)) ?_;go_frame;go_upto_region 3 with fail;refine c6<|j7 rfl ?_;go_frame;go_wp2;go_ret;exact ⟨by rw [pK.u]; rfl,Rg.acc fO.u K.u⟩
  case neg =>
   have HN:=U (show 1<=n/\n<=64 from by omega)
   by_cases tG:(OO.length:Int)=n
   case neg =>
    have pK:=U (tW HN.u (OO:=OO) (RR:=RR) (fun h=>tG h.lens.1));go_upto_region 2 with fail;refine c6<|j7 rfl<|k8 (g8 (.bool false) .lss (h:=aI _ (decide_eq_false aU)))<|k7 rfl<|j7 rfl ?_;go_frame;refine k8 (g8 (.bool false) .gtr (h:=bA _ (decide_eq_false aZ)))<|k8 (i7 (.bool false)) ?_;go_frame;go_upto_region 4 with fail;refine c6<|k8 (j4 (cp _ _))<|k8 (g7 (.slice oa OO.length oc) ⟨cb,1,none⟩ (Rg.ae _ _ Tryz.underlying22 ((Below.cell (p:=⟨cb,1,none⟩) K.u A1.u.lt).trans A1.u.cell)))<|k8 (g9 Tryz.underlying22)<|j7 rfl ?_;go_frame;refine k8 (g8 (.bool true) .neq (h:=aE _ (decide_eq_true tG)))<|k7 rfl<|f9 23<|f9 24<|f9 25 ?_;go_frame;refine f9 26<|f9 27<|k8 (i8 (.bool true)) ?_;go_frame;go_upto_region 5 with fail;refine c6<|j7 rfl ?_;go_frame;go_wp2;go_ret;exact ⟨by rw [pK.u]; rfl,Rg.acc fO.u K.u⟩
   case pos =>
    by_cases Ii:(RR.length:Int)=n
    case neg =>
     have pK:=U (tW HN.u (OO:=OO) (RR:=RR) (fun h=>Ii h.lens.2));go_upto_region 2 with fail;refine c6<|j7 rfl<|k8 (g8 (.bool false) .lss (h:=aI _ (decide_eq_false aU)))<|k7 rfl<|j7 rfl ?_;go_frame;refine k8 (g8 (.bool false) .gtr (h:=bA _ (decide_eq_false aZ)))<|k8 (i7 (.bool false)) ?_;go_frame;go_upto_region 4 with fail;refine c6<|k8 (j4 (cp _ _))<|k8 (g7 (.slice oa OO.length oc) ⟨cb,1,none⟩ (Rg.ae _ _ Tryz.underlying22 ((Below.cell (p:=⟨cb,1,none⟩) K.u A1.u.lt).trans A1.u.cell)))<|k8 (g9 Tryz.underlying22)<|j7 rfl ?_;go_frame;refine k8 (g8 (.bool false) .neq (h:=aE _ (decide_eq_false (fun h=>h tG))))<|k7 rfl<|k8 (j4 (cJ _ _))<|k8 (g7 (.slice ra RR.length rc) ⟨cb,2,none⟩ (Rg.ae _ _ Tryz.underlying23 ((Below.cell (p:=⟨cb,2,none⟩) K.u A2.u.lt).trans A2.u.cell)))<|k8 (g9 Tryz.underlying23) ?_;go_frame;refine j7 rfl<|k8 (g8 (.bool true) .neq (h:=aE _ (decide_eq_true Ii)))<|k8 (i7 (.bool true)) ?_;go_frame;go_upto_region 5 with fail;refine c6<|j7 rfl ?_;go_frame;go_wp2;go_ret;exact ⟨by rw [pK.u]; rfl,Rg.acc fO.u K.u⟩
    case pos =>
     obtain ⟨N,hN⟩:∃ N:Nat,RR.length=N:=⟨_,rfl⟩
     have hnN:n=(N:Int):=by omega
     subst hnN
     have YA:OO.length=N:=by omega
     have HON:=U YA;have YB:=U hN
     have eI:1<=N:=by omega
     have z8:N<=64:=by omega
     rw [YA] at A1 ⊢;rw [hN] at A2 ⊢;clear tG Ii YA hN aU aZ;go_upto_region 2 with fail;refine c6<|j7 rfl<|k8 (g8 (.bool false) .lss (h:=aI _ f8))<|k7 rfl<|j7 rfl ?_;go_frame;refine k8 (g8 (.bool false) .gtr (h:=bA _ f8))<|k8 (i7 (.bool false)) ?_;go_frame;go_upto_region 4 with fail;refine c6<|k8 (j4 (cp _ _))<|k8 (g7 (.slice oa N oc) ⟨cb,1,none⟩ (Rg.ae _ _ Tryz.underlying22 ((Below.cell (p:=⟨cb,1,none⟩) K.u A1.u.lt).trans A1.u.cell)))<|k8 (g9 Tryz.underlying22)<|j7 rfl ?_;go_frame;refine k8 (g8 (.bool false) .neq (h:=aE _ (decide_eq_false (fun h=>h rfl))))<|k7 rfl<|k8 (j4 (cJ _ _))<|k8 (g7 (.slice ra N rc) ⟨cb,2,none⟩ (Rg.ae _ _ Tryz.underlying23 ((Below.cell (p:=⟨cb,2,none⟩) K.u A2.u.lt).trans A2.u.cell)))<|k8 (g9 Tryz.underlying23) ?_;go_frame;refine j7 rfl<|k8 (g8 (.bool false) .neq (h:=aE _ (decide_eq_false (fun h=>h rfl))))<|k8 (i7 (.bool false)) ?_;go_frame;go_upto_region 6 with fail;refine c6<|j8 rfl ?_;go_frame;go_upto_region 7 with fail;refine c6<|j7 rfl ?_;go_frame;have CK:=U (Ah.nil K.u);have qF:=U (show ([]:List (List Nat)).map Ma.ah=(RR.take 0).flatten from by rw [List.take_zero]; rfl);have je:=U (show ∀ s∈([]:List (List Nat)),Gd N s from fun s hs=>(List.not_mem_nil hs).elim);have mR:=U (fun hk:¬ fF (N:Int) OO RR=>tW (OO:=OO) (RR:=RR) HN.u hk);clear K;go_wp2
     go_loopw [4,5] (fun lv iv wr=>∃ (i:Nat) (gs:List (List Nat)),iv=.int .i64 ((i:Nat):Int)/\i<=N/\Hid (Ah w0 wr lv gs)/\Hid (gs.map Ma.ah=(RR.take i).flatten)/\Hid (∀ s∈gs,Gd N s)/\Hid (gs.length<=i*64)) (fun _ iv _=>N - (intOf iv).toNat)
     case atStart=>exact ⟨0,[],rfl,Nat.zero_le _,CK,qF,je,U (Nat.zero_le _)⟩
     case round =>
      clear CK qF je;obtain ⟨i,gs,rfl,hi,CK,qF,je,BB⟩:=hrel;obtain ⟨la,lc,rfl⟩:=CK.u.row.shape;generalize wr=wd at *;have K:=U CK.u.cU
      have kE:gs.length<=4096:=by have:=BB.u; omega
      by_cases aS:i<N
      case neg =>
       have yD:i=N:=by omega
       have Ee:=U (show RR.flatten=gs.map Ma.ah by rw [qF.u,List.take_of_length_le (by rw [YB.u]; omega)]);have K9:=U (x_ eI z8 kE je.u);go_upto_region 8 with fail;refine c6<|j7 rfl<|j7 rfl<|k8 (g8 (.bool false) .lss (h:=aI _ f8)) ?_;go_frame;go_upto_region 18 with fail;refine c6<|j8 rfl<|k8 (g9 Tryz.underlying41)<|k8 (g8 (.bool false) .gtr (h:=bA _ f8)) ?_;go_frame;have LR:=U (gJ.mk (CK.u.row.rows (by omega)));have C0:=U (A0.u.up K.u);have C1:=U (A1.u.up K.u);have C2:=U (A2.u.up K.u);have HC:=U (show bl wd (.slice oa N oc) (.slice ra N rc) OO RR from ⟨by have h5:=Rg.Rows.p HO.u K.u; rwa [HON.u] at h5,by have h5:=HR.u.p K.u; rwa [YB.u] at h5⟩);clear CK;go_upto_region 20 with fail;refine c6<|j7 rfl<|j8 rfl ?_;go_frame;refine f4 107 (ax 115 _ _ _ rfl rfl rfl (Yz _ _)) ?_;refine (Kn _ (N:Int) (gs.map Ma.ah) wd LR.u.r).mono ?_;rintro e1 xj ⟨cv,rfl,hcv,hb⟩;rw [K9.u] at hcv ⊢;obtain ⟨q6,q7,oH,q8,q9,q_,O2,R2,rfl,hce,qT⟩:=OV hcv.Ou;have JR:=U qT;clear hcv qT;refine ⟨_,rfl,?_⟩;go_frame;replace LR:=U (LR.u.p hb);replace C0:=U (C0.u.p hb);replace C1:=U (C1.u.p hb);replace C2:=U (C2.u.p hb);replace HC:=U (HC.u.p hb);replace K:=U (Rg.acc K.u hb);clear hb;have E2:=U hce;refine j6 (.tuple #[(.agg #[.int .i64 (N:Int),.slice q6 q7 oH,.slice q8 q9 q_]),.int .i64 0]) rfl<|k8 (i9 ((.agg #[.int .i64 (N:Int),.slice q6 q7 oH,.slice q8 q9 q_])))<|k8 (i9 (.int .i64 0))<|k8 (bj rfl)<|Rg.aG none rfl rfl (Rg.ak _ _ _ rfl _ rfl _ rfl (aJ _ _ _ _ _ _ _ (cj.new xj (.int .i64 0) (.slice none 0 0) (.slice none 0 0)))) ?_;go_frame
       have jf:=(cj.new xj (.int .i64 0) (.slice none 0 0) (.slice none 0 0)).set (.int .i64 (N:Int)) (.slice q6 q7 oH) (.slice q8 q9 q_);have hb:=(((be xj (.cells #[.int .i64 0,.slice none 0 0,.slice none 0 0] 25)).setCell (p:=⟨xj.heap.size,0,none⟩) (Nat.le_refl _) (.int .i64 (N:Int))).setCell (p:=⟨xj.heap.size,1,none⟩) (Nat.le_refl _) (.slice q6 q7 oH)).setCell (p:=⟨xj.heap.size,2,none⟩) (Nat.le_refl _) (.slice q8 q9 q_);generalize (((xj.alloc (.cells #[.int .i64 0,.slice none 0 0,.slice none 0 0] 25)).setCell ⟨xj.heap.size,0,none⟩ (.int .i64 (N:Int))).setCell ⟨xj.heap.size,1,none⟩ (.slice q6 q7 oH)).setCell ⟨xj.heap.size,2,none⟩ (.slice q8 q9 q_)=w53 at *;replace LR:=U (LR.u.p hb);replace C0:=U (C0.u.p hb);replace C1:=U (C1.u.p hb);replace C2:=U (C2.u.p hb);replace HC:=U (HC.u.p hb);replace E2:=U (E2.u.p hb);replace K:=U (Rg.acc K.u hb);clear hb;have TD:=U jf;clear jf;refine j7 rfl ?_;go_frame;clear hce;obtain ⟨bb,nA⟩:∃ t,Hid (decide (OO=O2.map Ma.ah/\RR=R2.map (List.map Ma.ah))=t):=⟨_,U rfl⟩;have vB:=U (fF.same (OO:=OO) eI z8 je.u Ee.u JR.u)
       have Vo:Hid (bb=true↔((N:Int)=(N:Int)/\OO=O2.map Ma.ah/\RR=R2.map (List.map Ma.ah))):=U (by
        rw [<- nA.u,decide_eq_true_iff]
        exact ⟨fun h=>⟨rfl,h⟩,fun h=>h.2⟩)
       cases bb
       case false =>
        have pK:=U (mR.u (fun h=>Bool.false_ne_true (Vo.u.2 ⟨rfl,vB.u.1 h⟩)));go_upto_region 21 with fail;refine c6<|k8 (g7 ((.agg #[.int .i64 (N:Int),.slice oa N oc,.slice ra N rc])) ⟨cb,0,none⟩ (aC C0.u.cell C1.u.cell C2.u.cell))<|k8 (g7 ((.agg #[.int .i64 (N:Int),.slice q6 q7 oH,.slice q8 q9 q_])) ⟨xj.heap.size,0,none⟩ (aC TD.u.c0 TD.u.c1 TD.u.c2)) ?_;go_frame;refine f4 112 (ax 13 _ _ _ rfl rfl rfl (Ag _ _)) ?_;refine (jX HC.u E2.u Vo).mono ?_;rintro e1 w54 ⟨rfl,hb⟩;refine ⟨_,rfl,?_⟩;go_frame;replace LR:=U (LR.u.p hb);replace C0:=U (C0.u.p hb);replace C1:=U (C1.u.p hb);replace C2:=U (C2.u.p hb);replace HC:=U (HC.u.p hb);replace E2:=U (E2.u.p hb);replace TD:=U (TD.u.p hb);replace K:=U (Rg.acc K.u hb);clear hb;refine k8 (bw _ _ false rfl rfl) ?_;go_frame;go_upto_region 22 with fail;refine c6<|j7 rfl ?_;go_frame;go_wp2;go_ret;exact ⟨by rw [pK.u]; rfl,Rg.acc fO.u K.u⟩
       case true =>
        have pK:=U (pH (vB.u.2 (Vo.u.1 rfl).2));go_upto_region 21 with fail;refine c6<|k8 (g7 ((.agg #[.int .i64 (N:Int),.slice oa N oc,.slice ra N rc])) ⟨cb,0,none⟩ (aC C0.u.cell C1.u.cell C2.u.cell))<|k8 (g7 ((.agg #[.int .i64 (N:Int),.slice q6 q7 oH,.slice q8 q9 q_])) ⟨xj.heap.size,0,none⟩ (aC TD.u.c0 TD.u.c1 TD.u.c2)) ?_;go_frame;refine f4 112 (ax 13 _ _ _ rfl rfl rfl (Ag _ _)) ?_;refine (jX HC.u E2.u Vo).mono ?_;rintro e1 Ym ⟨rfl,hb⟩;refine ⟨_,rfl,?_⟩;go_frame;replace LR:=U (LR.u.p hb);replace C0:=U (C0.u.p hb);replace C1:=U (C1.u.p hb);replace C2:=U (C2.u.p hb);replace HC:=U (HC.u.p hb);replace E2:=U (E2.u.p hb);replace TD:=U (TD.u.p hb);replace K:=U (Rg.acc K.u hb);clear hb;refine k8 (bw _ _ true rfl rfl) ?_;go_frame;go_upto_region 23 with fail;refine c6<|j7 rfl ?_;go_frame;go_wp2;go_ret;exact ⟨by rw [pK.u]; rfl,Rg.acc fO.u K.u⟩
      case pos =>
       have bN:=U aS
       have Vp:i<OO.length:=by rw [HON.u]; exact aS
       have Es:i<RR.length:=by rw [YB.u]; exact aS
       obtain ⟨ob,oo,qa,qc,e1,tx,oy,-⟩:=fQ HO.u Vp;subst e1;obtain ⟨rb,ro,e1,KV,ru,hru,qg⟩:=HR.u.Oo Es;subst e1;obtain ⟨ol,kX⟩:∃ ol,Hid (OO[i]'Vp=ol):=⟨_,U rfl⟩;obtain ⟨rl,eQ⟩:∃ rl,Hid (RR[i]'Es=rl):=⟨_,U rfl⟩;rw [kX.u] at oy;rw [eQ.u] at qg;obtain ⟨ua,uc,rfl,-,Sc,-⟩:=qg.shape
       have abN:ol.length<=1000000000:=by
        obtain ⟨u,hu⟩:=Sb HO.u Vp;obtain ⟨_,_,_,_,h5,_⟩:=hu.shape;rw [kX.u] at h5;exact h5
       have CO:=U (CL.mk oy tx);have CR:=U (CL.mk hru KV);have RI:=U qg
       have mZ:=U (show fF (N:Int) OO RR->rl.length=ol.length/\(rl.length:Int)<=(N:Int) - (i:Int) from fun h=>by
        have h5:=h.row Es Vp
        rwa [eQ.u,kX.u] at h5)
       have WQ:=U (show fF (N:Int) OO RR->∀ x∈rl,(x.length:Int)=(N:Int)/\Ma.bY x=0 from fun h x hx=>h.perm Es (by rw [eQ.u]; exact hx))
       have HTK:=U (show (RR.take (i+1)).flatten=(RR.take i).flatten++rl by
        rw [List.take_add_one,List.getElem?_eq_getElem Es,eQ.u]
        simp)
       clear oy tx hru KV qg
       by_cases dp:N<ol.length
       case pos =>
        have pK:=U (mR.u (fun h=>by have:=mZ.u h; omega));go_upto_region 8 with fail;refine c6<|j7 rfl<|j7 rfl<|k8 (g8 (.bool true) .lss (h:=aI _ f7)) ?_;go_frame;go_upto_region 10 with fail;have aj:BE wd wd.drew:=(Below.refl _ _).drew;replace CK:=U (CK.u.p aj);replace K:=U (Rg.acc K.u aj);clear aj;refine Rg.Any.begin (S:=Rg.aK 22 (fun _=>True) (fun W=>BE w0 W)) mix ?_;generalize wd.drew=w85 at *;have hS:∀ (l:Array Bool) W,BE w0 W->Rg.aK 22 (fun _=>True) (fun W=>BE w0 W) l W:=fun l W h=>⟨.inr trivial,h⟩;have hI:=K.u;refine d7 0 22 (.pointer (some ⟨cb,1,none⟩)) 34 rfl rfl (j3 fun w=>aw _ rfl rfl (cp _ _)) (hS _ _ hI)<|d7 1 22 (.slice (some ⟨ob,oo,none⟩) N oc) 35 rfl rfl (j2 ⟨cb,1,none⟩ (fun W hW=>Rg.ae _ _ Tryz.underlying22 ((Below.cell (p:=⟨cb,1,none⟩) hW A1.u.lt).trans A1.u.cell))) (hS _ _ hI)<|d8 2 22 (.int .i64 (i:Int)) 36 (hS _ _ hI)<|d7 3 22 (.pointer (some ⟨ob,oo+i,none⟩)) 37 rfl rfl (Rg.ai bM _ _ rfl rfl ob (oo) (N) oc (i) rfl rfl aS) (hS _ _ hI)<|d7 4 22 (.slice qa ol.length qc) 38 rfl rfl (j2 ⟨ob,oo+i,none⟩ (fun W hW=>Rg.ae _ _ Tryz.underlying26 ((Below.cell (p:=⟨ob,oo+i,none⟩) hW CO.u.lt).trans CO.u.cell))) (hS _ _ hI) ?_;go_frame;refine d7 5 22 (.int .i64 ((ol.length:Nat):Int)) 39 rfl rfl (j3 fun w=>ee _ _ _ rfl Tryz.underlying26 _ _ _ rfl) (hS _ _ hI)<|d8 6 22 (.int .i64 (N:Int)) 40 (hS _ _ hI)<|d7 7 22 (.bool true) 41 rfl rfl (j3 fun w=>cg (R:=.bool true) .gtr _ _ _ rfl rfl rfl (bA _ f7)) (hS _ _ hI)<|d8 8 22 (.bool true) 42 (hS _ _ hI)<|d7 9 22 (undef) 43 rfl rfl (.inr ⟨rfl,rfl⟩) (hS _ _ hI) ?_;go_frame
        refine d7 10 22 (undef) 44 rfl rfl (.inr ⟨rfl,rfl⟩) (hS _ _ hI)<|d7 11 22 (undef) 45 rfl rfl (.inr ⟨rfl,rfl⟩) (hS _ _ hI)<|d7 12 22 (undef) 46 rfl rfl (.inr ⟨rfl,rfl⟩) (hS _ _ hI)<|d7 13 22 (undef) 47 rfl rfl (.inr ⟨rfl,rfl⟩) (hS _ _ hI)<|d7 14 22 (undef) 48 rfl rfl (.inr ⟨rfl,rfl⟩) (hS _ _ hI) ?_;go_frame;refine d7 15 22 (undef) 49 rfl rfl (.inr ⟨rfl,rfl⟩) (hS _ _ hI)<|d7 16 22 (undef) 50 rfl rfl (.inr ⟨rfl,rfl⟩) (hS _ _ hI)<|d7 17 22 (undef) 51 rfl rfl (.inr ⟨rfl,rfl⟩) (hS _ _ hI)<|d7 18 22 (undef) 52 rfl rfl (.inr ⟨rfl,rfl⟩) (hS _ _ hI)<|d7 19 22 (undef) 53 rfl rfl (.inr ⟨rfl,rfl⟩) (hS _ _ hI) ?_;go_frame;refine d7 20 22 (undef) 54 rfl rfl (.inr ⟨rfl,rfl⟩) (hS _ _ hI)<|d7 21 22 (undef) 55 rfl rfl (.inr ⟨rfl,rfl⟩) (hS _ _ hI)<|j1 22 56 rfl rfl (i8 (.bool true)) (hS _ _ hI) ?_;go_frame;refine Rg.Any.done (by kernel_rfl) ?_ _;replace K:=U hI;clear hS hI;go_upto_region 11 with fail;refine c6<|j7 rfl ?_;go_frame;go_wp2;go_ret;exact ⟨by rw [pK.u]; rfl,Rg.acc fO.u K.u⟩
       case neg =>
        by_cases gI:ol.length=rl.length
        case neg =>
         have pK:=U (mR.u (fun h=>gI (mZ.u h).1.symm));go_upto_region 8 with fail;refine c6<|j7 rfl<|j7 rfl<|k8 (g8 (.bool true) .lss (h:=aI _ f7)) ?_;go_frame;go_upto_region 10 with fail;have aj:BE wd wd.drew:=(Below.refl _ _).drew;replace CK:=U (CK.u.p aj);replace K:=U (Rg.acc K.u aj);clear aj;refine Rg.Any.begin (S:=Rg.aK 22 (fun _=>True) (fun W=>BE w0 W)) mix ?_;generalize wd.drew=YC at *;have hS:∀ (l:Array Bool) W,BE w0 W->Rg.aK 22 (fun _=>True) (fun W=>BE w0 W) l W:=fun l W h=>⟨.inr trivial,h⟩;have hI:=K.u;refine d7 0 22 (.pointer (some ⟨cb,1,none⟩)) 34 rfl rfl (j3 fun w=>aw _ rfl rfl (cp _ _)) (hS _ _ hI)<|d7 1 22 (.slice (some ⟨ob,oo,none⟩) N oc) 35 rfl rfl (j2 ⟨cb,1,none⟩ (fun W hW=>Rg.ae _ _ Tryz.underlying22 ((Below.cell (p:=⟨cb,1,none⟩) hW A1.u.lt).trans A1.u.cell))) (hS _ _ hI)<|d8 2 22 (.int .i64 (i:Int)) 36 (hS _ _ hI)<|d7 3 22 (.pointer (some ⟨ob,oo+i,none⟩)) 37 rfl rfl (Rg.ai bM _ _ rfl rfl ob (oo) (N) oc (i) rfl rfl aS) (hS _ _ hI)<|d7 4 22 (.slice qa ol.length qc) 38 rfl rfl (j2 ⟨ob,oo+i,none⟩ (fun W hW=>Rg.ae _ _ Tryz.underlying26 ((Below.cell (p:=⟨ob,oo+i,none⟩) hW CO.u.lt).trans CO.u.cell))) (hS _ _ hI) ?_;go_frame;refine d7 5 22 (.int .i64 ((ol.length:Nat):Int)) 39 rfl rfl (j3 fun w=>ee _ _ _ rfl Tryz.underlying26 _ _ _ rfl) (hS _ _ hI)<|d8 6 22 (.int .i64 (N:Int)) 40 (hS _ _ hI)<|d7 7 22 (.bool false) 41 rfl rfl (j3 fun w=>cg (R:=.bool false) .gtr _ _ _ rfl rfl rfl (bA _ f8)) (hS _ _ hI)<|d8 8 22 (.bool false) 42 (hS _ _ hI)<|d7 9 22 (.pointer (some ⟨cb,1,none⟩)) 43 rfl rfl (j3 fun w=>aw _ rfl rfl (cp _ _)) (hS _ _ hI) ?_;go_frame
         refine d7 10 22 (.slice (some ⟨ob,oo,none⟩) N oc) 44 rfl rfl (j2 ⟨cb,1,none⟩ (fun W hW=>Rg.ae _ _ Tryz.underlying22 ((Below.cell (p:=⟨cb,1,none⟩) hW A1.u.lt).trans A1.u.cell))) (hS _ _ hI)<|d8 11 22 (.int .i64 (i:Int)) 45 (hS _ _ hI)<|d7 12 22 (.pointer (some ⟨ob,oo+i,none⟩)) 46 rfl rfl (Rg.ai bM _ _ rfl rfl ob (oo) (N) oc (i) rfl rfl aS) (hS _ _ hI)<|d7 13 22 (.slice qa ol.length qc) 47 rfl rfl (j2 ⟨ob,oo+i,none⟩ (fun W hW=>Rg.ae _ _ Tryz.underlying26 ((Below.cell (p:=⟨ob,oo+i,none⟩) hW CO.u.lt).trans CO.u.cell))) (hS _ _ hI)<|d7 14 22 (.int .i64 ((ol.length:Nat):Int)) 48 rfl rfl (j3 fun w=>ee _ _ _ rfl Tryz.underlying26 _ _ _ rfl) (hS _ _ hI) ?_;go_frame;refine d7 15 22 (.pointer (some ⟨cb,2,none⟩)) 49 rfl rfl (j3 fun w=>aw _ rfl rfl (cJ _ _)) (hS _ _ hI)<|d7 16 22 (.slice (some ⟨rb,ro,none⟩) N rc) 50 rfl rfl (j2 ⟨cb,2,none⟩ (fun W hW=>Rg.ae _ _ Tryz.underlying23 ((Below.cell (p:=⟨cb,2,none⟩) hW A2.u.lt).trans A2.u.cell))) (hS _ _ hI)<|d8 17 22 (.int .i64 (i:Int)) 51 (hS _ _ hI)<|d7 18 22 (.pointer (some ⟨rb,ro+i,none⟩)) 52 rfl rfl (Rg.ai bG _ _ rfl rfl rb (ro) (N) rc (i) rfl rfl aS) (hS _ _ hI)<|d7 19 22 (.slice ua rl.length uc) 53 rfl rfl (j2 ⟨rb,ro+i,none⟩ (fun W hW=>Rg.ae _ _ Tryz.underlying41 ((Below.cell (p:=⟨rb,ro+i,none⟩) hW CR.u.lt).trans CR.u.cell))) (hS _ _ hI) ?_;go_frame;refine d7 20 22 (.int .i64 ((rl.length:Nat):Int)) 54 rfl rfl (j3 fun w=>ee _ _ _ rfl Tryz.underlying41 _ _ _ rfl) (hS _ _ hI)<|d7 21 22 (.bool true) 55 rfl rfl (j3 fun w=>cg (R:=.bool true) .neq _ _ _ rfl rfl rfl (aE _ f7)) (hS _ _ hI)<|j1 22 56 rfl rfl (i7 (.bool true)) (hS _ _ hI) ?_;go_frame
         refine Rg.Any.done (by kernel_rfl) ?_ _;replace K:=U hI;clear hS hI;go_upto_region 11 with fail;refine c6<|j7 rfl ?_;go_frame;go_wp2;go_ret;exact ⟨by rw [pK.u]; rfl,Rg.acc fO.u K.u⟩
        case pos =>
         have hrN:rl.length<=N:=by omega
         have aaX:=U hrN;have abO:ol.length<=rl.length:=Nat.le_of_eq gI;have abP:rl.length<=ol.length:=Nat.le_of_eq gI.symm;clear gI;go_upto_region 8 with fail;refine c6<|j7 rfl<|j7 rfl<|k8 (g8 (.bool true) .lss (h:=aI _ f7)) ?_;go_frame;go_upto_region 10 with fail;have aj:BE wd wd.drew:=(Below.refl _ _).drew;replace CK:=U (CK.u.p aj);replace K:=U (Rg.acc K.u aj);clear aj;refine Rg.Any.begin (S:=Rg.aK 22 (fun _=>True) (fun W=>BE w0 W)) mix ?_;generalize wd.drew=aaW at *;have hS:∀ (l:Array Bool) W,BE w0 W->Rg.aK 22 (fun _=>True) (fun W=>BE w0 W) l W:=fun l W h=>⟨.inr trivial,h⟩;have hI:=K.u;refine d7 0 22 (.pointer (some ⟨cb,1,none⟩)) 34 rfl rfl (j3 fun w=>aw _ rfl rfl (cp _ _)) (hS _ _ hI)<|d7 1 22 (.slice (some ⟨ob,oo,none⟩) N oc) 35 rfl rfl (j2 ⟨cb,1,none⟩ (fun W hW=>Rg.ae _ _ Tryz.underlying22 ((Below.cell (p:=⟨cb,1,none⟩) hW A1.u.lt).trans A1.u.cell))) (hS _ _ hI)<|d8 2 22 (.int .i64 (i:Int)) 36 (hS _ _ hI)<|d7 3 22 (.pointer (some ⟨ob,oo+i,none⟩)) 37 rfl rfl (Rg.ai bM _ _ rfl rfl ob (oo) (N) oc (i) rfl rfl aS) (hS _ _ hI)<|d7 4 22 (.slice qa ol.length qc) 38 rfl rfl (j2 ⟨ob,oo+i,none⟩ (fun W hW=>Rg.ae _ _ Tryz.underlying26 ((Below.cell (p:=⟨ob,oo+i,none⟩) hW CO.u.lt).trans CO.u.cell))) (hS _ _ hI) ?_;go_frame;refine d7 5 22 (.int .i64 ((ol.length:Nat):Int)) 39 rfl rfl (j3 fun w=>ee _ _ _ rfl Tryz.underlying26 _ _ _ rfl) (hS _ _ hI)<|d8 6 22 (.int .i64 (N:Int)) 40 (hS _ _ hI)<|d7 7 22 (.bool false) 41 rfl rfl (j3 fun w=>cg (R:=.bool false) .gtr _ _ _ rfl rfl rfl (bA _ f8)) (hS _ _ hI)<|d8 8 22 (.bool false) 42 (hS _ _ hI)<|d7 9 22 (.pointer (some ⟨cb,1,none⟩)) 43 rfl rfl (j3 fun w=>aw _ rfl rfl (cp _ _)) (hS _ _ hI) ?_;go_frame
         refine d7 10 22 (.slice (some ⟨ob,oo,none⟩) N oc) 44 rfl rfl (j2 ⟨cb,1,none⟩ (fun W hW=>Rg.ae _ _ Tryz.underlying22 ((Below.cell (p:=⟨cb,1,none⟩) hW A1.u.lt).trans A1.u.cell))) (hS _ _ hI)<|d8 11 22 (.int .i64 (i:Int)) 45 (hS _ _ hI)<|d7 12 22 (.pointer (some ⟨ob,oo+i,none⟩)) 46 rfl rfl (Rg.ai bM _ _ rfl rfl ob (oo) (N) oc (i) rfl rfl aS) (hS _ _ hI)<|d7 13 22 (.slice qa ol.length qc) 47 rfl rfl (j2 ⟨ob,oo+i,none⟩ (fun W hW=>Rg.ae _ _ Tryz.underlying26 ((Below.cell (p:=⟨ob,oo+i,none⟩) hW CO.u.lt).trans CO.u.cell))) (hS _ _ hI)<|d7 14 22 (.int .i64 ((ol.length:Nat):Int)) 48 rfl rfl (j3 fun w=>ee _ _ _ rfl Tryz.underlying26 _ _ _ rfl) (hS _ _ hI) ?_;go_frame;refine d7 15 22 (.pointer (some ⟨cb,2,none⟩)) 49 rfl rfl (j3 fun w=>aw _ rfl rfl (cJ _ _)) (hS _ _ hI)<|d7 16 22 (.slice (some ⟨rb,ro,none⟩) N rc) 50 rfl rfl (j2 ⟨cb,2,none⟩ (fun W hW=>Rg.ae _ _ Tryz.underlying23 ((Below.cell (p:=⟨cb,2,none⟩) hW A2.u.lt).trans A2.u.cell))) (hS _ _ hI)<|d8 17 22 (.int .i64 (i:Int)) 51 (hS _ _ hI)<|d7 18 22 (.pointer (some ⟨rb,ro+i,none⟩)) 52 rfl rfl (Rg.ai bG _ _ rfl rfl rb (ro) (N) rc (i) rfl rfl aS) (hS _ _ hI)<|d7 19 22 (.slice ua rl.length uc) 53 rfl rfl (j2 ⟨rb,ro+i,none⟩ (fun W hW=>Rg.ae _ _ Tryz.underlying41 ((Below.cell (p:=⟨rb,ro+i,none⟩) hW CR.u.lt).trans CR.u.cell))) (hS _ _ hI) ?_;go_frame;refine d7 20 22 (.int .i64 ((rl.length:Nat):Int)) 54 rfl rfl (j3 fun w=>ee _ _ _ rfl Tryz.underlying41 _ _ _ rfl) (hS _ _ hI)<|d7 21 22 (.bool false) 55 rfl rfl (j3 fun w=>cg (R:=.bool false) .neq _ _ _ rfl rfl rfl (aE _ f8)) (hS _ _ hI)<|j1 22 56 rfl rfl (i7 (.bool false)) (hS _ _ hI) ?_;go_frame
         refine Rg.Any.done (by kernel_rfl) ?_ _;replace K:=U hI;clear hS hI;go_upto_region 12 with fail;refine c6<|j7 rfl ?_;go_frame;have Kz:=U (show gs.map Ma.ah=(RR.take i).flatten++rl.take 0 by rw [qF.u,List.take_zero,List.append_nil]);have Dl:=U (show gs.length<=i*64+0 from BB.u);clear K qF BB;go_wp2
         go_loopw [4,6] (fun lv kv wr=>∃ (k:Nat) (gs:List (List Nat)),kv=.int .i64 ((k:Nat):Int)/\k<=rl.length/\Hid (Ah w0 wr lv gs)/\Hid (gs.map Ma.ah=(RR.take i).flatten++rl.take k)/\Hid (∀ s∈gs,Gd N s)/\Hid (gs.length<=i*64+k)) (fun _ kv _=>rl.length - (intOf kv).toNat)
         case atStart=>exact ⟨0,gs,rfl,Nat.zero_le _,CK,Kz,je,Dl⟩
         case round =>
          clear CK Kz je Dl;obtain ⟨k,gs,rfl,hk,CK,Kz,je,Dl⟩:=hrel;obtain ⟨la,lc,rfl⟩:=CK.u.row.shape;generalize wr=we at *;have K:=U CK.u.cU;have aS:i<N:=bN.u;have hrN:rl.length<=N:=aaX.u
          by_cases b_:k<rl.length
          case neg =>
           have aaY:=U (show gs.map Ma.ah=(RR.take (i+1)).flatten by rw [HTK.u,Kz.u,show rl.take k=rl from List.take_of_length_le (by omega)]);have Se:=U (show gs.length<=(i+1)*64 by have:=Dl.u; omega);go_upto_region 13 with fail;refine c6<|j7 rfl<|k8 (j4 (cJ _ _))<|k8 (g7 (.slice (some ⟨rb,ro,none⟩) N rc) ⟨cb,2,none⟩ (Rg.ae _ _ Tryz.underlying23 ((Below.cell (p:=⟨cb,2,none⟩) K.u A2.u.lt).trans A2.u.cell)))<|j7 rfl ?_;go_frame;refine k8 (ag bG _ _ rfl rb (ro) (N) rc (i) rfl rfl aS)<|k8 (g7 (.slice ua rl.length uc) ⟨rb,ro+i,none⟩ (Rg.ae _ _ Tryz.underlying41 ((Below.cell (p:=⟨rb,ro+i,none⟩) K.u CR.u.lt).trans CR.u.cell)))<|k8 (g9 Tryz.underlying41)<|k8 (g8 (.bool false) .lss (h:=aI _ f8)) ?_;go_frame;go_upto_region 9 with fail;refine c6<|j7 rfl<|k8 (g8 (.int .i64 (((i+1):Nat):Int)) .add (h:=bD _ (by omega) (by omega)))<|j7 rfl ?_;go_frame;go_wp2;go_roundw
           case rel=>exact ⟨i+1,gs,by go_num,bN.u,CK,aaY,je,Se⟩
           case measure=>simp [intOf]; have:=bN.u; omega
          case pos =>
           have ba:=U b_;obtain ⟨ub,uo,EG,sc,e1,oN,sA,nz⟩:=fQ RI.u (i:=k) b_;subst e1;obtain ⟨x,hx⟩:∃ x,Hid (rl[k]'b_=x):=⟨_,U rfl⟩;rw [hx.u] at sA nz;have CS:=U (CL.mk sA oN);have XV0:=U nz;have XV:=U (dM.mk (Rg.Ints.p nz K.u))
           have abQ:x.length<=1000000000:=by
            obtain ⟨_,_,_,_,h5,_⟩:=nz.shape;exact h5
           have RD:=U (show x∈rl by rw [<- hx.u]; exact List.getElem_mem _);clear sA nz oN
           by_cases qe:x.length=N
           case neg =>
            have pK:=U (mR.u (fun h=>qe (by have:=(WQ.u h x RD.u).1; omega)));go_upto_region 13 with fail;refine c6<|j7 rfl<|k8 (j4 (cJ _ _))<|k8 (g7 (.slice (some ⟨rb,ro,none⟩) N rc) ⟨cb,2,none⟩ (Rg.ae _ _ Tryz.underlying23 ((Below.cell (p:=⟨cb,2,none⟩) K.u A2.u.lt).trans A2.u.cell)))<|j7 rfl ?_;go_frame;refine k8 (ag bG _ _ rfl rb (ro) (N) rc (i) rfl rfl aS)<|k8 (g7 (.slice (some ⟨ub,uo,none⟩) rl.length uc) ⟨rb,ro+i,none⟩ (Rg.ae _ _ Tryz.underlying41 ((Below.cell (p:=⟨rb,ro+i,none⟩) K.u CR.u.lt).trans CR.u.cell)))<|k8 (g9 Tryz.underlying41)<|k8 (g8 (.bool true) .lss (h:=aI _ f7)) ?_;go_frame;go_upto_region 15 with fail;refine c6<|k8 (j4 (cJ _ _))<|k8 (g7 (.slice (some ⟨rb,ro,none⟩) N rc) ⟨cb,2,none⟩ (Rg.ae _ _ Tryz.underlying23 ((Below.cell (p:=⟨cb,2,none⟩) K.u A2.u.lt).trans A2.u.cell)))<|j7 rfl<|k8 (ag bG _ _ rfl rb (ro) (N) rc (i) rfl rfl aS) ?_;go_frame;refine k8 (g7 (.slice (some ⟨ub,uo,none⟩) rl.length uc) ⟨rb,ro+i,none⟩ (Rg.ae _ _ Tryz.underlying41 ((Below.cell (p:=⟨rb,ro+i,none⟩) K.u CR.u.lt).trans CR.u.cell)))<|j7 rfl<|k8 (ag aM _ _ rfl ub (uo) (rl.length) uc (k) rfl rfl ba.u)<|k8 (g7 (.slice EG x.length sc) ⟨ub,uo+k,none⟩ (Rg.ae _ _ Tryz.underlying27 ((Below.cell (p:=⟨ub,uo+k,none⟩) K.u CS.u.lt).trans CS.u.cell)))<|k8 (g9 Tryz.underlying27) ?_;go_frame;refine j7 rfl<|k8 (g8 (.bool true) .neq (h:=aE _ f7))<|k7 rfl<|f9 79<|f9 80 ?_;go_frame;refine f9 81<|f9 82<|f9 83<|f9 84<|f9 85 ?_;go_frame;refine f9 86<|f9 87<|f9 88<|k8 (i8 (.bool true)) ?_;go_frame;go_upto_region 16 with fail
            refine c6<|j7 rfl ?_;go_frame;go_wp2;go_ret;exact ⟨by rw [pK.u]; rfl,Rg.acc fO.u K.u⟩
           case pos =>
            obtain ⟨ck,dI⟩:∃ c,Hid (Ma.bY x=c):=⟨_,U rfl⟩;have abR:x.length<=N:=Nat.le_of_eq qe;have abS:N<=x.length:=Nat.le_of_eq qe.symm;have X_:=U qe;clear qe
            by_cases cI:ck=0
            case neg =>
             have pK:=U (mR.u (fun h=>cI (by rw [<- dI.u]; exact (WQ.u h x RD.u).2)));go_upto_region 13 with fail;refine c6<|j7 rfl<|k8 (j4 (cJ _ _))<|k8 (g7 (.slice (some ⟨rb,ro,none⟩) N rc) ⟨cb,2,none⟩ (Rg.ae _ _ Tryz.underlying23 ((Below.cell (p:=⟨cb,2,none⟩) K.u A2.u.lt).trans A2.u.cell)))<|j7 rfl ?_;go_frame;refine k8 (ag bG _ _ rfl rb (ro) (N) rc (i) rfl rfl aS)<|k8 (g7 (.slice (some ⟨ub,uo,none⟩) rl.length uc) ⟨rb,ro+i,none⟩ (Rg.ae _ _ Tryz.underlying41 ((Below.cell (p:=⟨rb,ro+i,none⟩) K.u CR.u.lt).trans CR.u.cell)))<|k8 (g9 Tryz.underlying41)<|k8 (g8 (.bool true) .lss (h:=aI _ f7)) ?_;go_frame;go_upto_region 15 with fail;refine c6<|k8 (j4 (cJ _ _))<|k8 (g7 (.slice (some ⟨rb,ro,none⟩) N rc) ⟨cb,2,none⟩ (Rg.ae _ _ Tryz.underlying23 ((Below.cell (p:=⟨cb,2,none⟩) K.u A2.u.lt).trans A2.u.cell)))<|j7 rfl<|k8 (ag bG _ _ rfl rb (ro) (N) rc (i) rfl rfl aS) ?_;go_frame;refine k8 (g7 (.slice (some ⟨ub,uo,none⟩) rl.length uc) ⟨rb,ro+i,none⟩ (Rg.ae _ _ Tryz.underlying41 ((Below.cell (p:=⟨rb,ro+i,none⟩) K.u CR.u.lt).trans CR.u.cell)))<|j7 rfl<|k8 (ag aM _ _ rfl ub (uo) (rl.length) uc (k) rfl rfl ba.u)<|k8 (g7 (.slice EG x.length sc) ⟨ub,uo+k,none⟩ (Rg.ae _ _ Tryz.underlying27 ((Below.cell (p:=⟨ub,uo+k,none⟩) K.u CS.u.lt).trans CS.u.cell)))<|k8 (g9 Tryz.underlying27) ?_;go_frame;refine j7 rfl<|k8 (g8 (.bool false) .neq (h:=aE _ f8))<|k7 rfl<|k8 (j4 (cJ _ _))<|k8 (g7 (.slice (some ⟨rb,ro,none⟩) N rc) ⟨cb,2,none⟩ (Rg.ae _ _ Tryz.underlying23 ((Below.cell (p:=⟨cb,2,none⟩) K.u A2.u.lt).trans A2.u.cell))) ?_;go_frame
             refine j7 rfl<|k8 (ag bG _ _ rfl rb (ro) (N) rc (i) rfl rfl aS)<|k8 (g7 (.slice (some ⟨ub,uo,none⟩) rl.length uc) ⟨rb,ro+i,none⟩ (Rg.ae _ _ Tryz.underlying41 ((Below.cell (p:=⟨rb,ro+i,none⟩) K.u CR.u.lt).trans CR.u.cell)))<|j7 rfl<|k8 (ag aM _ _ rfl ub (uo) (rl.length) uc (k) rfl rfl ba.u) ?_;go_frame;refine k8 (g7 (.slice EG x.length sc) ⟨ub,uo+k,none⟩ (Rg.ae _ _ Tryz.underlying27 ((Below.cell (p:=⟨ub,uo+k,none⟩) K.u CS.u.lt).trans CS.u.cell))) ?_;go_frame;refine eL (some 87) rfl rfl _ _ (aA 81 _ _ rfl rfl (Eh _ _)) ?_;refine (gT _ x we XV.u.i).mono ?_;rintro e1 abT ⟨rfl,hb⟩;rw [dI.u];refine ⟨_,rfl,?_⟩;go_frame;replace CK:=U (CK.u.p hb);replace XV:=U (XV.u.p hb);replace K:=U (Rg.acc K.u hb);clear hb;refine k8 (g8 (.bool true) .neq (h:=aE _ (decide_eq_true cI)))<|k8 (i7 (.bool true)) ?_;go_frame;go_upto_region 16 with fail;refine c6<|j7 rfl ?_;go_frame;go_wp2;go_ret;exact ⟨by rw [pK.u]; rfl,Rg.acc fO.u K.u⟩
            case pos =>
             obtain ⟨s,hs,hsk⟩:=Ma.mf (Ma.jl (dI.u.trans cI)).2.2;have aaZ:=U (show Gd N s from ⟨hsk,by rw [<- X_.u,hs,Ma.aB]⟩);have HS:=U hs;have mz:=U cI
             have kE:gs.length<=8192:=by have:=Dl.u; omega
             clear hs hsk;go_upto_region 13 with fail;refine c6<|j7 rfl<|k8 (j4 (cJ _ _))<|k8 (g7 (.slice (some ⟨rb,ro,none⟩) N rc) ⟨cb,2,none⟩ (Rg.ae _ _ Tryz.underlying23 ((Below.cell (p:=⟨cb,2,none⟩) K.u A2.u.lt).trans A2.u.cell)))<|j7 rfl ?_;go_frame;refine k8 (ag bG _ _ rfl rb (ro) (N) rc (i) rfl rfl aS)<|k8 (g7 (.slice (some ⟨ub,uo,none⟩) rl.length uc) ⟨rb,ro+i,none⟩ (Rg.ae _ _ Tryz.underlying41 ((Below.cell (p:=⟨rb,ro+i,none⟩) K.u CR.u.lt).trans CR.u.cell)))<|k8 (g9 Tryz.underlying41)<|k8 (g8 (.bool true) .lss (h:=aI _ f7)) ?_;go_frame;go_upto_region 15 with fail;refine c6<|k8 (j4 (cJ _ _))<|k8 (g7 (.slice (some ⟨rb,ro,none⟩) N rc) ⟨cb,2,none⟩ (Rg.ae _ _ Tryz.underlying23 ((Below.cell (p:=⟨cb,2,none⟩) K.u A2.u.lt).trans A2.u.cell)))<|j7 rfl<|k8 (ag bG _ _ rfl rb (ro) (N) rc (i) rfl rfl aS) ?_;go_frame;refine k8 (g7 (.slice (some ⟨ub,uo,none⟩) rl.length uc) ⟨rb,ro+i,none⟩ (Rg.ae _ _ Tryz.underlying41 ((Below.cell (p:=⟨rb,ro+i,none⟩) K.u CR.u.lt).trans CR.u.cell)))<|j7 rfl<|k8 (ag aM _ _ rfl ub (uo) (rl.length) uc (k) rfl rfl ba.u)<|k8 (g7 (.slice EG x.length sc) ⟨ub,uo+k,none⟩ (Rg.ae _ _ Tryz.underlying27 ((Below.cell (p:=⟨ub,uo+k,none⟩) K.u CS.u.lt).trans CS.u.cell)))<|k8 (g9 Tryz.underlying27) ?_;go_frame;refine j7 rfl<|k8 (g8 (.bool false) .neq (h:=aE _ f8))<|k7 rfl<|k8 (j4 (cJ _ _))<|k8 (g7 (.slice (some ⟨rb,ro,none⟩) N rc) ⟨cb,2,none⟩ (Rg.ae _ _ Tryz.underlying23 ((Below.cell (p:=⟨cb,2,none⟩) K.u A2.u.lt).trans A2.u.cell))) ?_;go_frame;refine j7 rfl<|k8 (ag bG _ _ rfl rb (ro) (N) rc (i) rfl rfl aS)<|k8 (g7 (.slice (some ⟨ub,uo,none⟩) rl.length uc) ⟨rb,ro+i,none⟩ (Rg.ae _ _ Tryz.underlying41 ((Below.cell (p:=⟨rb,ro+i,none⟩) K.u CR.u.lt).trans CR.u.cell)))<|j7 rfl<|k8 (ag aM _ _ rfl ub (uo) (rl.length) uc (k) rfl rfl ba.u) ?_;go_frame
             refine k8 (g7 (.slice EG x.length sc) ⟨ub,uo+k,none⟩ (Rg.ae _ _ Tryz.underlying27 ((Below.cell (p:=⟨ub,uo+k,none⟩) K.u CS.u.lt).trans CS.u.cell))) ?_;go_frame;refine eL (some 87) rfl rfl _ _ (aA 81 _ _ rfl rfl (Eh _ _)) ?_;refine (gT _ x we XV.u.i).mono ?_;rintro e1 aa0 ⟨rfl,hb⟩;rw [dI.u];refine ⟨_,rfl,?_⟩;go_frame;replace CK:=U (CK.u.p hb);replace XV:=U (XV.u.p hb);replace K:=U (Rg.acc K.u hb);clear hb;refine k8 (g8 (.bool false) .neq (h:=aE _ (decide_eq_false (fun h=>h cI))))<|k8 (i7 (.bool false)) ?_;go_frame;go_upto_region 17 with fail;refine c6<|j8 rfl<|k8 (j4 (cJ _ _))<|k8 (g7 (.slice (some ⟨rb,ro,none⟩) N rc) ⟨cb,2,none⟩ (Rg.ae _ _ Tryz.underlying23 ((Below.cell (p:=⟨cb,2,none⟩) K.u A2.u.lt).trans A2.u.cell)))<|j7 rfl ?_;go_frame;refine k8 (ag bG _ _ rfl rb (ro) (N) rc (i) rfl rfl aS)<|k8 (g7 (.slice (some ⟨ub,uo,none⟩) rl.length uc) ⟨rb,ro+i,none⟩ (Rg.ae _ _ Tryz.underlying41 ((Below.cell (p:=⟨rb,ro+i,none⟩) K.u CR.u.lt).trans CR.u.cell)))<|j7 rfl<|k8 (ag aM _ _ rfl ub (uo) (rl.length) uc (k) rfl rfl ba.u)<|k8 (g7 (.slice EG x.length sc) ⟨ub,uo+k,none⟩ (Rg.ae _ _ Tryz.underlying27 ((Below.cell (p:=⟨ub,uo+k,none⟩) K.u CS.u.lt).trans CS.u.cell))) ?_;go_frame;obtain ⟨a9,c9,X9,r1,yH⟩:=CK.u.push (Eq.mp (congrArg (fun z=>Rg.Ints w0 (.slice EG x.length sc) z) HS.u) XV0.u:Rg.NP w0 (.slice EG x.length sc) s) ⟨_,_,_,rfl⟩ (by omega) 41;refine k8 (Rg.aF _ _ _ rfl (.slice EG x.length sc) rfl (cn aa0 _ ⟨_,_,_,rfl⟩))<|k8 (Rg.aT _ _ _ rfl rfl rfl r1)<|j8 rfl ?_;go_frame;have CK2:=U yH
             have HG3:=U (show (gs++[s]).map Ma.ah=(RR.take i).flatten++rl.take (k+1) by
              rw [List.map_append,Kz.u,List.take_add_one,List.getElem?_eq_getElem ba.u,hx.u,HS.u,List.append_assoc]
              rfl)
             have aa1:=U (show ∀ z∈gs++[s],Gd N z from fun z hz=>by
              rcases List.mem_append.1 hz with hz | hz
              ·exact je.u z hz
              ·rw [List.mem_singleton] at hz; subst hz; exact aaZ.u)
             have Se:=U (show (gs++[s]).length<=i*64+(k+1) by rw [List.length_append]; have:=Dl.u; simp; omega);clear r1 yH;go_upto_region 14 with fail;refine c6<|j7 rfl<|k8 (g8 (.int .i64 (((k+1):Nat):Int)) .add (h:=bD _ (by omega) (by omega)))<|j7 rfl ?_;go_frame;go_wp2;go_roundw
             case rel=>exact ⟨k+1,gs++[s],by go_num,ba.u,CK2,HG3,aa1,Se⟩
             case measure=>simp [intOf]; have:=ba.u; omega
end
section
open Go.RowKit
attribute [local irreducible] Go.Calls Go.wpStill
def dP:List Int->List Int->Bool
 | [],[]=>false
 | [],_ :: _=>true
 | _ :: _,[]=>false
 | x :: a,y :: b=>if x=y then dP a b else decide (x<y)
theorem tX:∀ a:List Int,dP a a=false
 | []=>rfl
 | x :: a=>by rw [dP,if_pos rfl]; exact tX a
theorem vC:∀ {a b c:List Int},dP a b=true->dP b c=true->dP a c=true
 | [],[],_,h,_=>by simp [dP] at h
 | [],_ :: _,[],_,h=>by simp [dP] at h
 | [],_ :: _,_ :: _,_,_=>rfl
 | _ :: _,[],_,h,_=>by simp [dP] at h
 | _ :: _,_ :: _,[],_,h=>by simp [dP] at h
 | x :: a,y :: b,z :: c,h,h'=>by
  rw [dP] at h h' ⊢
  by_cases e1:x=y
  ·rw [if_pos e1] at h
   by_cases e2:y=z
   ·rw [if_pos e2] at h'; rw [if_pos (e1.trans e2)]; exact vC h h'
   ·rw [if_neg e2] at h'; rw [if_neg (by omega)]; simp at h' ⊢; omega
  ·rw [if_neg e1] at h
   by_cases e2:y=z
   ·rw [if_neg (by omega)]; simp at h ⊢; omega
   ·rw [if_neg e2] at h'; simp at h h'; rw [if_neg (by omega)]; simp; omega
theorem pL:∀ {a b:List Int},dP a b=false->a≠b->dP b a=true
 | [],[],_,h=>absurd rfl h
 | [],_ :: _,h,_=>by simp [dP] at h
 | _ :: _,[],_,_=>rfl
 | x :: a,y :: b,h,hn=>by
  rw [dP] at h ⊢
  by_cases e:x=y
  ·rw [if_pos e] at h; rw [if_pos e.symm]
   exact pL h (fun e2=>hn (by rw [e,e2]))
  ·rw [if_neg e] at h; rw [if_neg (by omega)]; simp at h ⊢; omega
def OY (L:List (List Int)):Prop:=∀ i j (hi:i<L.length) (hj:j<L.length),i<j->dP L[i] L[j]=true
theorem jY (L:List (List Int)):OY L↔L.Pairwise (fun a b=>dP a b=true):=by
 rw [List.pairwise_iff_getElem];exact ⟨fun h i j hi hj wJ=>h i j hi hj wJ,fun h i j hi hj wJ=>h i j hi hj wJ⟩
end
section
open Go.RowKit
open Go.Proofs.Ob
open Go.Proofs.Cm (Gd Gr)
attribute [local irreducible] Go.Calls Go.wpList
def gV (d:Nat) (gs A:List (List Nat)):Prop:=OY (A.map Ma.ah)/\∀ y,y∈A↔Gr d (·∈gs) y
theorem ju (h:OY (A.map Ma.ah)):A.Nodup:=by
 rw [jY] at h;rw [List.pairwise_map] at h
 exact h.imp fun fL e=>by subst e; rw [tX] at fL; cases fL
theorem bW.YD {N:Nat->Prop} {l:List (List Nat)} (h:bW B F M W v l) (hN:∀ k,v.ownBlock=some k->¬ N k):bW B F N W v l:=⟨h.size,h.own,fun k e=>⟨(h.off k e).1,hN k e⟩⟩
theorem bW.at {l:List (List Nat)} (h:bW B F M W v l) {i:Nat} (hi:i<l.length):∃ b c u,v=.slice (some ⟨b,0,none⟩) l.length c/\l.length<=c/\b<W.heap.size/\W.cell? ⟨b,i,none⟩=some u/\FP F W u l[i]:=by
 obtain ⟨us,h1,h2⟩:=h.own;obtain ⟨-,a,c,rfl,h3,h4,h5⟩:=Rg.NA h1 h2;rw [List.length_map] at h3;obtain ⟨g,rfl,hg,hx⟩:=h5 (by rw [List.length_map]; omega);obtain ⟨u,uE,p7⟩:=hx i (by simpa using hi);exact ⟨g,c,u,congrArg (fun n=>Value.slice _ n c) (List.length_map ..),h3,hg,uE,by rw [List.getElem_map] at p7; exact p7⟩
theorem bW.up0 {l:List (List Nat)} (h:bW B F (fun _=>False) W v l) (hb:BE W W'):bW B (cE F W W') (fun _=>False) W' v l :=
 h.upk (N:=fun _=>False) (Rg.Kp.aD hb) (fun _ _=>id) (fun _=>id)
theorem FP.QO (F:Nat->Prop) (w:World):FP F w (.slice none 0 0) []:=⟨none,0,rfl,Nat.le_refl _,Nat.zero_le _,Nat.zero_le _,fun h=>absurd h (Nat.lt_irrefl 0)⟩

theorem bW.one {B:Nat} {F M:Nat->Prop} {W:World} {u:Value} {x:List Nat} (hB:B<=W.heap.size) (hu:FP F W u x) (hs:∃ a m c,u=.slice a m c) (hF:∀ k,F k->k<W.heap.size) (hM:∀ k,M k->k<W.heap.size) :
  bW B F M (W.alloc (.cells #[u] 27)) (.slice (some ⟨W.heap.size,0,none⟩) 1 1) [x]:=by
 have hb:BE W (W.alloc (.cells #[u] 27)):=(Below.refl _ _).alloc (Nat.le_refl _) _;refine ⟨Nat.le_trans hB hb.size,⟨[u],⟨rfl,.inr ⟨W.heap.size,1,#[u],rfl,hB,by show (W.heap.push _)[W.heap.size]?=_; simp,Nat.le_refl _,by decide,rfl,rfl⟩⟩,?_⟩,fun k e=>?_⟩
 ·exact Rg.bR.one (Rg.FI.kp hu (Rg.Kp.aD hb) (fun _ _=>id))
 ·simp only [Value.ownBlock,Option.some.injEq] at e
  subst e;exact ⟨fun h=>Nat.lt_irrefl _ (hF _ h),fun h=>Nat.lt_irrefl _ (hM _ h)⟩
end
section
open Go.Proofs.Cm (Gr Gd ar cz St Fx ap lO)
def lU (r A:List (List Nat)):List (List Nat):=r.flatMap fun u=>A.map (Ma.aq u)
theorem ye (r A:List (List Nat)):(lU r A).length=r.length*A.length:=by
 unfold lU
 induction r with
 | nil=>simp
 | cons u r ih=>rw [List.flatMap_cons,List.length_append,ih,List.length_map,List.length_cons,Nat.succ_mul,Nat.add_comm]
theorem ni {r:List (List Nat)} {x:List Nat}:x∈lU r A↔∃ u∈r,∃ z∈A,Ma.aq u z=x:=by
 unfold lU;simp only [List.mem_flatMap,List.mem_map]
def mD (n:Nat) (R:List (List (List Nat))):Nat->List (List Nat)
 | 0=>[Ma.bs n]
 | i+1=>lU (R.getD i []) (mD n R i)
structure PK (n:Nat) (H:List Nat->Prop) (i:Nat) (L:List (List Nat)):Prop where
 Sf:∀ z∈L,H z
 all:∀ x,H x->∃ s z,St H i s/\z∈L/\x=Ma.aq s z
 sep:∀ z z' s s',z∈L->z'∈L->St H i s->St H i s'->Ma.aq s z=Ma.aq s' z'->z=z'
 nd:L.Nodup
theorem PK.zero (hH:cz n H):PK n H 0 [Ma.bs n] :=
 ⟨fun z hz=>by rw [List.mem_singleton] at hz; subst hz; exact hH.one,fun x hx=>⟨x,Ma.bs n,⟨hx,fun j hj=>absurd hj (Nat.not_lt_zero _)⟩,by simp,(Cm.mul_one (hH.gd x hx)).symm⟩,fun z z' _ _ hz uL _ _ _=>by rw [List.mem_singleton] at hz uL; rw [hz,uL],by simp⟩
theorem yY (h:ar n H O R) {i:Nat} (hi:i<n) {k:Nat} (hk:k<(R.getD i []).length):lO n (fun z=>St H i z/\ap z i=(O.getD i []).getD k 0) (R.getD i [])[k]:=by
 have:=h.rep i k hi (by rw [<- h.len i hi]; exact hk)
 rwa [Cm.getD_in hk] at this
theorem vD (h:ar n H O R) {i:Nat} (hi:i<n) {u:List Nat} (hu:u∈R.getD i []):lO n (fun z=>St H i z/\ap z i=ap u i) u:=by
 obtain ⟨k,hk,rfl⟩:=List.getElem_of_mem hu;have:=yY h hi hk;have e:=this.1.2;rw [<- e] at this;exact this
theorem Vq (h:ar n H O R) {i:Nat} (hi:i<n) {s:List Nat} (hs:St H i s):∃ u∈R.getD i [],St H i u/\ap u i=ap s i:=by
 obtain ⟨k,hk,e⟩:=List.getElem_of_mem ((h.orb i (ap s i) hi).2 ⟨s,hs,rfl⟩)
 have dF:k<(R.getD i []).length:=by rw [h.len i hi]; exact hk
 have h1:=(yY h hi dF).1;refine ⟨_,List.getElem_mem dF,h1.1,?_⟩;rw [h1.2,Cm.getD_in hk,e]
theorem OZ (h:ar n H O R) {i:Nat} (hi:i<n):(R.getD i []).Pairwise (fun u v=>ap u i<ap v i):=by
 rw [List.pairwise_iff_getElem];intro a b ha hb fL
 have oA:a<(O.getD i []).length:=by rw [<- h.len i hi]; exact ha
 have dh:b<(O.getD i []).length:=by rw [<- h.len i hi]; exact hb
 rw [(yY h hi ha).1.2,(yY h hi hb).1.2,Cm.getD_in oA,Cm.getD_in dh];exact (List.pairwise_iff_getElem.1 (h.jB i hi)) a b oA dh fL
theorem PK.step (hH:cz n H) (h:ar n H O R) {i:Nat} (hi:i<n) {L:List (List Nat)} (hL:PK n H i L):PK n H (i+1) (lU (R.getD i []) L):=by
 have key:∀ u z u' z' s s',u∈R.getD i []->u'∈R.getD i []->z∈L->z'∈L->St H (i+1) s->St H (i+1) s'->Ma.aq s (Ma.aq u z)=Ma.aq s' (Ma.aq u' z')->z=z'/\u=u':=by
  intro u z u' z' s s' hu jG hz uL hs O3 e;have l1:=vD h hi hu;have l2:=vD h hi jG;have gs:=hH.gd _ hs.1;have gs':=hH.gd _ O3.1;have gu:=hH.gd _ l1.1.1.1;have gu':=hH.gd _ l2.1.1.1;rw [<- Cm.mul_assoc gs gu,<- Cm.mul_assoc gs' gu'] at e;have a1:St H i (Ma.aq s u):=⟨hH.mul _ _ hs.1 l1.1.1.1,Fx.mul gs (Nat.le_of_lt hi) (hs.2.mono (Nat.le_succ _)) l1.1.1.2⟩;have a2:St H i (Ma.aq s' u'):=⟨hH.mul _ _ O3.1 l2.1.1.1,Fx.mul gs' (Nat.le_of_lt hi) (O3.2.mono (Nat.le_succ _)) l2.1.1.2⟩;have ez:=hL.sep z z' _ _ hz uL a1 a2 e;subst ez;have gz:=hH.gd _ (hL.Sf z hz);have e2:=congrArg (fun t=>Ma.aq t (Ma.bf z)) e;simp only [Cm.jg (Cm.bm gs gu) gz,Cm.jg (Cm.bm gs' gu') gz] at e2;have e3:=congrArg (fun t=>ap t i) e2;simp only [Cm.bL gs hi,Cm.bL gs' hi,hs.2 i (Nat.lt_succ_self _),O3.2 i (Nat.lt_succ_self _)] at e3;rw [<- e3] at l2;exact ⟨rfl,l1.uniq l2⟩
 refine ⟨fun y hy=>?_,fun x hx=>?_,fun y y' s s' hy za hs O3 e=>?_,?_⟩
 ·obtain ⟨u,hu,z,hz,rfl⟩:=ni.1 hy
  exact hH.mul _ _ (vD h hi hu).1.1.1 (hL.Sf z hz)
 ·obtain ⟨s,z,hs,hz,rfl⟩:=hL.all x hx
  obtain ⟨u,hu,su,eu⟩:=Vq h hi hs;have gs:=hH.gd _ hs.1;have gu:=hH.gd _ su.1;refine ⟨Ma.aq s (Ma.bf u),Ma.aq u z,⟨hH.mul _ _ hs.1 (hH.inv _ su.1),fun j hj=>?_⟩,ni.2 ⟨u,hu,z,hz,rfl⟩,?_⟩
  ·rw [Cm.bL gs (by omega)]
   rcases Nat.lt_or_ge j i with e | e
   ·rw [hs.2 j e]
    exact Fx.inv gu (Nat.le_of_lt hi) su.2 j e
   ·obtain rfl:j=i:=by omega
    rw [<- eu];exact Cm.fh gu hi
  ·rw [<- Cm.mul_assoc (Cm.bm gs (Cm.aX gu)) gu,Cm.mul_inv_cancel gs gu]
 ·obtain ⟨u,hu,z,hz,rfl⟩:=ni.1 hy
  obtain ⟨u',jG,z',uL,rfl⟩:=ni.1 za;obtain ⟨rfl,rfl⟩:=key u z u' z' s s' hu jG hz uL hs O3 e;rfl
 ·have o1:St H (i+1) (Ma.bs n):=⟨hH.one,Fx.one (by omega)⟩
  have gm:∀ u∈R.getD i [],∀ z∈L,Gd n (Ma.aq u z):=fun u hu z hz=>Cm.bm (hH.gd _ (vD h hi hu).1.1.1) (hH.gd _ (hL.Sf z hz))
  have k2:∀ u∈R.getD i [],∀ u'∈R.getD i [],∀ z∈L,∀ z'∈L,Ma.aq u z=Ma.aq u' z'->z=z'/\u=u':=fun u hu u' jG z hz z' uL e =>
   key u z u' z' _ _ hu jG hz uL o1 o1 (by rw [e])
  unfold lU;rw [List.Nodup,List.pairwise_flatMap];refine ⟨fun u hu=>?_,?_⟩
  ·rw [List.pairwise_map]
   exact List.Pairwise.imp_of_mem (fun {a b} ha hb hne e=>hne (k2 u hu u hu a ha b hb e).1) hL.nd
  ·refine List.Pairwise.imp_of_mem (fun {u v} hu hv az x hx y hy e=>?_) (OZ h hi)
   obtain ⟨z,hz,rfl⟩:=List.mem_map.1 hx;obtain ⟨z',uL,rfl⟩:=List.mem_map.1 hy;have:=(k2 u hu v hv z hz z' uL e).2;subst this;omega
theorem Dm {n:Nat} {H:List Nat->Prop} (hH:cz n H) {O:List (List Nat)} {R:List (List (List Nat))} (h:ar n H O R):∀ {i:Nat},i<=n->PK n H i (mD n R i)
 | 0,_=>PK.zero hH
 | i+1,hi=>PK.step hH h hi (Dm hH h (Nat.le_of_lt hi))
theorem Ai (hH:cz n H) (h:ar n H O R):(mD n R n).Nodup/\∀ x,x∈mD n R n↔H x:=by
 have hp:=Dm hH h (Nat.le_refl n);refine ⟨hp.nd,fun x=>⟨hp.Sf x,fun hx=>?_⟩⟩;obtain ⟨s,z,hs,hz,rfl⟩:=hp.all x hx;have e:=Fx.all (hH.gd _ hs.1) hs.2;rw [e,Cm.one_mul (hH.gd _ (hp.Sf z hz))];exact hz
theorem K_ (hl:∀ i,i<n->(R.getD i []).length=(O.getD i []).length) (hO:O.length=n):(mD n R n).length=eS (O.map Ma.ah):=by
 have key:∀ i,i<=n->(mD n R i).length=eS ((O.take i).map Ma.ah):=by
  intro i
  induction i with
  | zero=>intro _; rfl
  | succ i ih =>
   intro hi;show (lU _ _).length=_;rw [ye,ih (by omega),hl i hi,List.take_succ_eq_append_getElem (by omega),List.map_append,List.map_singleton,qV,Ma.aB,dO (by omega),Nat.mul_comm]
 have:=key n (Nat.le_refl _)
 rwa [List.take_of_length_le (by omega)] at this
theorem gV.len {d:Nat} (hg:∀ s∈gs,Gd d s) (h:ar d (Gr d (·∈gs)) O R) (hA:gV d gs A):A.length=(mD d R d).length:=by
 obtain ⟨h1,h2⟩:=Ai (Gr.dE hg) h;exact Nat.le_antisymm (eZ (ju hA.1) fun x hx=>(h2 x).2 ((hA.2 x).1 hx)) (eZ h1 fun x hx=>(hA.2 x).2 ((h2 x).1 hx))
end
section
open Go.Proofs.Cm (Gr Gd ar cz St Fx ap lO lexLt)
def oQ (i p:Nat) (a:List Nat) (j:Nat):Bool:=(ap a i == p) && (List.range j).all fun m=>ap a m == m
def rf (i p:Nat) (a:List Nat):Bool:=oQ i p a i
theorem rh {i p:Nat} {a:List Nat}:rf i p a=true↔Fx i a/\ap a i=p:=by
 unfold rf oQ;rw [Bool.and_eq_true,beq_iff_eq,List.all_eq_true]
 constructor
 ·rintro ⟨h1,h2⟩; exact ⟨fun j hj=>by simpa using h2 j (List.mem_range.2 hj),h1⟩
 ·rintro ⟨h1,h2⟩; exact ⟨h2,fun j hj=>by simpa using h1 j (List.mem_range.1 hj)⟩
theorem La (i p:Nat) (a:List Nat):oQ i p a 0=(ap a i == p):=by unfold oQ; simp
theorem Aj (i p:Nat) (a:List Nat) (j:Nat):oQ i p a (j+1)=(oQ i p a j && (ap a j == j)):=by
 unfold oQ;rw [List.range_succ,List.all_append,Bool.and_assoc];simp
theorem Lb {i p:Nat} {a:List Nat} {k:Nat} (h:oQ i p a j=false) (hj:j<=k):oQ i p a k=false:=by
 induction hj with
 | refl=>exact h
 | step _ ih=>rw [Aj,ih,Bool.false_and]
def dQ (A:List (List Nat)) (i p:Nat):List Nat:=(List.range p).filter fun q=>A.any (rf i q)
def fR (A:List (List Nat)) (i p:Nat):List (List Nat):=(dQ A i p).map fun q=>(A.find? (rf i q)).getD []
theorem O4 {i p:Nat} (h:∀ k (hk:k<A.length),rf i p A[k]=false):dQ A i (p+1)=dQ A i p/\fR A i (p+1)=fR A i p:=by
 have h1:A.any (rf i p)=false:=by
  rw [List.any_eq_false];intro a ha;obtain ⟨k,hk,rfl⟩:=List.getElem_of_mem ha;rw [h k hk]; simp
 have h2:dQ A i (p+1)=dQ A i p:=by
  unfold dQ;rw [List.range_succ,List.filter_append];simp [h1]
 exact ⟨h2,by unfold fR; rw [h2]⟩
theorem Lc {i p k:Nat} (hk:k<A.length) (h:rf i p A[k]=true) (hb:∀ j (hj:j<k),rf i p (A[j]'(Nat.lt_trans hj hk))=false):dQ A i (p+1)=dQ A i p++[p]/\fR A i (p+1)=fR A i p++[A[k]]:=by
 have h1:A.any (rf i p)=true:=List.any_eq_true.2 ⟨_,List.getElem_mem hk,h⟩
 have h2:dQ A i (p+1)=dQ A i p++[p]:=by
  unfold dQ;rw [List.range_succ,List.filter_append];simp [h1]
 have h3:A.find? (rf i p)=some A[k]:=List.find?_eq_some_iff_getElem.2 ⟨h,k,hk,rfl,fun j hj=>by rw [hb j hj]; rfl⟩;refine ⟨h2,?_⟩;unfold fR;rw [h2,List.map_append,List.map_singleton,h3];rfl
theorem Ak (A:List (List Nat)) (i p:Nat):(dQ A i p).length<=p:=by
 have:=List.length_filter_le (fun q=>A.any (rf i q)) (List.range p);rw [List.length_range] at this;exact this
theorem tY (A:List (List Nat)) (i p:Nat):(fR A i p).length=(dQ A i p).length:=by unfold fR; rw [List.length_map]
theorem Dn (x:Nat) (a:List Nat):Ma.ah (x :: a)=((x:Nat):Int) :: Ma.ah a:=rfl
theorem tZ:∀ {a z:List Nat},a.length=z.length->dP (Ma.ah a) (Ma.ah z)=true->lexLt a.length a z
 | [],[],_,h=>by simp [Ma.ah,dP] at h
 | [],_ :: _,e,_=>by simp at e
 | _ :: _,[],e,_=>by simp at e
 | x :: a,y :: z,e,h=>by
  rw [Dn,Dn,dP] at h
  by_cases BJ:x=y
  ·subst BJ
   rw [if_pos rfl] at h;obtain ⟨j,h1,h2,h3⟩:=tZ (by simpa using e) h;refine ⟨j+1,by simpa using h1,fun m hm=>?_,by simpa [ap] using h3⟩
   cases m with
   | zero=>rfl
   | succ m=>simpa [ap] using h2 m (by omega)
  ·rw [if_neg (by omega)] at h
   exact ⟨0,by simp,fun m hm=>absurd hm (Nat.not_lt_zero _),by simpa [ap] using h⟩
theorem kL {α:Type} (f:Nat->List α) {d i:Nat} (h:i<d):((List.range d).map f).getD i []=f i:=by
 rw [List.getD_eq_getElem?_getD,List.getElem?_map,List.getElem?_range h];rfl
theorem O5 {d:Nat} (hg:∀ s∈gs,Gd d s) (hA:gV d gs A) {i p:Nat} {a:List Nat} (h:A.find? (rf i p)=some a):lO d (fun z=>St (Gr d (·∈gs)) i z/\ap z i=p) a:=by
 obtain ⟨h1,k,hk,rfl,h2⟩:=List.find?_eq_some_iff_getElem.1 h;have h3:=rh.1 h1;have gk:=(Gr.dE hg).gd _ ((hA.2 _).1 (List.getElem_mem hk));refine ⟨⟨⟨(hA.2 _).1 (List.getElem_mem hk),h3.1⟩,h3.2⟩,fun z hz=>?_⟩;obtain ⟨j,hj,rfl⟩:=List.getElem_of_mem ((hA.2 z).2 hz.1.1);have gj:=(Gr.dE hg).gd _ ((hA.2 _).1 (List.getElem_mem hj))
 rcases Nat.lt_trichotomy j k with e | e | e
 ·have h4:=h2 j e
  rw [rh.2 ⟨hz.1.2,hz.2⟩] at h4
  cases h4
 ·subst e; exact .inl rfl
 ·have h5:=hA.1 k j (by simpa using hk) (by simpa using hj) e
  simp only [List.getElem_map] at h5;have:=tZ (gk.2.trans gj.2.symm) h5;rw [gk.2] at this;exact .inr this
theorem Ik {d:Nat} (hg:∀ s∈gs,Gd d s) (hA:gV d gs A):ar d (Gr d (·∈gs)) ((List.range d).map fun i=>dQ A i d) ((List.range d).map fun i=>fR A i d):=by
 have hm:∀ {i p:Nat},i<d->(p∈dQ A i d↔∃ x,St (Gr d (·∈gs)) i x/\ap x i=p):=by
  intro i p hi;unfold dQ;rw [List.mem_filter,List.mem_range,List.any_eq_true]
  constructor
  ·rintro ⟨_,a,ha,hb⟩
   exact ⟨a,⟨(hA.2 a).1 ha,(rh.1 hb).1⟩,(rh.1 hb).2⟩
  ·rintro ⟨x,hx,rfl⟩
   exact ⟨Cm.cS ((Gr.dE hg).gd x hx.1) hi,x,(hA.2 x).2 hx.1,rh.2 ⟨hx.2,rfl⟩⟩
 refine ⟨by simp,by simp,fun i hi=>?_,fun i p hi=>?_,fun i hi=>?_,fun i k hi hk=>?_⟩
 ·rw [kL _ hi]
  exact List.Pairwise.filter _ List.pairwise_lt_range
 ·rw [kL _ hi]; exact hm hi
 ·rw [kL _ hi,kL _ hi]; exact tY A i d
 ·rw [kL _ hi] at hk ⊢
  rw [kL _ hi]
  have dF:k<(fR A i d).length:=by rw [tY]; exact hk
  rw [Cm.getD_in hk,Cm.getD_in dF]
  have e:(fR A i d)[k]=(A.find? (rf i (dQ A i d)[k])).getD []:=by simp only [fR,List.getElem_map]
  rw [e];have hp:=List.getElem_mem hk;unfold dQ at hp;rw [List.mem_filter] at hp
  cases hf:A.find? (rf i (dQ A i d)[k]) with
  | none =>
   exfalso
   obtain ⟨a,ha,hb⟩:=List.any_eq_true.1 hp.2;have:=List.find?_eq_none.1 hf a ha;exact this hb
  | some a=>exact O5 hg hA hf
end
section
open Go.RowKit
open Go.Proofs.Cm (Gd Gr ap)
attribute [local irreducible] Go.Calls Go.wpList
structure nV (B:Nat) (W0 W:World) (F:Nat->Prop) (ov rv:Value) (l:List Nat) (rs:List (List Nat)):Prop where
 cU:Below B W0 W
 size:B<=W.heap.size
 ow:W.ownsRow B 3 1 ov l.length ((Ma.ah l).map (Value.int .i64))
 rr:bW B F (fun z=>ov.ownBlock=some z) W rv rs
 Vr:∀ k,ov.ownBlock=some k->¬ F k
 eP:∀ z,F z->B<=z/\z<W.heap.size
theorem nV.start (h:Below B W0 W) (hB:B<=W.heap.size):nV B W0 W (fun _=>False) (.slice none 0 0) (.slice none 0 0) [] [] :=
 ⟨h,hB,World.ownsRow_nil _ _ _ _,bW.nil _ _ _ _ hB,fun k e=>by simp [Value.ownBlock] at e,fun _ h=>h.elim⟩
theorem nV.lt {B:Nat} {W0 W:World} {F:Nat->Prop} {ov rv:Value} {l:List Nat} {rs:List (List Nat)} (h:nV B W0 W F ov rv l rs):(∀ k,ov.ownBlock=some k->B<=k/\k<W.heap.size)/\(∀ k,rv.ownBlock=some k->B<=k/\k<W.heap.size):=⟨fun k e=>h.ow.lt k e,fun k e=>h.rr.lt k e⟩
theorem nV.up {l:List Nat} {rs:List (List Nat)} (h:nV B W0 W F ov rv l rs) (hb:BE W W'):nV B W0 W' (cE F W W') ov rv l rs :=
 ⟨h.cU.trans (hb.mono h.size),Nat.le_trans h.size hb.size,Rg.bP h.ow hb,h.rr.upk (N:=fun _=>False) (Rg.Kp.aD hb) (fun _ _=>id) (fun _ e=>e.elim),fun k e g=>by
  rcases g with g | g
  ·exact h.Vr k e g
  ·have:=(h.lt.1 k e).2; omega,fun z g=>by
  rcases g with g | g
  ·exact ⟨(h.eP z g).1,Nat.lt_of_lt_of_le (h.eP z g).2 hb.size⟩
  ·exact ⟨Nat.le_trans h.size g.1,g.2⟩⟩
theorem nV.lA {l:List Nat} {rs:List (List Nat)} (h:nV B W0 W F ov rv l rs) (p:Nat) (hl:l.length<1000000) (ty:TypeId) :
  ∃ a c X,(Builtin.append_ #[26,26] ty #[ov,.slice (some ⟨W.heap.size,0,none⟩) 1 1]).run Tryz.prog (W.alloc (.cells #[.int .i64 ((p:Nat):Int)] 3))=.ok (.slice a (l.length+1) c) X/\nV B W0 X F (.slice a (l.length+1) c) rv (l++[p]) rs/\Rg.Kp (fun z=>ov.ownBlock=some z) W X:=by
 have hb:BE W (W.alloc (.cells #[.int .i64 (p:Int)] 3)):=(Below.refl _ _).alloc (Nat.le_refl _) _;obtain ⟨v',X,r1,r2,r3,r4,a,c,rfl⟩:=fe (P:=Tryz.prog) aQ ty (Rg.bP h.ow hb) (Nat.le_trans h.size hb.size) W.heap.size 1 (u:=.int .i64 (p:Int)) (by rw [Rg.aW]; rfl) rfl hl
 have cR:(W.alloc (.cells #[.int .i64 (p:Int)] 3)).heap.size=W.heap.size+1:=by simp
 have hk:Rg.Kp (fun z=>ov.ownBlock=some z) W X:=Rg.Kp.trans (M:=fun z=>ov.ownBlock=some z) ((Rg.Kp.aD (M:=fun _=>False) hb).gS fun _=>False.elim) (Rg.Kp.cC r3 fun _ e=>e) (fun _ _ e=>e)
 have bV:∀ k,(Value.slice a (l.length+1) c).ownBlock=some k->ov.ownBlock=some k∨W.heap.size<=k:=fun k e=>by
  rcases r4 with r4 | r4
  ·exact .inl (r4▸e)
  ·rw [r4] at e; injection e with e; exact .inr (by omega)
 refine ⟨a,c,X,r1,⟨l8 h.cU h.size hk (fun k e=>(h.lt.1 k e).1),Nat.le_trans h.size hk.size,?_,?_,fun k e g=>?_,fun z g=>⟨(h.eP z g).1,Nat.lt_of_lt_of_le (h.eP z g).2 hk.size⟩⟩,hk⟩
 ·rw [List.length_append,show (Ma.ah (l++[p])).map (Value.int .i64)=(Ma.ah l).map (Value.int .i64)++[.int .i64 (p:Int)] by simp [Ma.ah]]; exact r2
 ·refine (h.rr.kp hk (fun k g e=>h.Vr k e g) (fun k e e2=>(h.rr.off k e).2 e2)).YD (fun k e e2=>?_)
  rcases bV k e2 with g | g
  ·exact (h.rr.off k e).2 g
  ·have:=(h.lt.2 k e).2; omega
 ·rcases bV k e with e | e
  ·exact h.Vr k e g
  ·have:=(h.eP k g).2; omega
theorem nV.zF {l:List Nat} {rs:List (List Nat)} (h:nV B W0 W F ov rv l rs) {u:Value} {x:List Nat} (hu:FP F W u x) (hs:∃ a m c,u=.slice a m c) (hl:rs.length<1000000) (ty:TypeId) :
  ∃ a c X,(Builtin.append_ #[41,41] ty #[rv,.slice (some ⟨W.heap.size,0,none⟩) 1 1]).run Tryz.prog (W.alloc (.cells #[u] 27))=.ok (.slice a (rs.length+1) c) X/\nV B W0 X F ov (.slice a (rs.length+1) c) l (rs++[x])/\Rg.Kp (fun z=>rv.ownBlock=some z) W X:=by
 obtain ⟨a,c,X,r1,r2,r3⟩:=h.rr.push hu hs (fun k g=>(h.eP k g).2) (fun k e=>(h.lt.1 k e).2) hl ty;exact ⟨a,c,X,r1,⟨l8 h.cU h.size r3 (fun k e=>(h.lt.2 k e).1),Nat.le_trans h.size r3.size,im h.ow r3 (fun k e e2=>(h.rr.off k e).2 e2),r2,h.Vr,fun z g=>⟨(h.eP z g).1,Nat.lt_of_lt_of_le (h.eP z g).2 r3.size⟩⟩,r3⟩
theorem nV.fi {l:List Nat} {rs:List (List Nat)} (h:nV B W0 W F ov rv l rs) (hl:l.length<=1000000000) {G:Nat->Prop} (hG:∀ k,B<=k->k<W.heap.size->G k):Rg.FI G W ov (Ma.ah l) :=
 Rg.cK.of (Rg.cH.cV h.ow hl) (fun k e=>hG k (h.lt.1 k e).1 (h.lt.1 k e).2)
theorem nV.fr {l:List Nat} {rs:List (List Nat)} (h:nV B W0 W F ov rv l rs) (hl:rs.length<=1000000000) {G:Nat->Prop} (hG:∀ k,B<=k->k<W.heap.size->G k):Rg.aL G W rv (rs.map Ma.ah):=by
 obtain ⟨us,h1,h2⟩:=h.rr.own;exact ⟨us,Rg.cK.of (Rg.cH.cV h1 hl) (fun k e=>hG k (h.lt.2 k e).1 (h.lt.2 k e).2),h2.mono fun k g=>hG k (h.eP k g).1 (h.eP k g).2⟩
theorem nV.uY {l:List Nat} {rs:List (List Nat)} (h:nV B W0 W F ov rv l rs):∃ a c,ov=.slice a l.length c:=Rg.cQ h.ow
theorem FP.own {x:List Nat} {m:Nat} (h:W'.ownsRow W.heap.size 3 1 v m ((Ma.ah x).map (Value.int .i64))) (hm:m<=1000000000):FP (cE F W W') W' v x :=
 Rg.cK.of (Rg.cH.cV h hm) (fun k e=>.inr (h.lt k e))
theorem Il {b o:Nat} {u:Value} (h:W.cell? ⟨b,o,none⟩=some u) (x:Obj):(W.alloc x).cell? ⟨b,o,none⟩=some u:=(Below.cell (p:=⟨b,o,none⟩) (be W x) (dU h)).trans h
theorem rk {b o:Nat} {u:Value} (h:W.cell? ⟨b,o,none⟩=some u) (hk:Rg.Kp M W X) (hM:¬ M b):X.cell? ⟨b,o,none⟩=some u:=(World.cell?_of_block (a:=⟨b,o,none⟩) (hk.block b (dU h) hM)).trans h
theorem Im (a b:Nat):decide ((a:Int)=(b:Int))=(a == b):=by
 by_cases h:a=b
 ·subst h; simp
 ·rw [decide_eq_false (by omega)]
  exact (beq_eq_false_iff_ne.2 h).symm
theorem dV.aa3 {C:Nat} {c0 c1 c2:Value} {O:List (List Int)} {R:List (List (List Int))} (h:dV B W tc c0 c1 c2 ov rv O R) (hc:C<=B) (hl:O.length<=1000000000):Rg.aL (fun z=>C<=z) W ov O:=by
 obtain ⟨us,vs,h1,h2,h3,h4⟩:=h.own;exact ⟨us,Rg.cK.of (Rg.cH.cV h1 hl) (fun k e=>Nat.le_trans hc (h.sq.1 k e).1),h3.mono fun k g=>Nat.le_trans hc g.1⟩
theorem dV.aa4 {C:Nat} {c0 c1 c2:Value} {O:List (List Int)} {R:List (List (List Int))} (h:dV B W tc c0 c1 c2 ov rv O R) (hc:C<=B) (hl:R.length<=1000000000):aV (fun z=>C<=z) W rv R:=by
 obtain ⟨us,vs,h1,h2,h3,h4⟩:=h.own;exact ⟨vs,Rg.cK.of (Rg.cH.cV h2 hl) (fun k e=>Nat.le_trans hc (h.sq.2 k e).1),bX.mono h4 fun k g=>Nat.le_trans hc g.1⟩
def lV (A:List (List Nat)) (n:Nat):List (List Nat):=(List.range n).map fun i=>dQ A i n
def lW (A:List (List Nat)) (n:Nat):List (List (List Nat)):=(List.range n).map fun i=>fR A i n
theorem t_ (aU:1<=n) (aZ:n<=64) (A:List (List Nat)) (av:Value) (w:World) (hA:Rg.Rows w av (A.map Ma.ah)) (hl:A.length<=100000) (hg:∀ a∈A,Gd n a) :
  Calls Tryz.prog 56 #[.int .i64 n,av] w fun e w'=>∃ ov rv,e=.returned (.agg #[.int .i64 ((n:Nat):Int),ov,rv])/\Rg.aL (fun z=>w.heap.size<=z) w' ov ((lV A n).map Ma.ah)/\aV (fun z=>w.heap.size<=z) w' rv ((lW A n).map (List.map Ma.ah))/\BE w w':=by
 obtain ⟨aa,ac,dG,-,-,-,-⟩:=hA.shape;rw [List.length_map] at dG;subst dG;have K:=U (bi w);have HA:=U hA;have je:=U hg;clear hA hg
 go_enter Tryz.func56,Tryz.ntmps56
 go_upto_region 0 with fail;refine c6 ?_;have bV:=cj.new w (.int .i64 0) (.slice none 0 0) (.slice none 0 0);refine k8 (bj rfl) ?_;go_frame;have hb:=be w (.cells #[.int .i64 0,.slice none 0 0,.slice none 0 0] 25);generalize w.alloc (.cells #[.int .i64 0,.slice none 0 0,.slice none 0 0] 25)=w1 at *;replace K:=U (Rg.acc K.u hb);clear hb;have FT:=U bV;have K1:=U (bi w1);have GC:=(FT.u.lt);clear bV;go_upto_region 1 with fail;refine c6<|j7 rfl<|k8 (nL (d:=(n:Int)) _ rfl rfl) ?_;go_frame;have bV:=cj.new w1 (.int .i64 0) (.slice none 0 0) (.slice none 0 0);refine k8 (bj rfl) ?_;go_frame;have hb:=be w1 (.cells #[.int .i64 0,.slice none 0 0,.slice none 0 0] 25);generalize w1.alloc (.cells #[.int .i64 0,.slice none 0 0,.slice none 0 0] 25)=w2 at *;replace K1:=U (Rg.acc K1.u hb);clear hb;have FC:=U bV;refine Rg.aG none rfl rfl (Rg.ak _ _ _ rfl _ rfl _ rfl (aJ _ _ _ _ _ _ _ FC.u)) ?_;go_frame;clear bV;replace FC:=U (FC.u.set (.int .i64 (n:Int)) (.slice none 0 0) (.slice none 0 0));replace K1:=U (((K1.u.setCell (p:=⟨w1.heap.size,0,none⟩) (Nat.le_refl _) (.int .i64 (n:Int))).setCell (p:=⟨w1.heap.size,1,none⟩) (Nat.le_refl _) (.slice none 0 0)).setCell (p:=⟨w1.heap.size,2,none⟩) (Nat.le_refl _) (.slice none 0 0));generalize (((w2).setCell ⟨w1.heap.size,0,none⟩ (.int .i64 (n:Int))).setCell ⟨w1.heap.size,1,none⟩ (.slice none 0 0)).setCell ⟨w1.heap.size,2,none⟩ (.slice none 0 0)=w5 at *;have CH:=U (dV.start FC.u (Nat.le_refl _));clear FC;go_upto_region 2 with fail;refine c6<|j7 rfl ?_;go_frame
 have O6:=U (show ([]:List (List Nat))=(List.range 0).map fun i=>dQ A i n from rfl);have O7:=U (show ([]:List (List (List Nat)))=(List.range 0).map fun i=>fR A i n from rfl);go_wp2
 go_loopw [6] (fun iv wr=>∃ (k:Nat) (ov rv:Value) (O:List (List Nat)) (R:List (List (List Nat))),iv=.int .i64 k/\k<=n/\Hid (dV w1.heap.size wr w1.heap.size (.int .i64 ((n:Nat):Int)) ov rv ov rv (O.map Ma.ah) (R.map (List.map Ma.ah)))/\Hid (BE w1 wr)/\Hid (O=(List.range k).map fun i=>dQ A i n)/\Hid (R=(List.range k).map fun i=>fR A i n)) (fun iv _=>n - (intOf iv).toNat)
 case atStart=>exact ⟨0,_,_,[],[],rfl,Nat.zero_le _,CH,K1,O6,O7⟩
 case round =>
  clear CH K1 O6 O7;obtain ⟨k,ov,rv,O,R,rfl,hk,CH,K1,O6,O7⟩:=hrel;generalize wr=w4 at *;have HOn:=U (show O.length=k by rw [O6.u]; simp);have HRn:=U (show R.length=k by rw [O7.u]; simp);have GD:=CH.u.uY;have GH:=CH.u.D8;rw [List.length_map] at GD GH;obtain ⟨dW,dX,rfl⟩:=GD;obtain ⟨dK,dL,rfl⟩:=GH
  by_cases b_:k<n
  ·have gY:(k:Int)<(n:Int):=by omega
   have ba:=U b_;have fl:=U (show (∀ z,(Value.slice dW O.length dX).ownBlock=some z->z<w4.heap.size)/\(∀ z,(Value.slice dK R.length dL).ownBlock=some z->z<w4.heap.size)/\w1.heap.size<w4.heap.size from ⟨fun z e=>(CH.u.sq.1 z e).2,fun z e=>(CH.u.sq.2 z e).2,CH.u.gZ.lt⟩);have aa5:Hid (w.heap.size<=w4.heap.size):=U (Nat.le_trans K.u.size K1.u.size);have KW:=U (show BE w w4 from K.u.trans (K1.u.mono K.u.size));have HAR:=U (Rg.Rows.p HA.u KW.u);have CI:=U (nV.start (bi w4) (Nat.le_refl _));go_upto_region 3 with fail;refine c6<|j7 rfl<|j7 rfl<|k8 (g8 (.bool true) .lss (h:=aI _ f7)) ?_;go_frame;go_upto_region 5 with fail;refine c6<|j8 rfl ?_;go_frame;go_upto_region 6 with fail;refine c6<|j8 rfl ?_;go_frame;go_upto_region 7 with fail;refine c6<|j7 rfl ?_;go_frame;have Ld:=U (show ([]:List Nat)=dQ A k 0 from rfl);have Le:=U (show ([]:List (List Nat))=fR A k 0 from rfl);go_wp2
   go_loopw [7,8,9] (fun ov5 rv5 pv wq=>∃ (p:Nat) (F:Nat->Prop) (l:List Nat) (rs:List (List Nat)),pv=.int .i64 p/\p<=n/\Hid (nV w4.heap.size w4 wq F ov5 rv5 l rs)/\Hid (l=dQ A k p)/\Hid (rs=fR A k p)) (fun _ _ pv _=>n - (intOf pv).toNat)
   case atStart=>exact ⟨0,_,[],[],rfl,Nat.zero_le _,CI,Ld,Le⟩
   case round =>
    clear CI Ld Le;obtain ⟨p,F,l,rs,rfl,hp,CI,Ld,Le⟩:=hrel;generalize wr=wq at *;obtain ⟨la,lc,rfl⟩:=CI.u.uY;obtain ⟨ra,rc,rfl⟩:=CI.u.rr.shape;have HLl:=U (show l.length<=64 by rw [Ld.u]; have:=Ak A k p; omega);have Lf:=U (show rs.length<=64 by rw [Le.u,tY]; have:=Ak A k p; omega)
    by_cases D2:p<n
    ·have hpN:(p:Int)<(n:Int):=by omega
     have zR:=U D2;have HAQ:=U (Rg.Rows.p HAR.u CI.u.cU);go_upto_region 8 with fail;refine c6<|j7 rfl<|j7 rfl<|k8 (g8 (.bool true) .lss (h:=aI _ f7)) ?_;go_frame;go_upto_region 10 with fail;refine c6<|j7 rfl ?_;go_frame;have oz:=U (show ∀ j (h:j<A.length),j<0->rf k p A[j]=false from fun j h e=>absurd e (Nat.not_lt_zero _));go_wp2
     go_loopw [7,8,10] (fun a7 a8 mv wk=>∃ (m:Nat),mv=.int .i64 m/\a7=.slice la l.length lc/\a8=.slice ra rs.length rc/\m<=A.length/\Hid (wq=wk)/\Hid (∀ j (h:j<A.length),j<m->rf k p A[j]=false)) (fun _ _ mv _=>A.length - (intOf mv).toNat)
     case atStart=>exact ⟨0,rfl,rfl,rfl,Nat.zero_le _,U rfl,oz⟩
     case round =>
      clear oz;obtain ⟨m,rfl,rfl,rfl,hm,Sg,oz⟩:=hrel;have Sh:=Sg.u;subst Sh;clear Sg
      by_cases gB:m<A.length
      ·have uX:(m:Int)<(A.length:Int):=by omega
       obtain ⟨ab,ao,rfl,fL,UF⟩:∃ ab ao,aa=some ⟨ab,ao,none⟩/\ab<w.heap.size/\∀ j (h:j<A.length),∃ u,w.cell? ⟨ab,ao+j,none⟩=some u/\Rg.NP w u A[j]:=by
        obtain ⟨a',c',e,-,-,-,h5⟩:=HA.u.shape;rw [List.length_map] at e;simp only [Value.slice.injEq,true_and] at e;obtain ⟨rfl,rfl⟩:=e;obtain ⟨b,o,e1,e2,e3⟩:=h5 (by rw [List.length_map]; omega);refine ⟨b,o,e1,e2,fun j hj=>?_⟩;obtain ⟨u,h1,h2⟩:=e3 j (by rw [List.length_map]; exact hj);exact ⟨u,h1,by rw [List.getElem_map] at h2; exact h2⟩
       obtain ⟨x,hx⟩:∃ x,Hid (A[m]=x):=⟨_,U rfl⟩;have GX:=U (show Gd n x by rw [<- hx.u]; exact je.u _ (List.getElem_mem gB));have Vs:BE w wq:=KW.u.trans (CI.u.cU.mono KW.u.size);obtain ⟨u,uE,p7⟩:=UF m gB;rw [hx.u] at p7;have hu3:=Rg.NP.p p7 Vs;obtain ⟨ua,uc,Gz,-,-,-,hu5⟩:=hu3.shape;obtain ⟨ub,uo,rfl,oN,nz⟩:=hu5 (by rw [GX.u.2]; exact aU);rw [GX.u.2] at Gz;subst Gz;have CA:=U (CL.mk ((Below.cell (p:=⟨ab,ao+m,none⟩) Vs fL).trans uE) (Nat.lt_of_lt_of_le fL Vs.size))
       have tB:∀ j,j<n->wq.cell? ⟨ub,uo+j,none⟩=some (.int .i64 ((ap x j:Nat):Int)):=fun j hj=>by
        have:=nz j (by rw [GX.u.2]; exact hj);rw [this];simp [ap,List.getD_eq_getElem?_getD,List.getElem?_eq_getElem (show j<x.length by rw [GX.u.2]; exact hj)]
       have xe:=U tB;have EH:=U uE;have HU2:=U p7;have fM:=U gB;have HAB:=U fL;obtain ⟨b0,ky⟩:∃ b,Hid (oQ k p x 0=b):=⟨_,U rfl⟩
       have WR:decide (((ap x k:Nat):Int)=(p:Int))=b0:=by
        rw [<- ky.u,La,Im]
       have C1:=U (tB k b_);clear UF uE p7 hu3 nz hu5 oN tB Vs;go_upto_region 11 with fail;refine c6<|j7 rfl<|j8 rfl<|k8 (g9 Tryz.underlying41)<|k8 (g8 (.bool true) .lss (h:=aI _ f7)) ?_;go_frame;go_upto_region 13 with fail;refine c6<|j8 rfl<|j7 rfl<|k8 (ag aM _ _ rfl ab (ao) (A.length) ac (m) rfl rfl gB)<|k8 (g7 (.slice (some ⟨ub,uo,none⟩) n uc) ⟨ab,ao+m,none⟩ (Rg.ae _ _ Tryz.underlying27 CA.u.cell)) ?_;go_frame;refine j7 rfl<|k8 (ag bC _ _ rfl ub (uo) (n) uc (k) rfl rfl b_)<|k8 (g7 (.int .i64 (((ap x k):Nat):Int)) ⟨ub,uo+k,none⟩ (af C1.u))<|j7 rfl<|k8 (g8 (.bool b0) .eql (h:=eM _ WR)) ?_;go_frame;refine k7 rfl ?_;go_frame;go_upto_region 14 with fail;refine c6<|j7 rfl ?_;go_frame;clear WR C1;go_wp2
       go_loopw [11,12] (fun fv jv wj=>∃ (j:Nat),jv=.int .i64 j/\j<=k/\fv=.bool (oQ k p x j)/\Hid (wq=wj)) (fun _ jv _=>k - (intOf jv).toNat)
       case atStart=>exact ⟨0,rfl,Nat.zero_le _,by rw [ky.u],U rfl⟩
       case round =>
        clear ky;obtain ⟨j,rfl,hj,rfl,Sg⟩:=hrel;have Sh:=Sg.u;subst Sh;clear Sg
        cases Ov:oQ k p x j
        ·have HB:=U Ov
         clear Ov;go_upto_region 15 with fail;refine c6<|k7 rfl<|k7 rfl<|f9 42<|f9 43 ?_;go_frame;refine f9 44<|k8 (i7 (.bool false)) ?_;go_frame;go_upto_region 18 with fail;refine c6<|k7 rfl ?_;go_frame;go_upto_region 12 with fail;refine c6<|j7 rfl<|k8 (g8 (.int .i64 (((m+1):Nat):Int)) .add (h:=bD _ (by omega) (by omega)))<|j7 rfl ?_;go_frame
         have HN1:=U (show ∀ j (h:j<A.length),j<m+1->rf k p A[j]=false from fun j' h e=>by
          by_cases e2:j'=m
          ·subst e2; rw [hx.u]; exact Lb HB.u hj
          ·exact oz.u j' h (by omega))
         go_wp2;go_roundw
         case rel=>exact ⟨m+1,by go_num,rfl,rfl,by omega,by first | exact U rfl | exact U trivial,HN1⟩
         case measure=>simp [intOf]; omega
        ·have HB:=U Ov
         clear Ov
         by_cases DG:j<k
         ·have yG:(j:Int)<(k:Int):=by omega
          obtain ⟨b1,bZ⟩:∃ b,Hid (oQ k p x (j+1)=b):=⟨_,U rfl⟩
          have WS:decide (((ap x j:Nat):Int)=(j:Int))=b1:=by
           rw [<- bZ.u,Aj,HB.u,Bool.true_and,Im]
          have C1:=U (xe.u j (by omega));go_upto_region 15 with fail;refine c6<|k7 rfl<|k7 rfl<|j7 rfl<|j7 rfl ?_;go_frame;refine k8 (g8 (.bool true) .lss (h:=aI _ f7))<|k8 (i8 (.bool true)) ?_;go_frame;go_upto_region 17 with fail;refine c6<|j8 rfl<|j7 rfl<|k8 (ag aM _ _ rfl ab (ao) (A.length) ac (m) rfl rfl gB)<|k8 (g7 (.slice (some ⟨ub,uo,none⟩) n uc) ⟨ab,ao+m,none⟩ (Rg.ae _ _ Tryz.underlying27 CA.u.cell)) ?_;go_frame;refine j7 rfl<|k8 (ag bC _ _ rfl ub (uo) (n) uc (j) rfl rfl (by omega))<|k8 (g7 (.int .i64 (((ap x j):Nat):Int)) ⟨ub,uo+j,none⟩ (af C1.u))<|j7 rfl<|k8 (g8 (.bool b1) .eql (h:=eM _ WS)) ?_;go_frame;refine k7 rfl ?_;go_frame;go_upto_region 16 with fail;refine c6<|j7 rfl<|k8 (g8 (.int .i64 (((j+1):Nat):Int)) .add (h:=bD _ (by omega) (by omega)))<|j7 rfl ?_;go_frame;clear C1 WS;go_wp2;go_roundw
          case rel=>exact ⟨j+1,by go_num,by omega,by rw [bZ.u],by first | exact U rfl | exact U trivial⟩
          case measure=>simp [intOf]; omega
         ·obtain rfl:k=j:=by omega
          have yG:¬ (k:Int)<(k:Int):=by omega
          go_upto_region 15 with fail;refine c6<|k7 rfl<|k7 rfl<|j7 rfl<|j7 rfl ?_;go_frame;refine k8 (g8 (.bool false) .lss (h:=aI _ (decide_eq_false yG)))<|k8 (i8 (.bool false)) ?_;go_frame;go_upto_region 18 with fail;refine c6<|k7 rfl ?_;go_frame;have aa6:=U (show (Value.slice la l.length lc).ownBlock≠some ab from fun e=>by have:=(CI.u.lt.1 ab e).1; have:=aa5.u; have:=HAB.u; omega);go_upto_region 19 with fail;have aj:BE wq wq.drew:=(Below.refl _ _).drew;replace CI:=U (CI.u.up aj);generalize cE F wq wq.drew=F1 at *;clear aj;refine Rg.Any.begin (S:=Rg.aK 9 (fun W:World=>W.cell? ⟨ab,ao+m,none⟩=some (.slice (some ⟨ub,uo,none⟩) n uc)) (fun _=>True)) mix ?_;generalize wq.drew=Al at *;have hS:∀ (l:Array Bool) W,(fun W:World=>W.cell? ⟨ab,ao+m,none⟩=some (.slice (some ⟨ub,uo,none⟩) n uc)) W->Rg.aK 9 (fun W:World=>W.cell? ⟨ab,ao+m,none⟩=some (.slice (some ⟨ub,uo,none⟩) n uc)) (fun _=>True) l W:=fun l W h=>⟨.inr h,trivial⟩;have cF:∀ (l:Array Bool) W,l.getD 9 false=true->Rg.aK 9 (fun W:World=>W.cell? ⟨ab,ao+m,none⟩=some (.slice (some ⟨ub,uo,none⟩) n uc)) (fun _=>True) l W:=fun l W h=>⟨.inl h,trivial⟩;have hI:(fun W:World=>W.cell? ⟨ab,ao+m,none⟩=some (.slice (some ⟨ub,uo,none⟩) n uc)) Al:=((Below.cell (p:=⟨ab,ao+m,none⟩) (KW.u.trans (CI.u.cU.mono KW.u.size)) HAB.u).trans EH.u);refine d8 0 9 (.slice la l.length lc) 58 (hS _ _ hI)<|d8 1 9 (.int .i64 (p:Int)) 59 (hS _ _ hI)<|d8 4 9 (.slice ra rs.length rc) 62 (hS _ _ hI)<|d8 5 9 (.slice (some ⟨ab,ao,none⟩) A.length ac) 63 (hS _ _ hI)<|d8 6 9 (.int .i64 (m:Int)) 64 (hS _ _ hI) ?_;go_frame
          refine d7 7 9 (.pointer (some ⟨ab,ao+m,none⟩)) 65 rfl rfl (Rg.ai aM _ _ rfl rfl ab (ao) (A.length) ac (m) rfl rfl gB) (hS _ _ hI)<|j0 8 9 (.slice (some ⟨ub,uo,none⟩) n uc) 66 rfl rfl (j2 ⟨ab,ao+m,none⟩ (fun W hW=>Rg.ae _ _ Tryz.underlying27 hW)) (hS _ _ hI) ?_;go_frame;obtain ⟨a9,c9,X9,r1,qT,vE⟩:=CI.u.lA p (by have:=HLl.u; omega) 26;have JQ:=Il hI (.cells #[.int .i64 (p:Int)] 3);refine j1 2 60 rfl rfl (Rg.aF _ _ _ rfl (.int .i64 (p:Int)) rfl (jH Al _)) (hS _ _ JQ) ?_;go_frame;have gQ:=rk hI vE aa6.u;refine j1 3 61 rfl rfl (Rg.aT _ _ _ rfl rfl rfl r1) (hS _ _ gQ) ?_;go_frame;replace CI:=U qT;clear qT;have aa7:=U (show Rg.Ints X9 (.slice (some ⟨ub,uo,none⟩) n uc) (Ma.ah x) from Rg.NP.p HU2.u (KW.u.trans (CI.u.cU.mono KW.u.size)));refine Rg.Any.one (i:=9) (by kernel_rfl) (Rg.Any.ask (some 67) rfl rfl rfl _ _ (aA 36 _ _ rfl rfl (Kh _ _)) ?_);refine (zD _ (Ma.ah x) X9 aa7.u (by rw [Ma.aB,GX.u.2]; omega)).mono ?_;rintro e1 w32 ⟨v5,rfl,bH,hb⟩;have hxr:=FP.own (F:=F1) bH (by rw [Ma.aB,GX.u.2]; omega);rw [Ma.aB,GX.u.2] at bH;obtain ⟨a5,c5,rfl⟩:=Rg.cQ bH;have zQ:=((Below.cell (p:=⟨ab,ao+m,none⟩) hb (dU gQ)).trans gQ);clear gQ;replace CI:=U (CI.u.up hb);have XR:=U hxr;generalize cE F1 X9 w32=F2 at *;clear hb;refine ⟨_,rfl,(cF _ _ rfl),?_⟩;go_frame;obtain ⟨a8,c8,X8,r2,H0,abU⟩:=CI.u.zF XR.u ⟨_,_,_,rfl⟩ (by have:=Lf.u; omega) 41;refine j1 10 68 rfl rfl (Rg.aF _ _ _ rfl (.slice a5 n c5) rfl (cn w32 _ ⟨_,_,_,rfl⟩)) (cF _ _ rfl)<|j1 11 69 rfl rfl (Rg.aT _ _ _ rfl rfl rfl r2) (cF _ _ rfl) ?_;go_frame
          replace CI:=U H0;clear H0 XR;refine d7 12 9 (.slice a9 (l.length+1) c9) 7 rfl rfl (j3 fun w=>Rg.cD (v:=.slice a9 (l.length+1) c9) _ rfl rfl) (cF _ _ rfl)<|d7 13 9 (.slice a8 (rs.length+1) c8) 8 rfl rfl (j3 fun w=>Rg.cD (v:=.slice a8 (rs.length+1) c8) _ rfl rfl) (cF _ _ rfl) ?_;go_frame;refine Rg.Any.done (by kernel_rfl) ?_ _;clear cF;clear hS zQ;go_upto_region 9 with fail;refine c6<|j7 rfl<|k8 (g8 (.int .i64 (((p+1):Nat):Int)) .add (h:=bD _ (by omega) (by omega)))<|j7 rfl ?_;go_frame;have hy:=Lc gB (by rw [hx.u]; exact HB.u) (fun j hj=>oz.u j (Nat.lt_trans hj gB) hj);have YE:=U (show l++[p]=dQ A k (p+1) by rw [hy.1,Ld.u]);have YG:=U (show rs++[x]=fR A k (p+1) by rw [hy.2,Le.u,hx.u]);go_wp2;go_roundw
          case rel=>exact ⟨p+1,_,l++[p],rs++[x],by go_num,zR.u,CI,YE,YG⟩
          case measure=>simp [intOf]; have:=zR.u; omega
      ·obtain rfl:m=A.length:=by omega
       have uX:¬ (A.length:Int)<(A.length:Int):=by omega
       go_upto_region 11 with fail;refine c6<|j7 rfl<|j8 rfl<|k8 (g9 Tryz.underlying41)<|k8 (g8 (.bool false) .lss (h:=aI _ (decide_eq_false uX))) ?_;go_frame;go_upto_region 9 with fail;refine c6<|j7 rfl<|k8 (g8 (.int .i64 (((p+1):Nat):Int)) .add (h:=bD _ (by omega) (by omega)))<|j7 rfl ?_;go_frame;have hy:=O4 (i:=k) (p:=p) fun j h=>oz.u j h h;have YE:=U (show l=dQ A k (p+1) by rw [hy.1,Ld.u]);have YG:=U (show rs=fR A k (p+1) by rw [hy.2,Le.u]);go_wp2;go_roundw
       case rel=>exact ⟨p+1,_,_,_,by go_num,zR.u,CI,YE,YG⟩
       case measure=>simp [intOf]; have:=zR.u; omega
    ·obtain rfl:n=p:=by omega
     have hpN:¬ (n:Int)<(n:Int):=by omega
     go_upto_region 8 with fail;refine c6<|j7 rfl<|j7 rfl<|k8 (g8 (.bool false) .lss (h:=aI _ (decide_eq_false hpN))) ?_;go_frame;have jR:=U (SZ.mk (show w4.heap.size<=wq.heap.size from CI.u.cU.size));replace CH:=U (CH.u.p CI.u.cU);replace K1:=U (Rg.acc K1.u CI.u.cU)
     have PD:=U (uZ.mk CH.u (CI.u.fi (by have:=HLl.u; omega) (G:=iH w1.heap.size wq w1.heap.size (Value.slice dW O.length dX) (Value.slice dK R.length dL)) (fun z g1 g2=>⟨by have:=fl.u.2.2; omega,g2,fun e=>by have:=fl.u.1 z e; omega,fun e=>by have:=fl.u.2.1 z e; omega,by have:=fl.u.2.2; omega⟩))
      (CI.u.fr (by have:=Lf.u; omega) (G:=iH w1.heap.size wq w1.heap.size (Value.slice dW O.length dX) (Value.slice dK R.length dL)) (fun z g1 g2=>⟨by have:=fl.u.2.2; omega,g2,fun e=>by have:=fl.u.1 z e; omega,fun e=>by have:=fl.u.2.1 z e; omega,by have:=fl.u.2.2; omega⟩)))
     have sr:=U (show (O.map Ma.ah).length<1000000 by rw [List.length_map,HOn.u]; omega);have GK:=U (show (R.map (List.map Ma.ah)).length<1000000 by rw [List.length_map,HRn.u]; omega);clear CH CI;go_upto_region 20 with fail;have d_:BE wq wq.drew:=(Below.refl _ _).drew;replace PD:=U (PD.u.p d_);replace K1:=U (Rg.acc K1.u d_);replace jR:=U (jR.u.p d_);clear d_;have aj:BE wq wq.drew:=(Below.refl _ _).drew;generalize cE F wq wq.drew=F3 at *;clear aj;refine Rg.Any.begin (S:=Rg.aK 11 (fun W:World=>cj W w1.heap.size (.int .i64 (n:Int)) (Value.slice dW O.length dX) (Value.slice dK R.length dL)/\BE w1 W) (fun _=>True)) mix ?_;generalize wq.drew=fB at *;have hS:∀ (l:Array Bool) W,(fun W:World=>cj W w1.heap.size (.int .i64 (n:Int)) (Value.slice dW O.length dX) (Value.slice dK R.length dL)/\BE w1 W) W->Rg.aK 11 (fun W:World=>cj W w1.heap.size (.int .i64 (n:Int)) (Value.slice dW O.length dX) (Value.slice dK R.length dL)/\BE w1 W) (fun _=>True) l W:=fun l W h=>⟨.inr h,trivial⟩;have cF:∀ (l:Array Bool) W,l.getD 11 false=true->Rg.aK 11 (fun W:World=>cj W w1.heap.size (.int .i64 (n:Int)) (Value.slice dW O.length dX) (Value.slice dK R.length dL)/\BE w1 W) (fun _=>True) l W:=fun l W h=>⟨.inl h,trivial⟩;have hI:(fun W:World=>cj W w1.heap.size (.int .i64 (n:Int)) (Value.slice dW O.length dX) (Value.slice dK R.length dL)/\BE w1 W) fB:=⟨PD.u.ch.gZ,K1.u⟩;refine d7 0 11 (.pointer (some ⟨w1.heap.size,1,none⟩)) 70 rfl rfl (j3 fun w=>aw _ rfl rfl (cp _ _)) (hS _ _ hI)<|j0 1 11 (.slice dW O.length dX) 71 rfl rfl (j2 ⟨w1.heap.size,1,none⟩ (fun W hW=>Rg.ae _ _ Tryz.underlying22 hW.1.c1)) (hS _ _ hI)<|d8 2 11 (.slice la l.length lc) 72 (hS _ _ hI)<|d7 5 11 (.pointer (some ⟨w1.heap.size,2,none⟩)) 75 rfl rfl (j3 fun w=>aw _ rfl rfl (cJ _ _)) (hS _ _ hI)<|j0 6 11 (.slice dK R.length dL) 76 rfl rfl (j2 ⟨w1.heap.size,2,none⟩ (fun W hW=>Rg.ae _ _ Tryz.underlying23 hW.1.c2)) (hS _ _ hI) ?_;go_frame
     refine d8 7 11 (.slice ra rs.length rc) 77 (hS _ _ hI) ?_;go_frame
     refine Rg.Any.J0 (i:=3) (k:=4) (j:=8) (q:=10) (di:=73) (dk:=74) (dj:=78) (dq:=80) (vq:=.pointer (some ⟨w1.heap.size,1,none⟩)) (I:=fun W=>(fun W:World=>cj W w1.heap.size (.int .i64 ((n:Nat):Int)) (Value.slice dW O.length dX) (Value.slice dK R.length dL)/\BE w1 W) W/\fB.heap.size<=W.heap.size) (R0:=fun W=>uZ w1.heap.size W w1.heap.size (.int .i64 ((n:Nat):Int)) (Value.slice dW O.length dX) (Value.slice dK R.length dL) (Value.slice dW O.length dX) (Value.slice dK R.length dL) (O.map Ma.ah) (R.map (List.map Ma.ah)) (.slice la l.length lc) (Ma.ah l) (.slice ra rs.length rc) (rs.map Ma.ah)) (Ri:=fun u W=>Rg.f_ fB.heap.size [.slice la l.length lc] u W) (Rk:=fun x W=>dV w1.heap.size W w1.heap.size (.int .i64 ((n:Nat):Int)) (Value.slice dW O.length dX) (Value.slice dK R.length dL) x (Value.slice dK R.length dL) (O.map Ma.ah++[Ma.ah l]) (R.map (List.map Ma.ah))/\Rg.aL (iH w1.heap.size W w1.heap.size x (Value.slice dK R.length dL)) W (.slice ra rs.length rc) (rs.map Ma.ah)/\∃ a c,x=.slice a (O.length+1) c) (Rj:=fun v W=>Rg.f_ fB.heap.size [.slice ra rs.length rc] v W) (fun l W h=>hS l W h.1)
      (by decide) (by decide) (by decide) (by decide) (by decide) (by decide) (by kernel_rfl) (by kernel_rfl) (by kernel_rfl) (by kernel_rfl) (by kernel_rfl) ?_ ?_
      (fun _ _ hb h=>h.p hb) (fun _ _ _ hb h=>h.p hb) (fun _ _ _ hb h=>⟨h.1.p hb,lS h.2.1 hb,h.2.2⟩) (fun _ _ _ hb h=>h.p hb) ?_ ?_ ?_ ⟨hI,Nat.le_refl _⟩ (PD.u) ?_
     ·intro u x W m hs h
      exact Rg.Any.qq (i:=10) (t:=11) (v:=.pointer (some ⟨w1.heap.size,1,none⟩)) (some 80) rfl rfl (by kernel_rfl) (by kernel_rfl) (by kernel_rfl) (fun _ _ _ h=>h) rfl (j3 fun w=>aw _ rfl rfl (cp _ _)) hs h
     ·intro u v x W m hs h
      exact Rg.Any.qq (i:=10) (t:=11) (v:=.pointer (some ⟨w1.heap.size,1,none⟩)) (some 80) rfl rfl (by kernel_rfl) (by kernel_rfl) (by kernel_rfl) (fun _ _ _ h=>h) rfl (j3 fun w=>aw _ rfl rfl (cp _ _)) hs h
     ·intro b hb W hW
      have kV:BE W (W.alloc (.cells #[.slice la l.length lc] 26)):=(Below.refl _ _).alloc (Nat.le_refl _) _
      exact Rg.jK rfl rfl (by rcases hb with rfl | ⟨u,rfl⟩ <;> rfl) (Rg.aF _ _ _ rfl (.slice la l.length lc) (by rcases hb with rfl | ⟨u,rfl⟩ <;> rfl) (pg W _ ⟨_,_,_,rfl⟩)) ⟨⟨⟨hW.1.1.p kV,Rg.acc hW.1.2 kV⟩,by simp; have:=hW.2; omega⟩,Rg.f_.new W [.slice la l.length lc] 26 hW.2,kV⟩
     ·intro b hb W hW
      have kV:BE W (W.alloc (.cells #[.slice ra rs.length rc] 41)):=(Below.refl _ _).alloc (Nat.le_refl _) _
      exact Rg.jK rfl rfl (by rcases hb with rfl | ⟨u,rfl⟩ | ⟨u,v,rfl⟩ <;> rfl) (Rg.aF _ _ _ rfl (.slice ra rs.length rc) (by rcases hb with rfl | ⟨u,rfl⟩ | ⟨u,v,rfl⟩ <;> rfl) (nM W _ ⟨_,_,_,rfl⟩)) ⟨⟨⟨hW.1.1.p kV,Rg.acc hW.1.2 kV⟩,by simp; have:=hW.2; omega⟩,Rg.f_.new W [.slice ra rs.length rc] 41 hW.2,kV⟩
     ·intro u b hb W hW h0 hu
      obtain ⟨pu,rfl,qd,px,nD⟩:=hu;obtain ⟨a2,c2,X,r1,r2,r3,r4⟩:=h0.ch.lA hW.1.2.size h0.f5 rfl sr.u (nD 0 (by simp)) 22;have jM:=Rg.Kp.cC r3 (M:=fun z=>(Value.slice dW O.length dX).ownBlock=some z) (fun _ e=>e)
      exact Rg.jK rfl rfl (by rcases hb with rfl | ⟨v,rfl⟩ <;> rfl) (Rg.aT _ _ _ rfl (by rcases hb with rfl | ⟨v,rfl⟩ <;> rfl) (by rcases hb with rfl | ⟨v,rfl⟩ <;> rfl) r1) ⟨⟨⟨r2.gZ,hW.1.2.grown r3 hW.1.2.size (fun j e=>(h0.ch.sq.1 j e).1)⟩,Nat.le_trans hW.2 r3.size⟩,⟨r2,aL.mono (aL.kp h0.f6 jM (fun z g e=>g.2.2.1 e)) r4,_,_,by rw [List.length_map]⟩,fun v hv=>hv.grown r3 (fun j e=>Nat.lt_of_lt_of_le (fl.u.1 j e) jR.u.le)⟩
     rintro tE fu fx fv hb hk hj;have Lg:=hb.1;have WE:=hb.2;clear hb hI;go_frame;have FK:=U hk;have FJ:=U hj;obtain ⟨pj,QK,U1,yA,sf⟩:=FJ.u;subst QK;obtain ⟨a2,c2,F8⟩:=FK.u.2.2;subst F8;obtain ⟨a3,c3,X3,q1,q2,q3⟩:=FK.u.1.zF Lg.2.size FK.u.2.1 rfl GK.u (sf 0 (by simp)) 23;rw [List.length_map] at q1 q2;have Lh:=(show _/\_ from ⟨q2.gZ,Lg.2.grown q3 Lg.2.size (fun j e=>(FK.u.1.sq.2 j e).1)⟩);refine j1 9 79 rfl rfl (Rg.aT _ _ _ rfl rfl rfl q1) (hS _ _ Lh) ?_;go_frame;have KX:=U Lh.2;refine Rg.Any.one (i:=11) (by kernel_rfl) (Rg.Any.dx none rfl rfl rfl (Rg.ak _ _ _ rfl _ rfl _ rfl (Rg.bz _ tC q2.gZ.c1 q2.gZ.f1)) (cF _ _ rfl) ?_);go_frame;refine d7 12 11 (.pointer (some ⟨w1.heap.size,2,none⟩)) 81 rfl rfl (j3 fun w=>aw _ rfl rfl (cJ _ _)) (cF _ _ rfl) ?_;go_frame;refine Rg.Any.one (i:=13) (by kernel_rfl) (Rg.Any.dx none rfl rfl rfl (Rg.ak _ _ _ rfl _ rfl _ rfl (Rg.bz _ qH (q2.gZ.CV _).c2 (q2.gZ.CV _).f2)) (cF _ _ rfl) ?_);go_frame;refine Rg.Any.done (by kernel_rfl) ?_ _;clear cF;clear hS Lh;have Bx:=q2.store (.slice a2 (O.length+1) c2) (.slice a3 (R.length+1) c3);have GL:=(KX.u.setCell (p:=⟨w1.heap.size,1,none⟩) (Nat.le_refl _) (.slice a2 (O.length+1) c2)).setCell (p:=⟨w1.heap.size,2,none⟩) (Nat.le_refl _) (.slice a3 (R.length+1) c3);generalize (X3.setCell ⟨w1.heap.size,1,none⟩ (.slice a2 (O.length+1) c2)).setCell ⟨w1.heap.size,2,none⟩ (.slice a3 (R.length+1) c3)=dB at *;have QL:=U (show dV w1.heap.size dB w1.heap.size (.int .i64 (n:Int)) (.slice a2 (O.length+1) c2) (.slice a3 (R.length+1) c3) (.slice a2 (O.length+1) c2) (.slice a3 (R.length+1) c3) ((O++[l]).map Ma.ah) ((R++[rs]).map (List.map Ma.ah)) by rw [List.map_append,List.map_append]; exact Bx)
     have K2:=U GL;have HO7:=U (show O++[l]=(List.range (k+1)).map fun i=>dQ A i n by rw [List.range_succ,List.map_append,<- O6.u,Ld.u]; rfl);have HR7:=U (show R++[rs]=(List.range (k+1)).map fun i=>fR A i n by rw [List.range_succ,List.map_append,<- O7.u,Le.u]; rfl);clear Bx GL q1 q2 q3 KX FK FJ PD;go_wp2;go_roundw
     case rel=>exact ⟨k+1,_,_,O++[l],R++[rs],by go_num,ba.u,QL,K2,HO7,HR7⟩
     case measure=>simp [intOf]; have:=ba.u; omega
  ·obtain rfl:k=n:=by omega
   have gY:¬ (k:Int)<(k:Int):=by omega
   have TT:=U (FT.u.p K1.u);go_upto_region 3 with fail;refine c6<|j7 rfl<|j7 rfl<|k8 (g8 (.bool false) .lss (h:=aI _ (decide_eq_false gY))) ?_;go_frame;go_upto_region 21 with fail;refine c6<|k8 (Rg.eK _ _ rfl ⟨w1.heap.size,0,none⟩ rfl (mq CH.u.gZ))<|Rg.aG none rfl rfl (Rg.ak _ _ _ rfl _ rfl _ rfl (aJ _ _ _ _ _ _ _ TT.u)) ?_;go_frame;have wV:=Rg.Kp.trans (Rg.Kp.trans (Rg.Kp.aR (M:=fun z=>z=w.heap.size) (w:=w4) (a:=⟨w.heap.size,0,none⟩) (v:=.int .i64 (k:Int)) rfl) (Rg.Kp.aR (M:=fun z=>z=w.heap.size) (a:=⟨w.heap.size,1,none⟩) (v:=(Value.slice dW O.length dX)) rfl) (fun _ _ e=>e)) (Rg.Kp.aR (M:=fun z=>z=w.heap.size) (a:=⟨w.heap.size,2,none⟩) (v:=(Value.slice dK R.length dL)) rfl) (fun _ _ e=>e);have bT:=CH.u.kp wV (fun z e=>by rw [e]; exact GC);have zK:=TT.u.set (.int .i64 (k:Int)) (Value.slice dW O.length dX) (Value.slice dK R.length dL);have py:=((((K.u.trans (K1.u.mono K.u.size)).setCell (p:=⟨w.heap.size,0,none⟩) (Nat.le_refl _) (.int .i64 (k:Int))).setCell (p:=⟨w.heap.size,1,none⟩) (Nat.le_refl _) (Value.slice dW O.length dX)).setCell (p:=⟨w.heap.size,2,none⟩) (Nat.le_refl _) (Value.slice dK R.length dL));have hww:=FT.u.lt;have aa8:∀ (X:World) (c0 c1 c2 a b:Value),dV w1.heap.size X w1.heap.size c0 c1 c2 a b (O.map Ma.ah) (R.map (List.map Ma.ah))->Rg.aL (fun z=>w.heap.size<=z) X a (O.map Ma.ah):=fun _ _ _ _ _ _ h=>h.aa3 (by omega) (by rw [List.length_map,HOn.u]; omega);have GN:∀ (X:World) (c0 c1 c2 a b:Value),dV w1.heap.size X w1.heap.size c0 c1 c2 a b (O.map Ma.ah) (R.map (List.map Ma.ah))->aV (fun z=>w.heap.size<=z) X b (R.map (List.map Ma.ah)):=fun _ _ _ _ _ _ h=>h.aa4 (by omega) (by rw [List.length_map,HRn.u]; omega)
   have oR:∀ (X:World) (a:Value),Rg.aL (fun z=>w.heap.size<=z) X a (O.map Ma.ah)->Rg.aL (fun z=>w.heap.size<=z) X a ((lV A k).map Ma.ah):=fun _ _ h=>by unfold lV; rw [<- O6.u]; exact h
   have dC:∀ (X:World) (a:Value),aV (fun z=>w.heap.size<=z) X a (R.map (List.map Ma.ah))->aV (fun z=>w.heap.size<=z) X a ((lW A k).map (List.map Ma.ah)):=fun _ _ h=>by unfold lW; rw [<- O7.u]; exact h
   go_wp2;exact bodyPost_ret (iw rfl _ rfl zK) rfl ⟨_,_,rfl,oR _ _ (aa8 _ _ _ _ _ _ bT),dC _ _ (GN _ _ _ _ _ _ bT),py⟩
end
end Go.Proofs.YtpedbljnhnoohaaGreat
namespace Go.Proofs.Km
open Go Go.RowKit
open Go.ChangeMaps
structure KT (P:Program) (t k e v:TypeId) (n:Nat) (z:Value):Prop where
 ht:P.underlying t=some (.map k v)
 hk:P.underlying k=some (.array n e)
 he:P.underlying e=some (.int .u8)
 hs:∀ w,(sizeOf e).run P w=.ok 1 w
 hz:∀ w,(zeroValue v).run P w=.ok z w
section
variable {P:Program} {t k e v:TypeId} {n:Nat} {z:Value}
end
end Go.Proofs.Km
namespace Go.Proofs.YtpedbljnhnoohaaGreat
open Go.RowKit
open Go.Proofs
section
open Go.Proofs.Ob
attribute [local irreducible] Go.Calls Go.wpList
theorem MM (n:Nat) (hn:n<=1000000) (w:World):(Instr.makeSlice 26 (.int .i64 (n:Int)) (.int .i64 (n:Int))).run Tryz.prog w=.ok (.slice (some ⟨w.heap.size,0,none⟩) n n) (w.alloc (.cells (madeCells #[.int .i64 0] n) 3)) :=
 run_make_row' 26 3 (.int .i64 0) 8 Tryz.underlying26 uD rfl .i64 .i64 n (by omega) (by omega) w
end
section
open Go.Proofs.Ob
open Go.Proofs.Cm (Gd Gr ar ap)
attribute [local irreducible] Go.Calls Go.wpList
def cd (O:List (List Nat)) (N:Nat):Nat->Nat
 | 0=>1
 | d+1=>(O.getD (N - (d+1)) []).length*cd O N d
theorem yZ {O:List (List Nat)} {N:Nat} (hN:N<=12) (h:∀ i,i<N->(O.getD i []).length<=N - i):∀ d,d<=N->cd O N d<=12 ^ d
 | 0,_=>Nat.le_refl _
 | d+1,hd=>by
  have h1:=yZ hN h d (by omega);have h2:=h (N - (d+1)) (by omega);show _*cd O N d<=12 ^ (d+1);rw [Nat.pow_succ,Nat.mul_comm (12 ^ d) 12];exact Nat.mul_le_mul (by omega) h1
theorem Io (h1:1<=n) (h2:n<=12):(8916100448256:Int)<=Int.tdiv 1000000000000000000 ((n:Nat):Int):=by
 have key:∀ n:Fin 13,1<=n.1->(8916100448256:Int)<=Int.tdiv 1000000000000000000 ((n.1:Nat):Int):=by decide
 exact key ⟨n,by omega⟩ h1
def nW (O:List (List Nat)) (N i:Nat) (j:Nat):Int:=if i<=j then ((cd O N (N - j):Nat):Int) else 0
theorem Ip {i:Nat} (hi:i<N):∀ t,t<N+1->(if t=i then (((O.getD i []).length*cd O N (N - (i+1)):Nat):Int) else nW O N (i+1) t)=nW O N i t:=fun t _=>by
 unfold nW
 by_cases e:t=i
 ·subst e
  rw [if_pos rfl,if_pos (Nat.le_refl _),show N - t=(N - (t+1))+1 by omega,cd,show N - (N - (t+1)+1)=t by omega]
 ·rw [if_neg e]
  by_cases h:i<=t
  ·rw [if_pos (by omega),if_pos h]
  ·rw [if_neg (by omega),if_neg h]
def MN (O:List (List Nat)) (N:Nat) (w:World) (ed:Ending) (w':World):Prop:=∃ g,ed=.returned (.tuple #[.slice (some ⟨g,0,none⟩) (N+1) (N+1),.bool true])/\gi w' g (N+1) (nW O N 0)/\w.heap.size<=g/\BE w w'
theorem EJ (aU:1<=N) (aZ:N<=12) (hH:Cm.cz N H) (bT:ar N H O R) {w:World} (h:bl w ov rv (O.map Ma.ah) (R.map (List.map Ma.ah))) :
  Calls Tryz.prog 151 #[.agg #[.int .i64 ((N:Nat):Int),ov,rv]] w (MN O N w):=by
 obtain ⟨ob,oo,oc,rb,ro,rc,rfl,rfl,-,-⟩:=eG bT h (i:=0) aU;have HH:=U hH;have dc:=U bT;have CE:=U h;have Si:=U aZ;have K:=U (bi w);have uW:=U (fun i hi=>iz hH bT (i:=i) hi);have YH:=U (fun i (hi:i<N)=>List.length_pos_of_mem ((bT.orb i i hi).2 ⟨Ma.bs N,⟨hH.one,Cm.Fx.one (by omega)⟩,Cm.dz hi⟩));clear h hH bT
 go_enter Tryz.func151,Tryz.ntmps151
 go_upto_region 0 with fail;refine c6 ?_;have aN:=eA w (.int .i64 (N:Int)) (.slice (some ⟨ob,oo,none⟩) N oc) (.slice (some ⟨rb,ro,none⟩) N rc);refine k8 (Rg.aY _ _ rfl rfl) ?_;go_frame;have hb:=be w (.cells #[.int .i64 (N:Int),.slice (some ⟨ob,oo,none⟩) N oc,.slice (some ⟨rb,ro,none⟩) N rc] 25);generalize w.alloc (.cells #[.int .i64 (N:Int),.slice (some ⟨ob,oo,none⟩) N oc,.slice (some ⟨rb,ro,none⟩) N rc] 25)=w1 at *;replace CE:=U (CE.u.p hb);replace K:=U (Rg.acc K.u hb);clear hb;have A0:=U aN.1;have A1:=U aN.2.1;have A2:=U aN.2.2;clear aN;refine j8 rfl<|k7 rfl ?_;go_frame;go_upto_region 1 with fail;refine c6<|k8 (j4 (cT _ _))<|k8 (g7 (.int .i64 (N:Int)) ⟨w.heap.size,0,none⟩ (af A0.u.cell))<|k8 (g8 (.int .i64 (((N+1):Nat):Int)) .add (h:=bD _ (by omega) (by omega)))<|k8 (pX _ _ _ rfl _ _ rfl rfl (MM (N+1) (by omega) w1)) ?_;go_frame;refine j8 rfl ?_;go_frame;have lx:=Af w1 (N+1);have Sj:BE w1 (w1.alloc (.cells (madeCells #[.int .i64 0] (N+1)) 3)):=(Below.refl _ _).alloc (Nat.le_refl _) _;obtain ⟨gb,tM⟩:∃ b,w1.heap.size=b:=⟨_,rfl⟩;have Li:=U (show w1.heap.size<=gb from Nat.le_of_eq tM);rw [tM] at lx ⊢;generalize w1.alloc (.cells (madeCells #[.int .i64 0] (N+1)) 3)=wf at *;have RW:=U lx;have KE:=U Sj;have YI:=U (show w.heap.size<=gb from Nat.le_trans K.u.size Li.u);clear lx Sj tM;go_upto_region 2 with fail;refine c6<|j8 rfl<|k8 (j4 (cT _ _))<|k8 (g7 (.int .i64 (N:Int)) ⟨w.heap.size,0,none⟩ (af ((Below.cell (p:=⟨w.heap.size,0,none⟩) KE.u A0.u.lt).trans A0.u.cell)))<|k8 (ag aQ _ _ rfl gb (0) ((N+1)) (N+1) (N) rfl rfl (Nat.lt_succ_self N)) ?_;go_frame
 refine Rg.aG none rfl rfl (Rg.ak _ _ _ rfl _ rfl _ rfl (dS 1 (by rw [Nat.zero_add]; exact RW.u.2.1 N (Nat.lt_succ_self N)) (by rw [Nat.zero_add]; exact RW.u.2.2 N))) ?_;go_frame
 have lx:gi (wf.setCell ⟨gb,0+N,none⟩ (.int .i64 1)) gb (N+1) (nW O N N):=by
  rw [Nat.zero_add];refine (RW.u.set N 1 (Nat.lt_succ_self N)).congr fun t ht=>?_;unfold nW
  by_cases e:t=N
  ·subst e; rw [if_pos rfl,if_pos (Nat.le_refl _),Nat.sub_self]; rfl
  ·rw [if_neg e,if_neg (by omega)]
 have qh:=KE.u.setCell (p:=⟨gb,0+N,none⟩) Li.u (.int .i64 1);generalize wf.setCell ⟨gb,0+N,none⟩ (.int .i64 1)=wg at *;clear RW KE;have RW:=U lx;have KE:=U qh;clear lx qh;obtain ⟨i0,ny⟩:∃ i0,Hid (N=i0+1):=⟨N - 1,U (by omega)⟩;go_upto_region 3 with fail;refine c6<|k8 (j4 (cT _ _))<|k8 (g7 (.int .i64 (N:Int)) ⟨w.heap.size,0,none⟩ (af ((Below.cell (p:=⟨w.heap.size,0,none⟩) KE.u A0.u.lt).trans A0.u.cell)))<|k8 (g8 (.int .i64 ((N:Int) - 1)) .sub (h:=nC _ (by omega) (by omega)))<|j7 rfl ?_;go_frame;have KX:=KE;clear ny i0;go_wp2
 go_loopw [5] (fun iv wr=>∃ i:Nat,iv=.int .i64 (((i:Nat):Int) - 1)/\i<=N/\Hid (gi wr gb (N+1) (nW O N i))/\Hid (BE w1 wr)) (fun iv _=>(intOf iv+1).toNat)
 case atStart=>exact ⟨N,rfl,Nat.le_refl _,RW,KE⟩
 case round =>
  clear RW KE KX;obtain ⟨i,rfl,hi,RW,KE⟩:=hrel;generalize wr=wd at *;have pY:N<=12:=Si.u
  cases i with
  | zero =>
   have KT:=U (show BE w wd from K.u.trans (KE.u.mono K.u.size));go_upto_region 4 with fail;refine c6<|j7 rfl<|k8 (g8 (.bool false) .geq (h:=nG _ f8)) ?_;go_frame;go_upto_region 10 with fail;refine c6<|j8 rfl<|j8 rfl<|k7 rfl ?_;go_frame;go_wp2;go_ret2;exact ⟨gb,rfl,RW.u,YI.u,KT.u⟩
  | succ i =>
   have HI:=U (show i<N by omega)
   have aS:i<N:=by omega
   obtain ⟨ob',oo',Va,rb',ro',rc',e1,e2,⟨ua,uc,pM,lT⟩,-⟩:=eG dc.u CE.u aS
   injection e1 with e1 _ e9
   subst e9
   injection e1 with e1
   injection e1 with e3 e4
   subst e3 e4;clear e2;obtain ⟨n,hn⟩:∃ n:Nat,Hid ((O.getD i []).length=n):=⟨_,U rfl⟩;have Sk:=uW.u i aS;have Iq:=YH.u i aS;rw [hn.u] at pM Sk Iq;have CO:=U pM;obtain ⟨s,hs⟩:∃ s:Nat,Hid (cd O N (N - (i+1))=s):=⟨_,U rfl⟩
   have Ir:s<=743008370688:=by
    have h5:=yZ pY uW.u (N - (i+1)) (by omega);rw [hs.u] at h5;have h6:=Nat.pow_le_pow_right (n:=12) (by decide) (show N - (i+1)<=11 by omega)
    have e:(12:Nat) ^ 11=743008370688:=by decide
    omega
   obtain ⟨q,hq⟩:∃ q:Int,Hid (Int.tdiv 1000000000000000000 ((n:Nat):Int)=q):=⟨_,U rfl⟩
   have YJ:8916100448256<=q:=by rw [<- hq.u]; exact Io Iq (by omega)
   have YK:q<=1000000000000000000:=by rw [<- hq.u]; exact Int.tdiv_le_self _ (by decide)
   have YL:=U (show decide ((s:Int) > q)=false from decide_eq_false (by omega));have YM:=U (show -9223372036854775808<=q/\q<=9223372036854775807 by omega);have oz:=U (show (n:Int)≠0 by omega)
   have YO:n*s<=8916100448256:=by
    have h5:=Nat.mul_le_mul (show n<=12 by omega) Ir;omega
   have YP:=U (show (n:Int)*(s:Int)=(((n*s):Nat):Int) by rw [Int.natCast_mul]);have EK:=U (show -9223372036854775808<=(((n*s):Nat):Int)/\(((n*s):Nat):Int)<=9223372036854775807 by omega)
   have ud:=U (show CL wd gb (0+(i+1)) (.int .i64 (s:Int)) from CL.mk (by
    rw [Nat.zero_add,RW.u.2.1 (i+1) (by omega)];unfold nW
    rw [if_pos (Nat.le_refl _),hs.u]) RW.u.1)
   clear pM lT Ir YJ YK YO;have EI:=U (show ((((i+1:Nat)):Int) - 1)=((i:Nat):Int) by omega);rw [EI.u];go_upto_region 4 with fail;refine c6<|j7 rfl<|k8 (g8 (.bool true) .geq (h:=nG _ f7)) ?_;go_frame;go_upto_region 6 with fail;refine c6<|k8 (j4 (cp _ _))<|k8 (g7 (.slice (some ⟨ob,oo,none⟩) N oc) ⟨w.heap.size,1,none⟩ (Rg.ae _ _ Tryz.underlying22 ((Below.cell (p:=⟨w.heap.size,1,none⟩) KE.u A1.u.lt).trans A1.u.cell)))<|j7 rfl<|k8 (ag bM _ _ rfl ob (oo) (N) oc (i) rfl rfl HI.u) ?_;go_frame;refine k8 (g7 (.slice ua n uc) ⟨ob,oo+i,none⟩ (Rg.ae _ _ Tryz.underlying26 ((Below.cell (p:=⟨ob,oo+i,none⟩) KE.u CO.u.lt).trans CO.u.cell)))<|k8 (g9 Tryz.underlying26)<|j7 rfl ?_;go_frame;go_upto_region 7 with fail;have aj:BE wd wd.drew:=(Below.refl _ _).drew;replace ud:=U (ud.u.p aj);replace RW:=U (RW.u.p aj);replace KE:=U (Rg.acc KE.u aj);clear aj;refine Rg.Any.begin (S:=Rg.aK 7 (fun W=>Below wd.drew.heap.size wd.drew W) (fun W=>BE w1 W)) mix ?_;generalize wd.drew=mS at *;have hS:∀ (l:Array Bool) W,BE mS W->BE w1 W->Rg.aK 7 (fun W=>BE mS W) (fun W=>BE w1 W) l W:=fun l W h h2=>⟨.inr h,h2⟩;have cF:∀ (l:Array Bool) W,l.getD 7 false=true->BE w1 W->Rg.aK 7 (fun W=>BE mS W) (fun W=>BE w1 W) l W:=fun l W h h2=>⟨.inl h,h2⟩;have hI:=KE.u;refine d7 0 7 (.slice (some ⟨gb,0,none⟩) (N+1) (N+1)) 28 rfl rfl (j3 fun w=>Rg.bQ (v:=.slice (some ⟨gb,0,none⟩) (N+1) (N+1)) _ rfl rfl) (hS _ _ (Below.refl _ _) hI)<|d7 1 7 (.int .i64 (i:Int)) 29 rfl rfl (j3 fun w=>Rg.bQ (v:=.int .i64 (i:Int)) _ rfl rfl) (hS _ _ (Below.refl _ _) hI)<|d7 2 7 (.int .i64 (((i+1):Nat):Int)) 30 rfl rfl (j3 fun w=>cg (R:=.int .i64 (((i+1):Nat):Int)) .add _ _ _ rfl rfl rfl (bD _ (by omega) (by omega))) (hS _ _ (Below.refl _ _) hI)<|d7 3 7 (.pointer (some ⟨gb,0+(i+1),none⟩)) 31 rfl rfl (Rg.ai aQ _ _ rfl rfl gb (0) ((N+1)) (N+1) ((i+1)) rfl rfl (by omega)) (hS _ _ (Below.refl _ _) hI)<|j0 4 7 (.int .i64 (s:Int)) 32 rfl rfl (j2 ⟨gb,0+(i+1),none⟩ (fun W hW=>af ((Below.cell (p:=⟨gb,0+(i+1),none⟩) hW ud.u.lt).trans ud.u.cell))) (hS _ _ (Below.refl _ _) hI) ?_;go_frame
   refine d7 5 7 (.int .i64 (n:Int)) 33 rfl rfl (j3 fun w=>Rg.bQ (v:=.int .i64 (n:Int)) _ rfl rfl) (hS _ _ (Below.refl _ _) hI)<|d7 6 7 (.int .i64 q) 34 rfl rfl (j3 fun w=>cg (R:=.int .i64 q) .quo _ _ _ rfl rfl rfl (JA _ oz.u hq.u YM.u)) (hS _ _ (Below.refl _ _) hI)<|j1 7 35 rfl rfl (g8 (.bool false) .gtr (h:=bA _ YL.u)) (cF _ _ rfl hI) ?_;go_frame;refine Rg.Any.done (by kernel_rfl) ?_ _;replace KE:=U hI;clear cF;clear hS hI;go_upto_region 9 with fail;refine c6<|j8 rfl<|j7 rfl<|j7 rfl<|j8 rfl ?_;go_frame;refine j7 rfl<|k8 (g8 (.int .i64 (((i+1):Nat):Int)) .add (h:=bD _ (by omega) (by omega)))<|k8 (ag aQ _ _ rfl gb (0) ((N+1)) (N+1) ((i+1)) rfl rfl (by omega))<|k8 (g7 (.int .i64 (s:Int)) ⟨gb,0+(i+1),none⟩ (af ud.u.cell))<|k8 (g8 (.int .i64 (((n*s):Nat):Int)) .mul (h:=Jz _ YP.u EK.u)) ?_;go_frame;refine k8 (ag aQ _ _ rfl gb (0) ((N+1)) (N+1) (i) rfl rfl (by omega))<|Rg.aG none rfl rfl (Rg.ak _ _ _ rfl _ rfl _ rfl (dS (((n*s):Nat):Int) (by rw [Nat.zero_add]; exact RW.u.2.1 i (by omega)) (by rw [Nat.zero_add]; exact RW.u.2.2 i))) ?_;go_frame;have Sl:=RW;have qh:=KE.u.setCell (p:=⟨gb,0+i,none⟩) Li.u (.int .i64 (((n*s):Nat):Int))
   have lx:gi (mS.setCell ⟨gb,0+i,none⟩ (.int .i64 (((n*s):Nat):Int))) gb (N+1) (nW O N i):=by
    rw [Nat.zero_add];have h5:=Ip (O:=O) aS;rw [hn.u,hs.u] at h5;exact (Sl.u.set i (((n*s):Nat):Int) (by omega)).congr h5
   generalize mS.setCell ⟨gb,0+i,none⟩ (.int .i64 (((n*s):Nat):Int))=wh at *;have pB:=U lx;have YQ:=U qh;clear lx qh;go_upto_region 5 with fail;refine c6<|j7 rfl<|k8 (g8 (.int .i64 ((i:Int) - 1)) .sub (h:=nC _ (by omega) (by omega)))<|j7 rfl ?_;go_frame;go_wp2;go_roundw
   case rel=>exact ⟨i,rfl,by omega,pB,YQ⟩
   case measure=>simp [intOf]
theorem vF (aU:1<=N) (aZ:N<=12) (hH:Cm.cz N H) (bT:ar N H O R) {w:World} (h:bl w ov rv (O.map Ma.ah) (R.map (List.map Ma.ah))) :
  Calls Tryz.prog 82 #[.agg #[.int .i64 ((N:Nat):Int),ov,rv]] w (MN O N w):=by
 obtain ⟨ob,oo,oc,rb,ro,rc,rfl,rfl,-,-⟩:=eG bT h (i:=0) aU;have HH:=U hH;have dc:=U bT;have CE:=U h;have Si:=U aZ;have K:=U (bi w);have uW:=U (fun i hi=>iz hH bT (i:=i) hi);have YH:=U (fun i (hi:i<N)=>List.length_pos_of_mem ((bT.orb i i hi).2 ⟨Ma.bs N,⟨hH.one,Cm.Fx.one (by omega)⟩,Cm.dz hi⟩));clear h hH bT
 go_enter Tryz.func82,Tryz.ntmps82
 go_upto_region 0 with fail;refine c6 ?_;have aN:=eA w (.int .i64 (N:Int)) (.slice (some ⟨ob,oo,none⟩) N oc) (.slice (some ⟨rb,ro,none⟩) N rc);refine k8 (Rg.aY _ _ rfl rfl) ?_;go_frame;have hb:=be w (.cells #[.int .i64 (N:Int),.slice (some ⟨ob,oo,none⟩) N oc,.slice (some ⟨rb,ro,none⟩) N rc] 25);generalize w.alloc (.cells #[.int .i64 (N:Int),.slice (some ⟨ob,oo,none⟩) N oc,.slice (some ⟨rb,ro,none⟩) N rc] 25)=w1 at *;replace CE:=U (CE.u.p hb);replace K:=U (Rg.acc K.u hb);clear hb;have A0:=U aN.1;have A1:=U aN.2.1;have A2:=U aN.2.2;clear aN;refine j8 rfl<|k7 rfl ?_;go_frame;go_upto_region 1 with fail;refine c6<|k8 (j4 (cT _ _))<|k8 (g7 (.int .i64 (N:Int)) ⟨w.heap.size,0,none⟩ (af A0.u.cell))<|k8 (g8 (.int .i64 (((N+1):Nat):Int)) .add (h:=bD _ (by omega) (by omega)))<|k8 (pX _ _ _ rfl _ _ rfl rfl (MM (N+1) (by omega) w1)) ?_;go_frame;refine j8 rfl ?_;go_frame;have lx:=Af w1 (N+1);have Sj:BE w1 (w1.alloc (.cells (madeCells #[.int .i64 0] (N+1)) 3)):=(Below.refl _ _).alloc (Nat.le_refl _) _;obtain ⟨gb,tM⟩:∃ b,w1.heap.size=b:=⟨_,rfl⟩;have Li:=U (show w1.heap.size<=gb from Nat.le_of_eq tM);rw [tM] at lx ⊢;generalize w1.alloc (.cells (madeCells #[.int .i64 0] (N+1)) 3)=wf at *;have RW:=U lx;have KE:=U Sj;have YI:=U (show w.heap.size<=gb from Nat.le_trans K.u.size Li.u);clear lx Sj tM;go_upto_region 2 with fail;refine c6<|j8 rfl<|k8 (j4 (cT _ _))<|k8 (g7 (.int .i64 (N:Int)) ⟨w.heap.size,0,none⟩ (af ((Below.cell (p:=⟨w.heap.size,0,none⟩) KE.u A0.u.lt).trans A0.u.cell)))<|k8 (ag aQ _ _ rfl gb (0) ((N+1)) (N+1) (N) rfl rfl (Nat.lt_succ_self N)) ?_;go_frame
 refine Rg.aG none rfl rfl (Rg.ak _ _ _ rfl _ rfl _ rfl (dS 1 (by rw [Nat.zero_add]; exact RW.u.2.1 N (Nat.lt_succ_self N)) (by rw [Nat.zero_add]; exact RW.u.2.2 N))) ?_;go_frame
 have lx:gi (wf.setCell ⟨gb,0+N,none⟩ (.int .i64 1)) gb (N+1) (nW O N N):=by
  rw [Nat.zero_add];refine (RW.u.set N 1 (Nat.lt_succ_self N)).congr fun t ht=>?_;unfold nW
  by_cases e:t=N
  ·subst e; rw [if_pos rfl,if_pos (Nat.le_refl _),Nat.sub_self]; rfl
  ·rw [if_neg e,if_neg (by omega)]
 have qh:=KE.u.setCell (p:=⟨gb,0+N,none⟩) Li.u (.int .i64 1);generalize wf.setCell ⟨gb,0+N,none⟩ (.int .i64 1)=wg at *;clear RW KE;have RW:=U lx;have KE:=U qh;clear lx qh;obtain ⟨i0,ny⟩:∃ i0,Hid (N=i0+1):=⟨N - 1,U (by omega)⟩;go_upto_region 3 with fail;refine c6<|k8 (j4 (cT _ _))<|k8 (g7 (.int .i64 (N:Int)) ⟨w.heap.size,0,none⟩ (af ((Below.cell (p:=⟨w.heap.size,0,none⟩) KE.u A0.u.lt).trans A0.u.cell)))<|k8 (g8 (.int .i64 ((N:Int) - 1)) .sub (h:=nC _ (by omega) (by omega)))<|j7 rfl ?_;go_frame;have KX:=KE;clear ny i0;go_wp2
 go_loopw [5] (fun iv wr=>∃ i:Nat,iv=.int .i64 (((i:Nat):Int) - 1)/\i<=N/\Hid (gi wr gb (N+1) (nW O N i))/\Hid (BE w1 wr)) (fun iv _=>(intOf iv+1).toNat)
 case atStart=>exact ⟨N,rfl,Nat.le_refl _,RW,KE⟩
 case round =>
  clear RW KE KX;obtain ⟨i,rfl,hi,RW,KE⟩:=hrel;generalize wr=wd at *;have pY:N<=12:=Si.u
  cases i with
  | zero =>
   have KT:=U (show BE w wd from K.u.trans (KE.u.mono K.u.size));go_upto_region 4 with fail;refine c6<|j7 rfl<|k8 (g8 (.bool false) .geq (h:=nG _ f8)) ?_;go_frame;go_upto_region 9 with fail;refine c6<|j8 rfl<|j8 rfl<|k7 rfl ?_;go_frame;go_wp2;go_ret2;exact ⟨gb,rfl,RW.u,YI.u,KT.u⟩
  | succ i =>
   have HI:=U (show i<N by omega)
   have aS:i<N:=by omega
   obtain ⟨ob',oo',Va,rb',ro',rc',e1,e2,⟨ua,uc,pM,lT⟩,-⟩:=eG dc.u CE.u aS
   injection e1 with e1 _ e9
   subst e9
   injection e1 with e1
   injection e1 with e3 e4
   subst e3 e4;clear e2;obtain ⟨n,hn⟩:∃ n:Nat,Hid ((O.getD i []).length=n):=⟨_,U rfl⟩;have Sk:=uW.u i aS;have Iq:=YH.u i aS;rw [hn.u] at pM Sk Iq;have CO:=U pM;obtain ⟨s,hs⟩:∃ s:Nat,Hid (cd O N (N - (i+1))=s):=⟨_,U rfl⟩
   have Ir:s<=743008370688:=by
    have h5:=yZ pY uW.u (N - (i+1)) (by omega);rw [hs.u] at h5;have h6:=Nat.pow_le_pow_right (n:=12) (by decide) (show N - (i+1)<=11 by omega)
    have e:(12:Nat) ^ 11=743008370688:=by decide
    omega
   obtain ⟨q,hq⟩:∃ q:Int,Hid (Int.tdiv 1000000000000000000 ((n:Nat):Int)=q):=⟨_,U rfl⟩
   have YJ:8916100448256<=q:=by rw [<- hq.u]; exact Io Iq (by omega)
   have YK:q<=1000000000000000000:=by rw [<- hq.u]; exact Int.tdiv_le_self _ (by decide)
   have YL:=U (show decide ((s:Int) > q)=false from decide_eq_false (by omega));have YM:=U (show -9223372036854775808<=q/\q<=9223372036854775807 by omega);have oz:=U (show (n:Int)≠0 by omega)
   have YO:n*s<=8916100448256:=by
    have h5:=Nat.mul_le_mul (show n<=12 by omega) Ir;omega
   have YP:=U (show (n:Int)*(s:Int)=(((n*s):Nat):Int) by rw [Int.natCast_mul]);have EK:=U (show -9223372036854775808<=(((n*s):Nat):Int)/\(((n*s):Nat):Int)<=9223372036854775807 by omega)
   have ud:=U (show CL wd gb (0+(i+1)) (.int .i64 (s:Int)) from CL.mk (by
    rw [Nat.zero_add,RW.u.2.1 (i+1) (by omega)];unfold nW
    rw [if_pos (Nat.le_refl _),hs.u]) RW.u.1)
   clear pM lT Ir YJ YK YO;have EI:=U (show ((((i+1:Nat)):Int) - 1)=((i:Nat):Int) by omega);rw [EI.u];go_upto_region 4 with fail;refine c6<|j7 rfl<|k8 (g8 (.bool true) .geq (h:=nG _ f7)) ?_;go_frame;have aa9:=U (show (s:Int)*(n:Int)=(((n*s):Nat):Int) by rw [Int.mul_comm]; exact YP.u);go_upto_region 6 with fail;have aj:BE wd wd.drew:=(Below.refl _ _).drew;replace ud:=U (ud.u.p aj);replace RW:=U (RW.u.p aj);replace KE:=U (Rg.acc KE.u aj);clear aj;refine Rg.Any.begin (S:=Rg.aK 12 (fun W=>Below wd.drew.heap.size wd.drew W) (fun W=>BE w1 W)) mix ?_;generalize wd.drew=mS at *;have hS:∀ (l:Array Bool) W,BE mS W->BE w1 W->Rg.aK 12 (fun W=>BE mS W) (fun W=>BE w1 W) l W:=fun l W h h2=>⟨.inr h,h2⟩;have cF:∀ (l:Array Bool) W,l.getD 12 false=true->BE w1 W->Rg.aK 12 (fun W=>BE mS W) (fun W=>BE w1 W) l W:=fun l W h h2=>⟨.inl h,h2⟩;have hI:=KE.u;refine d7 0 12 (.slice (some ⟨gb,0,none⟩) (N+1) (N+1)) 21 rfl rfl (j3 fun w=>Rg.bQ (v:=.slice (some ⟨gb,0,none⟩) (N+1) (N+1)) _ rfl rfl) (hS _ _ (Below.refl _ _) hI)<|d7 1 12 (.int .i64 (i:Int)) 22 rfl rfl (j3 fun w=>Rg.bQ (v:=.int .i64 (i:Int)) _ rfl rfl) (hS _ _ (Below.refl _ _) hI)<|d7 2 12 (.int .i64 (((i+1):Nat):Int)) 23 rfl rfl (j3 fun w=>cg (R:=.int .i64 (((i+1):Nat):Int)) .add _ _ _ rfl rfl rfl (bD _ (by omega) (by omega))) (hS _ _ (Below.refl _ _) hI)<|d7 3 12 (.pointer (some ⟨gb,0+(i+1),none⟩)) 24 rfl rfl (Rg.ai aQ _ _ rfl rfl gb (0) ((N+1)) (N+1) ((i+1)) rfl rfl (by omega)) (hS _ _ (Below.refl _ _) hI)<|j0 4 12 (.int .i64 (s:Int)) 25 rfl rfl (j2 ⟨gb,0+(i+1),none⟩ (fun W hW=>af ((Below.cell (p:=⟨gb,0+(i+1),none⟩) hW ud.u.lt).trans ud.u.cell))) (hS _ _ (Below.refl _ _) hI) ?_;go_frame
   refine d7 5 12 (.pointer (some ⟨w.heap.size,1,none⟩)) 26 rfl rfl (j3 fun w=>aw _ rfl rfl (cp _ _)) (hS _ _ (Below.refl _ _) hI)<|d7 6 12 (.slice (some ⟨ob,oo,none⟩) N oc) 27 rfl rfl (j2 ⟨w.heap.size,1,none⟩ (fun W hW=>Rg.ae _ _ Tryz.underlying22 ((Below.cell (p:=⟨w.heap.size,1,none⟩) hW A1.u.lt).trans A1.u.cell))) (hS _ _ (Below.refl _ _) hI)<|d7 7 12 (.int .i64 (i:Int)) 28 rfl rfl (j3 fun w=>Rg.bQ (v:=.int .i64 (i:Int)) _ rfl rfl) (hS _ _ (Below.refl _ _) hI)<|d7 8 12 (.pointer (some ⟨ob,oo+i,none⟩)) 29 rfl rfl (Rg.ai bM _ _ rfl rfl ob (oo) (N) oc (i) rfl rfl HI.u) (hS _ _ (Below.refl _ _) hI)<|d7 9 12 (.slice ua n uc) 30 rfl rfl (j2 ⟨ob,oo+i,none⟩ (fun W hW=>Rg.ae _ _ Tryz.underlying26 ((Below.cell (p:=⟨ob,oo+i,none⟩) hW CO.u.lt).trans CO.u.cell))) (hS _ _ (Below.refl _ _) hI) ?_;go_frame;refine d7 10 12 (.int .i64 (n:Int)) 31 rfl rfl (j3 fun w=>ee _ _ _ rfl Tryz.underlying26 _ _ _ rfl) (hS _ _ (Below.refl _ _) hI)<|d7 11 12 (.int .i64 q) 32 rfl rfl (j3 fun w=>cg (R:=.int .i64 q) .quo _ _ _ rfl rfl rfl (JA _ oz.u hq.u YM.u)) (hS _ _ (Below.refl _ _) hI)<|j1 12 33 rfl rfl (g8 (.bool false) .gtr (h:=bA _ YL.u)) (cF _ _ rfl hI) ?_;go_frame;refine Rg.Any.done (by kernel_rfl) ?_ _;replace KE:=U hI;clear cF;clear hS hI;go_upto_region 8 with fail;have aj:BE mS mS.drew:=(Below.refl _ _).drew;replace ud:=U (ud.u.p aj);replace RW:=U (RW.u.p aj);replace KE:=U (Rg.acc KE.u aj);clear aj;refine Rg.Any.begin (S:=Rg.aK 15 (fun W=>Below mS.drew.heap.size mS.drew W) (fun W=>BE w1 W)) mix ?_;generalize mS.drew=Iu at *;have hS:∀ (l:Array Bool) W,BE Iu W->BE w1 W->Rg.aK 15 (fun W=>BE Iu W) (fun W=>BE w1 W) l W:=fun l W h h2=>⟨.inr h,h2⟩;have cF:∀ (l:Array Bool) W,l.getD 15 false=true->BE w1 W->Rg.aK 15 (fun W=>BE Iu W) (fun W=>BE w1 W) l W:=fun l W h h2=>⟨.inl h,h2⟩;have hI:=KE.u
   refine d7 0 15 (.slice (some ⟨gb,0,none⟩) (N+1) (N+1)) 34 rfl rfl (j3 fun w=>Rg.bQ (v:=.slice (some ⟨gb,0,none⟩) (N+1) (N+1)) _ rfl rfl) (hS _ _ (Below.refl _ _) hI)<|d7 1 15 (.int .i64 (i:Int)) 35 rfl rfl (j3 fun w=>Rg.bQ (v:=.int .i64 (i:Int)) _ rfl rfl) (hS _ _ (Below.refl _ _) hI)<|d7 2 15 (.slice (some ⟨gb,0,none⟩) (N+1) (N+1)) 36 rfl rfl (j3 fun w=>Rg.bQ (v:=.slice (some ⟨gb,0,none⟩) (N+1) (N+1)) _ rfl rfl) (hS _ _ (Below.refl _ _) hI)<|d7 3 15 (.int .i64 (i:Int)) 37 rfl rfl (j3 fun w=>Rg.bQ (v:=.int .i64 (i:Int)) _ rfl rfl) (hS _ _ (Below.refl _ _) hI)<|d7 4 15 (.int .i64 (((i+1):Nat):Int)) 38 rfl rfl (j3 fun w=>cg (R:=.int .i64 (((i+1):Nat):Int)) .add _ _ _ rfl rfl rfl (bD _ (by omega) (by omega))) (hS _ _ (Below.refl _ _) hI) ?_;go_frame;refine d7 5 15 (.pointer (some ⟨gb,0+(i+1),none⟩)) 39 rfl rfl (Rg.ai aQ _ _ rfl rfl gb (0) ((N+1)) (N+1) ((i+1)) rfl rfl (by omega)) (hS _ _ (Below.refl _ _) hI)<|j0 6 15 (.int .i64 (s:Int)) 40 rfl rfl (j2 ⟨gb,0+(i+1),none⟩ (fun W hW=>af ((Below.cell (p:=⟨gb,0+(i+1),none⟩) hW ud.u.lt).trans ud.u.cell))) (hS _ _ (Below.refl _ _) hI)<|d7 7 15 (.pointer (some ⟨w.heap.size,1,none⟩)) 41 rfl rfl (j3 fun w=>aw _ rfl rfl (cp _ _)) (hS _ _ (Below.refl _ _) hI)<|d7 8 15 (.slice (some ⟨ob,oo,none⟩) N oc) 42 rfl rfl (j2 ⟨w.heap.size,1,none⟩ (fun W hW=>Rg.ae _ _ Tryz.underlying22 ((Below.cell (p:=⟨w.heap.size,1,none⟩) hW A1.u.lt).trans A1.u.cell))) (hS _ _ (Below.refl _ _) hI)<|d7 9 15 (.int .i64 (i:Int)) 43 rfl rfl (j3 fun w=>Rg.bQ (v:=.int .i64 (i:Int)) _ rfl rfl) (hS _ _ (Below.refl _ _) hI) ?_;go_frame
   refine d7 10 15 (.pointer (some ⟨ob,oo+i,none⟩)) 44 rfl rfl (Rg.ai bM _ _ rfl rfl ob (oo) (N) oc (i) rfl rfl HI.u) (hS _ _ (Below.refl _ _) hI)<|d7 11 15 (.slice ua n uc) 45 rfl rfl (j2 ⟨ob,oo+i,none⟩ (fun W hW=>Rg.ae _ _ Tryz.underlying26 ((Below.cell (p:=⟨ob,oo+i,none⟩) hW CO.u.lt).trans CO.u.cell))) (hS _ _ (Below.refl _ _) hI)<|d7 12 15 (.int .i64 (n:Int)) 46 rfl rfl (j3 fun w=>ee _ _ _ rfl Tryz.underlying26 _ _ _ rfl) (hS _ _ (Below.refl _ _) hI)<|d7 13 15 (.int .i64 (((n*s):Nat):Int)) 47 rfl rfl (j3 fun w=>cg (R:=.int .i64 (((n*s):Nat):Int)) .mul _ _ _ rfl rfl rfl (Jz _ aa9.u EK.u)) (hS _ _ (Below.refl _ _) hI)<|d7 14 15 (.pointer (some ⟨gb,0+i,none⟩)) 48 rfl rfl (Rg.ai aQ _ _ rfl rfl gb (0) ((N+1)) (N+1) (i) rfl rfl (by omega)) (hS _ _ (Below.refl _ _) hI) ?_;go_frame;have Sl:=U RW.u;have Lj:=hI.setCell (p:=⟨gb,0+i,none⟩) Li.u (.int .i64 (((n*s):Nat):Int));refine Rg.Any.one (i:=15) (by kernel_rfl) (Rg.Any.dx none rfl rfl rfl (Rg.ak _ _ _ rfl _ rfl _ rfl (dS (((n*s):Nat):Int) (by rw [Nat.zero_add]; exact Sl.u.2.1 i (by omega)) (by rw [Nat.zero_add]; exact Sl.u.2.2 i))) (cF _ _ rfl Lj) ?_);go_frame;clear hI;clear ud;clear RW;refine Rg.Any.done (by kernel_rfl) ?_ _;replace KE:=U Lj;clear cF;clear hS Lj;have qh:=KE.u
   have lx:gi (Iu.setCell ⟨gb,0+i,none⟩ (.int .i64 (((n*s):Nat):Int))) gb (N+1) (nW O N i):=by
    rw [Nat.zero_add];have h5:=Ip (O:=O) aS;rw [hn.u,hs.u] at h5;exact (Sl.u.set i (((n*s):Nat):Int) (by omega)).congr h5
   generalize Iu.setCell ⟨gb,0+i,none⟩ (.int .i64 (((n*s):Nat):Int))=wh at *;have pB:=U lx;have YQ:=U qh;clear lx qh;go_upto_region 5 with fail;refine c6<|j7 rfl<|k8 (g8 (.int .i64 ((i:Int) - 1)) .sub (h:=nC _ (by omega) (by omega)))<|j7 rfl ?_;go_frame;go_wp2;go_roundw
   case rel=>exact ⟨i,rfl,by omega,pB,YQ⟩
   case measure=>simp [intOf]

abbrev Lk:=List (List Nat) × List (List Int)
def EL (x:List Nat) (wd:List Int) (st:Lk) (y:List Nat × Int):Lk:=if Ma.aq x y.1∈st.1 then st else (st.1++[Ma.aq x y.1],st.2++[wd++[y.2]])
def Ext (st st':Lk):Prop:=st.1 <+: st'.1/\st.2 <+: st'.2
theorem Ext.refl (st:Lk):Ext st st:=⟨List.prefix_rfl,List.prefix_rfl⟩
theorem Ext.trans {a b c:Lk} (h:Ext a b) (h':Ext b c):Ext a c:=⟨h.1.trans h'.1,h.2.trans h'.2⟩
theorem Ext.step (x:List Nat) (wd:List Int) (st:Lk) (y:List Nat × Int):Ext st (EL x wd st y):=by
 unfold EL
 split
 ·exact Ext.refl _
 ·exact ⟨⟨_,rfl⟩,⟨_,rfl⟩⟩
theorem Ext.fold (x:List Nat) (wd:List Int):∀ (l:List (List Nat × Int)) (st:Lk),Ext st (l.foldl (EL x wd) st)
 | [],st=>Ext.refl _
 | y :: l,st=>(Ext.step x wd st y).trans (Ext.fold x wd l _)
def GF (W:World) (mb:Nat) (fv:Value) (k:Nat):Prop:=k<W.heap.size/\k≠mb/\fv.ownBlock≠some k
theorem GF.up {mb:Nat} {fv:Value} {k:Nat} (h:GF W mb fv k) (hs:W.heap.size<=W'.heap.size):GF W' mb fv k:=⟨Nat.lt_of_lt_of_le h.1 hs,h.2⟩
structure EX (W:World) (mb:Nat) (fv:Value) (v:Value) (l:List Int):Prop where
 fi:Rg.FI (GF W mb fv) W v l
theorem EX.kp {W W':World} {mb:Nat} {fv v:Value} {l:List Int} {M:Nat->Prop} (h:EX W mb fv v l) (hk:Rg.Kp M W W') (hM:∀ k,M k->k=mb∨fv.ownBlock=some k):EX W' mb fv v l :=
 ⟨Rg.FI.mono (Rg.FI.kp h.fi hk (fun k g e=>(hM k e).elim g.2.1 g.2.2)) (fun k g=>g.up hk.size)⟩
theorem EX.p {mb:Nat} {fv:Value} {l:List Int} (h:EX W mb fv v l) (hb:BE W W'):EX W' mb fv v l:=h.kp (M:=fun _=>False) (Rg.Kp.aD hb) (fun _=>False.elim)
theorem EX.ints {W:World} {mb:Nat} {fv v:Value} {l:List Int} (h:EX W mb fv v l):Rg.Ints W v l:=h.fi.ints

theorem YR (args:Array Value) (w:World):(callFunc 151 args).run Tryz.prog w=.ok (.enter 151 args) w:=by kernel_rfl
theorem Dp {N:Nat} {H:List Nat->Prop} {O:List (List Nat)} {R:List (List (List Nat))} (h:ar N H O R):∀ i,i<=N->(mD N R i).length*cd O N (N - i)=cd O N N
 | 0,_=>by
  show ([Ma.bs N]:List (List Nat)).length*_=_;simp
 | i+1,hi=>by
  have ih:=Dp h i (by omega);show (lU (R.getD i []) (mD N R i)).length*_=_;rw [ye,h.len i (by omega),<- ih];obtain ⟨d,hd⟩:∃ d,N - i=d+1:=⟨N - i - 1,by omega⟩
  have e1:N - (i+1)=d:=by omega
  have e2:N - (d+1)=i:=by omega
  rw [hd,e1];show _=_*((O.getD (N - (d+1)) []).length*cd O N d);rw [e2,Nat.mul_comm (O.getD i []).length,Nat.mul_assoc]
theorem Sm (h:ar N H O R):(mD N R N).length=cd O N N:=by
 have:=Dp h N (Nat.le_refl _);rw [Nat.sub_self] at this;rw [<- this];show _=_*1;omega
theorem Iv (hg:∀ s∈gs,Gd N s) (aU:1<=N) (aZ:N<=12) (bT:ar N (Cm.Gr N (·∈gs)) O R) {w:World} (h:bl w ov rv (O.map Ma.ah) (R.map (List.map Ma.ah))) :
  Calls Tryz.prog 137 #[.agg #[.int .i64 ((N:Nat):Int),ov,rv]] w fun e w'=>e=.returned (.tuple #[.int .i64 ((cd O N N:Nat):Int),.int .i64 0])/\BE w w':=by
 have dI:bI ((N:Nat):Int) (O.map Ma.ah) (R.map (List.map Ma.ah))=0:=pH (Db aU (by omega) hg bT);obtain ⟨oa,oc,e1,-⟩:=h.1.shape;obtain ⟨ra,rc,e2⟩:=h.2.shape;obtain ⟨on,ir⟩:∃ n,(O.map Ma.ah).length=n:=⟨_,rfl⟩;obtain ⟨rn,iP⟩:∃ n,(R.map (List.map Ma.ah)).length=n:=⟨_,rfl⟩;rw [ir] at e1;rw [iP] at e2;subst e1 e2;clear ir iP;have rm:=U dI;have HC:=U h;have dc:=U bT;have HG:=U hg;have K:=U (bi w);clear h bT dI hg
 go_enter Tryz.func137,Tryz.ntmps137
 go_upto_region 0 with fail;refine c6 ?_;have aN:=eA w (.int .i64 (N:Int)) (.slice oa on oc) (.slice ra rn rc);refine k8 (Rg.aY _ _ rfl rfl) ?_;go_frame;have hb:=be w (.cells #[.int .i64 (N:Int),.slice oa on oc,.slice ra rn rc] 25);generalize w.alloc (.cells #[.int .i64 (N:Int),.slice oa on oc,.slice ra rn rc] 25)=w1 at *;replace HC:=U (HC.u.p hb);replace K:=U (Rg.acc K.u hb);clear hb;have A0:=U aN.1;have A1:=U aN.2.1;have A2:=U aN.2.2;clear aN;refine j7 rfl<|j7 rfl ?_;go_frame;go_upto_region 1 with fail;refine c6<|k8 (g7 ((.agg #[.int .i64 (N:Int),.slice oa on oc,.slice ra rn rc])) ⟨w.heap.size,0,none⟩ (aC A0.u.cell A1.u.cell A2.u.cell)) ?_;go_frame;refine f4 8 (aA 73 _ _ rfl rfl (ED _ _)) ?_;refine (pI HC.u).mono ?_;rintro e1 w2 ⟨rfl,hb⟩;rw [rm.u];refine ⟨_,rfl,?_⟩;go_frame;replace HC:=U (HC.u.p hb);replace A0:=U (A0.u.p hb);replace A1:=U (A1.u.p hb);replace A2:=U (A2.u.p hb);replace K:=U (Rg.acc K.u hb);clear hb;refine j7 rfl ?_;go_frame;go_upto_region 2 with fail;refine c6<|j7 rfl<|k8 (g8 (.bool false) .neq (h:=aE _ (decide_eq_false (by decide)))) ?_;go_frame;go_upto_region 4 with fail;refine c6<|k8 (g7 ((.agg #[.int .i64 (N:Int),.slice oa on oc,.slice ra rn rc])) ⟨w.heap.size,0,none⟩ (aC A0.u.cell A1.u.cell A2.u.cell)) ?_;go_frame;refine f4 14 (aA 151 _ _ rfl rfl (YR _ _)) ?_;refine (EJ aU aZ (Cm.Gr.dE HG.u) dc.u HC.u).mono ?_;rintro e1 w3 ⟨sg,rfl,ue,iU,hb⟩;have hcz:CL w3 sg (0+0) (.int .i64 ((cd O N N:Nat):Int)):=⟨by have:=ue.2.1 0 (by omega); rw [this]; unfold nW; simp,ue.1⟩;clear iU ue;refine ⟨_,rfl,?_⟩;go_frame;replace HC:=U (HC.u.p hb);replace A0:=U (A0.u.p hb);replace A1:=U (A1.u.p hb);replace A2:=U (A2.u.p hb);replace K:=U (Rg.acc K.u hb);clear hb;have CZ:=U hcz
 refine j6 (.tuple #[.slice (some ⟨sg,0,none⟩) (N+1) (N+1),.bool true]) rfl<|k8 (i9 (.slice (some ⟨sg,0,none⟩) (N+1) (N+1)))<|k8 (i9 (.bool true))<|j8 rfl<|k7 rfl ?_;go_frame;go_upto_region 5 with fail;refine c6<|k7 rfl<|k8 (bw _ _ true rfl rfl) ?_;go_frame;go_upto_region 7 with fail;refine c6<|j8 rfl<|k8 (ag aQ _ _ rfl sg (0) ((N+1)) (N+1) (0) rfl rfl (by omega))<|k8 (g7 (.int .i64 (((cd O N N):Nat):Int)) ⟨sg,0+0,none⟩ (af CZ.u.cell))<|j7 rfl ?_;go_frame;refine j7 rfl ?_;go_frame;go_wp2;go_ret2;exact ⟨rfl,K.u⟩

theorem EX.nil {mb:Nat} {fv:Value} (b:Nat):EX W mb fv (.slice (some ⟨b,0,none⟩) 0 0) []:=⟨⟨some ⟨b,0,none⟩,0,rfl,Nat.le_refl _,Nat.zero_le _,Nat.zero_le _,fun h=>absurd h (Nat.lt_irrefl 0)⟩⟩
theorem EX.np {mb:Nat} {fv:Value} {x:List Nat} (h:EX W mb fv v (Ma.ah x)):Rg.NP W v x:=h.fi.ints
theorem EX.new {W W':World} {mb:Nat} {fv v:Value} {x:List Nat} (h:Rg.oZ W W' v x) (hm:mb<W.heap.size) (ho:∀ k,fv.ownBlock=some k->k<W.heap.size):EX W' mb fv v (Ma.ah x) :=
 ⟨Rg.FI.mono (FP.new (F:=fun _=>False) h) fun k g=>by
  rcases g with g | g
  ·exact g.elim
  ·exact ⟨g.2,fun e=>by have:=g.1; omega,fun e=>by have:=ho k e; have:=g.1; omega⟩⟩
end
section
open Go.Proofs.Ob
open Go.Sort
open Go.Proofs.Cm (Gd Gr ar ap)
attribute [local irreducible] Go.Calls Go.wpList
def ElP (F:Nat->Prop) (w:World):={ p:Value × List Int // Rg.FI F w p.1 p.2 }
theorem Sn (F:Nat->Prop) (w:World):Rg.FI F w (.slice none 0 0) []:=⟨none,0,rfl,Nat.le_refl _,Nat.zero_le _,Nat.zero_le _,fun h=>absurd h (Nat.lt_irrefl 0)⟩
instance (F:Nat->Prop) (w:World):Inhabited (ElP F w):=⟨⟨(.slice none 0 0,[]),Sn F w⟩⟩
theorem rq {α:Type} [Inhabited α] {enc:α->Value} {w:World} {blk m:Nat} {dk:Array α} {os:Array Obj}:Rg.Kp (fun z=>z=blk) w (sortWorld enc w blk 0 m dk os):=by
 refine ⟨rfl,rfl,rfl,by simp [sortWorld,grow,putRow,mapBlock,Sort.ahead],fun k hk hn=>?_⟩;unfold sortWorld;rw [heap_grow_old _ _ (by simpa [putRow,mapBlock,Sort.ahead] using hk)];have:blk≠k:=fun e=>hn e.symm;simp [putRow,mapBlock,Sort.ahead,Array.getElem?_modify,this]

theorem O8 {S T:List (List Nat)} (h:S.Perm T) (hs:(S.map Ma.ah).Pairwise (fun a b=>dP b a=false)) (ht:(T.map Ma.ah).Pairwise (fun a b=>dP b a=false)):S=T:=by
 refine dT ?_;refine List.Perm.eq_of_pairwise (le:=fun a b=>dP b a=false) ?_ hs ht (h.map _);intro a b _ _ h1 h2
 by_cases e:a=b
 ·exact e
 ·have:=pL h2 e
  rw [h1] at this; cases this
end
end Go.Proofs.YtpedbljnhnoohaaGreat
set_option linter.unusedVariables false
namespace Go.Proofs.YtpedbljnhnoohaaGreat
open Go.RowKit
open Go.Proofs
open Go.ChangeShapes Go.WideShapes Go.Deep Go.Joins
attribute [local irreducible] Go.Calls
section
variable {H:Type} {enc:TypeId × Value->H}
theorem YS {base:Nat} {r:Reach} {d:DataW H} {p:List MemPlace} (h:DataW.Trod enc Tryz.prog W 0 (fun _=>true) true 27 v d p) (hv:∃ x,v.cells.toList=[x]/\v=x) :
  ∃ l,Rg.eV maxLen W v l:=by
 obtain ⟨fuel,hf⟩:=h;obtain ⟨x,hc,rfl⟩:=hv;rw [hc] at hf
 rcases open_ints Tryz.underlying27 Tryz.underlying3 yU hf with ⟨ep,_⟩ | ⟨a,len,cap,zs,ep,_,hl,hm,hz,_,aP,_⟩
 ·obtain rfl:v=.slice none 0 0:=by simpa using ep
  exact ⟨[],none,0,rfl,by simp,Nat.zero_le _,by simp,fun h=>by simp at h⟩
 ·obtain rfl:v=.slice (some a) len cap:=by simpa using ep
  simp only [if_true] at hz
  have hlen:(zs.take len).length=len:=by rw [List.length_take]; omega
  refine ⟨zs.take len,some a,cap,by rw [List.length_map,hlen],by rw [List.length_map,hlen]; exact hl,hm,by rw [List.length_map,hlen]; omega,fun h0=>?_⟩;rw [List.length_map,hlen] at h0;have cI:=aP 0 (by omega)
  have ha:a=⟨a.block,a.off,none⟩:=by
   have:=mi (a:=a) (by simpa [Addr.add] using cI)
   cases a; simp at this; subst this; rfl
  refine ⟨a.block,a.off,by rw [<- ha],dU (a:=a) (by simpa [Addr.add] using cI),fun i hi=>?_⟩;rw [List.length_map,hlen] at hi;rw [<- n_ ha i,aP i (by omega)];simp [List.getD,List.getElem?_eq_getElem (show i<zs.length by omega)]
end
end Go.Proofs.YtpedbljnhnoohaaGreat
set_option linter.unusedVariables false
namespace Go.Proofs.YtpedbljnhnoohaaGreat
open Go.RowKit
open Go.Proofs
section
open Go.ChangeShapes Go.WideShapes Go.Deep Go.Joins
attribute [local irreducible] Go.Calls
section
variable {H:Type} {enc:TypeId × Value->H}
theorem Sp {base:Nat} {r:Reach} {d:DataW H} {p:List MemPlace} (h:DataW.Trod enc Tryz.prog W 0 (fun _=>true) true 26 v d p) (hv:∃ x,v.cells.toList=[x]/\v=x) :
  ∃ l,Rg.eV maxLen W v l:=by
 obtain ⟨fuel,hf⟩:=h;obtain ⟨x,hc,rfl⟩:=hv;rw [hc] at hf
 rcases open_ints Tryz.underlying26 Tryz.underlying3 yU hf with ⟨ep,_⟩ | ⟨a,len,cap,zs,ep,_,hl,hm,hz,_,aP,_⟩
 ·obtain rfl:v=.slice none 0 0:=by simpa using ep
  exact ⟨[],none,0,rfl,by simp,Nat.zero_le _,by simp,fun h=>by simp at h⟩
 ·obtain rfl:v=.slice (some a) len cap:=by simpa using ep
  simp only [if_true] at hz
  have hlen:(zs.take len).length=len:=by rw [List.length_take]; omega
  refine ⟨zs.take len,some a,cap,by rw [List.length_map,hlen],by rw [List.length_map,hlen]; exact hl,hm,by rw [List.length_map,hlen]; omega,fun h0=>?_⟩;rw [List.length_map,hlen] at h0;have cI:=aP 0 (by omega)
  have ha:a=⟨a.block,a.off,none⟩:=by
   have:=mi (a:=a) (by simpa [Addr.add] using cI)
   cases a; simp at this; subst this; rfl
  refine ⟨a.block,a.off,by rw [<- ha],dU (a:=a) (by simpa [Addr.add] using cI),fun i hi=>?_⟩;rw [List.length_map,hlen] at hi;rw [<- n_ ha i,aP i (by omega)];simp [List.getD,List.getElem?_eq_getElem (show i<zs.length by omega)]
end
end
section
open Go.Proofs.Ob
open Go.Proofs.Cm (Gd Gr ar ap)
attribute [local irreducible] Go.Calls Go.wpList
abbrev YT:=Int × Int × Int
abbrev WT (T:List (List Nat)) (i:Int):Prop:=0<=i/\i<(T.length:Int)
def rnC (T:List (List Nat)) (s:YT):Int :=
 if s.1≠1/\s.1≠2 then 3 else if ¬ WT T s.2.1 then 2 else if s.1=1/\¬ WT T s.2.2 then 2 else 0
def rnE (T:List (List Nat)) (s:YT):List Nat:=if s.1=1 then Ma.aq (T.getD s.2.1.toNat []) (T.getD s.2.2.toNat []) else Ma.bf (T.getD s.2.1.toNat [])
def rn:List YT->List (List Nat)->Int × List (List Nat)
 | [],T=>(0,T)
 | s :: l,T=>if rnC T s≠0 then (rnC T s,T) else rn l (T++[rnE T s])
end
section
open Go.Proofs.Ob
open Go.Proofs.Cm (Tr dg Gr Gd Sd cL dn Fx ap ar cz mj St lJ)
structure En where
 b:Nat
 i:Nat
 p:Nat
 x:List Nat
 at_:Nat
 by_:Int
end
section
open Go.Proofs.Ob
attribute [local irreducible] Go.Calls
theorem O9:(Tryz.prog.info? 3).map (fun i=>(i.zero,i.size,i.bytes))=some (some (.int .i64 0),1,8):=by kernel_rfl
theorem EM (X:World) (i:Int):(Instr.buildSlice 26 1 #[(0,.int .i64 i)]).run Tryz.prog X=.ok (.slice (some ⟨X.heap.size,0,none⟩) 1 1) (X.alloc (.cells #[.int .i64 i] 3)):=by
 obtain ⟨i0,hi,dw,bJ,dZ⟩:=info_parts O9;refine run_buildSlice X 26 3 1 _ _ i0 _ Tryz.underlying26 hi dw (by rw [bJ]; decide) (by rw [bJ]; decide) ?_;generalize (fun x=>((Value.int .i64 0).cells)[x % (Value.int .i64 0).cells.size]!)=f;rw [bJ];have h1:Array.range (1*1)=#[0]:=rfl;simp [Instr.fill,Value.cells,h1]
end
section
open Go.Proofs.Ob
open Go.Proofs.Cm (Gd Gr ar ap lexLt cz St)
def lM (q o:List Nat) (j:Nat):Nat:=o.countP fun y=>decide (ap q y<ap q (o.getD j 0))
def nj (q o:List Nat) (d m:Nat):Nat:=(List.range m).foldl (fun p j=>if lM q o j=d then j else p) 0
theorem pN (q o:List Nat) (d m:Nat):nj q o d (m+1)=if lM q o m=d then m else nj q o d m:=by
 unfold nj; rw [List.range_succ,List.foldl_append]; rfl
theorem Am (q o:List Nat) (d:Nat):∀ m,0<m->nj q o d m<m
 | 0,h=>absurd h (Nat.lt_irrefl 0)
 | m+1,_=>by
  rw [pN]
  split
  ·omega
  ·by_cases e:m=0
   ·subst e; exact Nat.zero_lt_one
   ·have:=Am q o d m (by omega); omega
structure lN (n:Nat) (q o:List Nat):Prop where
 gd:Gd n q
 nd:o.Nodup
 lt:∀ y∈o,y<n
theorem MO {l:List Nat} (h:l.Nodup) {i:Nat} (hi:i<l.length) (hj:j<l.length) (e:l[i]=l[j]):i=j:=by
 rcases Nat.lt_trichotomy i j with h1 | h1 | h1
 ·exact absurd e (List.pairwise_iff_getElem.1 h i j hi hj h1)
 ·exact h1
 ·exact absurd e.symm (List.pairwise_iff_getElem.1 h j i hj hi h1)
theorem lN.at {q o:List Nat} (_:lN n q o) (hj:j<o.length):o.getD j 0=o[j]:=by rw [List.getD_eq_getElem?_getD,List.getElem?_eq_getElem hj]; rfl
theorem lN.inj {q o:List Nat} (h:lN n q o) {i:Nat} (hi:i<o.length) (hj:j<o.length) (e:ap q (o.getD i 0)=ap q (o.getD j 0)):i=j:=by
 rw [h.at hi,h.at hj] at e;have e2:=Cm.kN h.gd (h.lt _ (List.getElem_mem hi)) (h.lt _ (List.getElem_mem hj)) e;exact MO h.nd hi hj e2
theorem Ao {α:Type} {l:List α} {p q:α->Bool} (h:∀ x∈l,p x=true->q x=true) {a:α} (ha:a∈l) (h1:p a=false) (h2:q a=true):l.countP p<l.countP q:=by
 induction l with
 | nil=>simp at ha
 | cons x l ih =>
  rw [List.countP_cons,List.countP_cons]
  rcases List.mem_cons.1 ha with rfl | ha
  ·have:=List.countP_mono_left (l:=l) (p:=p) (q:=q) fun y hy=>h y (List.mem_cons_of_mem _ hy)
   rw [h1,h2]; simp; omega
  ·have:=ih (fun y hy=>h y (List.mem_cons_of_mem _ hy)) ha
   have h3:=h x (List.mem_cons_self ..)
   cases e1:p x <;> cases e2:q x <;> simp <;> first | omega | (rw [e1] at h3; have:=h3 rfl; rw [e2] at this; cases this)
theorem lN.mono {q o:List Nat} (h:lN n q o) {i:Nat} (hi:i<o.length) (e:ap q (o.getD i 0)<ap q (o.getD j 0)):lM q o i<lM q o j:=by
 refine Ao (a:=o[i]) (fun y _ hy=>?_) (List.getElem_mem hi) ?_ ?_
 ·have:=of_decide_eq_true hy; exact decide_eq_true (by omega)
 ·rw [h.at hi]; exact decide_eq_false (Nat.lt_irrefl _)
 ·rw [h.at hi] at e; exact decide_eq_true e
theorem lN.WU {q o:List Nat} (h:lN n q o) {i:Nat} (hi:i<o.length) (hj:j<o.length) (e:lM q o i=lM q o j):i=j:=by
 rcases Nat.lt_trichotomy (ap q (o.getD i 0)) (ap q (o.getD j 0)) with h1 | h1 | h1
 ·have:=h.mono hi h1; omega
 ·exact h.inj hi hj h1
 ·have:=h.mono hj h1; omega
theorem lN.clt {q o:List Nat} (h:lN n q o) {i:Nat} (hi:i<o.length):lM q o i<o.length:=by
 have h1:=Ao (l:=o) (p:=fun y=>decide (ap q y<ap q (o.getD i 0))) (q:=fun _=>true) (fun _ _ _=>rfl) (List.getElem_mem hi) (by rw [h.at hi]; exact decide_eq_false (Nat.lt_irrefl _)) rfl
 have h2:o.countP (fun _=>true)=o.length:=by simp
 unfold lM; omega
theorem lN.ex {q o:List Nat} (h:lN n q o) {d:Nat} (hd:d<o.length):∃ j,j<o.length/\lM q o j=d:=by
 by_cases hh:∃ j,j<o.length/\lM q o j=d
 ·exact hh
 ·exfalso
  have nd:(d :: (List.range o.length).map (lM q o)).Nodup:=by
   refine List.nodup_cons.2 ⟨fun hm=>?_,?_⟩
   ·obtain ⟨j,hj,e⟩:=List.mem_map.1 hm
    exact hh ⟨j,List.mem_range.1 hj,e⟩
   ·refine List.pairwise_iff_getElem.2 fun a b ha hb fL e=>?_
    rw [List.getElem_map,List.getElem_map,List.getElem_range,List.getElem_range] at e;rw [List.length_map,List.length_range] at ha hb;have:=h.WU ha hb e;omega
  have:=eZ nd (m:=List.range o.length) fun x hx=>by
   rcases List.mem_cons.1 hx with rfl | hx
   ·exact List.mem_range.2 hd
   ·obtain ⟨j,hj,rfl⟩:=List.mem_map.1 hx
    exact List.mem_range.2 (h.clt (List.mem_range.1 hj))
  simp at this;omega
theorem lN.pos {n:Nat} {q o:List Nat} (h:lN n q o) {d j:Nat} (hj:j<o.length) (e:lM q o j=d):∀ m,j<m->m<=o.length->nj q o d m=j
 | 0,h1,_=>absurd h1 (Nat.not_lt_zero _)
 | m+1,h1,h2=>by
  rw [pN]
  by_cases e2:j=m
  ·subst e2; rw [if_pos e]
  ·rw [if_neg (fun e3=>e2 (h.WU hj (by omega) (e.trans e3.symm)))]
   exact h.pos hj e m (by omega) (by omega)
variable {N:Nat} {H:List Nat->Prop} {O:List (List Nat)} {R:List (List (List Nat))}
theorem pO (h:ar N H O R) {i k:Nat} (hi:i<N) (hk:k<(O.getD i []).length):St H i ((R.getD i []).getD k [])/\ap ((R.getD i []).getD k []) i=(O.getD i []).getD k 0:=(h.rep i k hi hk).1
theorem rU (hH:cz N H) (h:ar N H O R) {i:Nat} (hi:i<N):i∈O.getD i [] :=
 (h.orb i i hi).2 ⟨Ma.bs N,⟨hH.one,fun j hj=>Cm.dz (by omega)⟩,Cm.dz hi⟩
theorem pP (hH:cz N H) (h:ar N H O R) {i:Nat} (hi:i<N) {q:List Nat} (gq:Gd N q):lN N q (O.getD i []) :=
 ⟨gq,(h.jB i hi).imp fun {a b} fL=>Nat.ne_of_lt fL,fun y hy=>by
  obtain ⟨x,hx,rfl⟩:=(h.orb i y hi).1 hy
  exact Cm.cS (hH.gd x hx.1) hi⟩
def BK (O:List (List Nat)) (R:List (List (List Nat))) (i:Nat) (q:List Nat) (d:Nat):List Nat:=(R.getD i []).getD (nj q (O.getD i []) d (O.getD i []).length) []
def lD (N:Nat) (O:List (List Nat)) (R:List (List (List Nat))):Nat->Nat->List Nat->Nat->List Nat
 | 0,_,q,_=>q
 | m+1,i,q,k=>lD N O R m (i+1) (Ma.aq (BK O R i q (k / cd O N m)) q) (k % cd O N m)
theorem EN (hH:cz N H) (h:ar N H O R) {i:Nat} (hi:i<N) (q:List Nat) (d:Nat):St H i (BK O R i q d)/\ap (BK O R i q d) i=(O.getD i []).getD (nj q (O.getD i []) d (O.getD i []).length) 0 :=
 pO h hi (Am _ _ _ _ (List.length_pos_of_mem (rU hH h hi)))
theorem vG (hH:cz N H) (h:ar N H O R):∀ (m i:Nat) (q:List Nat) (k:Nat),i+m=N->H q->H (lD N O R m i q k)/\∀ j,j<i->ap (lD N O R m i q k) j=ap q j
 | 0,i,q,k,_,hq=>⟨hq,fun _ _=>rfl⟩
 | m+1,i,q,k,e,hq=>by
  have hr:=(EN hH h (show i<N by omega) q (k / cd O N m)).1;obtain ⟨h1,h2⟩:=vG hH h m (i+1) (Ma.aq (BK O R i q (k / cd O N m)) q) (k % cd O N m) (by omega) (hH.mul _ _ hr.1 hq);refine ⟨h1,fun j hj=>?_⟩;show ap (lD N O R m (i+1) _ _) j=_;rw [h2 j (by omega),Cm.bL (hH.gd _ hr.1) (by omega),hr.2 j hj]
theorem vH (hH:cz N H) (h:ar N H O R):∀ m,m<=N->0<cd O N m
 | 0,_=>Nat.zero_lt_one
 | m+1,hm=>Nat.mul_pos (List.length_pos_of_mem (rU hH h (by omega))) (vH hH h m (by omega))
theorem Sq {m k:Nat} (hk:k<cd O N (m+1)):k / cd O N m<(O.getD (N - (m+1)) []).length:=by
 have h0:cd O N (m+1)=(O.getD (N - (m+1)) []).length*cd O N m:=rfl;rw [h0] at hk
 by_cases e:cd O N m=0
 ·rw [e] at hk; omega
 ·exact Nat.div_lt_of_lt_mul (by rw [Nat.mul_comm]; exact hk)
theorem MP (hH:cz N H) (h:ar N H O R) {m i k:Nat} {q:List Nat} (e:i+(m+1)=N) (hq:H q) (hk:k<cd O N (m+1)):∃ j,j<(O.getD i []).length/\nj q (O.getD i []) (k / cd O N m) (O.getD i []).length=j/\lM q (O.getD i []) j=k / cd O N m/\ap (lD N O R (m+1) i q k) i=ap q ((O.getD i []).getD j 0):=by
 have hi:i<N:=by omega
 have ho:=pP hH h hi (hH.gd q hq);obtain ⟨j,hj,hc⟩:=ho.ex (d:=k / cd O N m) (by have:=Sq (O:=O) (N:=N) hk; rwa [show N - (m+1)=i by omega] at this);have hp:=ho.pos hj hc _ hj (Nat.le_refl _);refine ⟨j,hj,hp,hc,?_⟩;obtain ⟨cA,ig⟩:=EN hH h hi q (k / cd O N m);obtain ⟨_,h2⟩:=vG hH h m (i+1) (Ma.aq (BK O R i q (k / cd O N m)) q) (k % cd O N m) (by omega) (hH.mul _ _ cA.1 hq);show ap (lD N O R m (i+1) _ _) i=_;rw [h2 i (by omega),Cm.bL (hH.gd _ cA.1) hi,ig,hp]
theorem Dq (hH:cz N H) (h:ar N H O R):∀ (m i:Nat) (q:List Nat) (k k':Nat),i+m=N->H q->k<k'->k' < cd O N m->lexLt N (lD N O R m i q k) (lD N O R m i q k')
 | 0,i,q,k,k',_,_,h1,h2=>by have:k' < 1:=h2; omega
 | m+1,i,q,k,k',e,hq,h1,h2=>by
  obtain ⟨j,hj,hp,hc,ha⟩:=MP hH h (m:=m) (i:=i) e hq (Nat.lt_trans h1 h2);obtain ⟨j',hj',DV,Bv,ha'⟩:=MP hH h (m:=m) (i:=i) e hq h2;have hs:=vH hH h m (by omega)
  have hi:i<N:=by omega
  have ho:=pP hH h hi (hH.gd q hq)
  by_cases hd:k / cd O N m=k' / cd O N m
  ·have az:k % cd O N m<k' % cd O N m:=by
    have a1:=Nat.div_add_mod k (cd O N m);have a2:=Nat.div_add_mod k' (cd O N m);rw [hd] at a1;omega
   have hr:=(EN hH h hi q (k / cd O N m)).1;have:=Dq hH h m (i+1) (Ma.aq (BK O R i q (k / cd O N m)) q) (k % cd O N m) (k' % cd O N m) (by omega) (hH.mul _ _ hr.1 hq) az (Nat.mod_lt _ hs);show lexLt N (lD N O R m (i+1) _ _) (lD N O R m (i+1) _ _);rw [<- hd];exact this
  ·have az:k / cd O N m<k' / cd O N m:=Nat.lt_of_le_of_ne (Nat.div_le_div_right (Nat.le_of_lt h1)) hd
   refine ⟨i,hi,fun l hl=>?_,?_⟩
   ·rw [(vG hH h (m+1) i q k e hq).2 l hl,(vG hH h (m+1) i q k' e hq).2 l hl]
   ·rw [ha,ha']
    rcases Nat.lt_trichotomy (ap q ((O.getD i []).getD j 0)) (ap q ((O.getD i []).getD j' 0)) with g | g | g
    ·exact g
    ·have:=ho.inj hj hj' g; subst this; omega
    ·have:=ho.mono hj' g; omega
def dR (N:Nat) (O:List (List Nat)) (R:List (List (List Nat))):List (List Nat):=(List.range (cd O N N)).map (lD N O R N 0 (Ma.bs N))
theorem O_ {a z:List Nat} (ha:a.length=n) (hz:z.length=n) (h:lexLt n a z):dP (Ma.ah a) (Ma.ah z)=true:=by
 cases e:dP (Ma.ah a) (Ma.ah z) with
 | true=>rfl
 | false =>
  exfalso
  have hne:Ma.ah a≠Ma.ah z:=fun e2=>by
   have:=Ma.mg e2;subst this;obtain ⟨j,_,_,h3⟩:=h;exact Nat.lt_irrefl _ h3
  have h2:=tZ (by omega) (pL e hne);exact h.asymm h2
theorem fS (hg:∀ s∈gs,Gd N s) (h:ar N (Gr N (·∈gs)) O R):gV N gs (dR N O R):=by
 have hH:=Cm.Gr.dE hg;have aS:∀ k,Gr N (·∈gs) (lD N O R N 0 (Ma.bs N) k):=fun k=>(vG hH h N 0 _ k (by omega) hH.one).1
 have WV:OY ((dR N O R).map Ma.ah):=fun a b ha hb fL=>by
  simp only [dR,List.length_map,List.length_range] at ha hb;simp only [dR,List.getElem_map,List.getElem_range];exact O_ (hH.gd _ (aS _)).2 (hH.gd _ (aS _)).2 (Dq hH h N 0 _ _ _ (by omega) hH.one fL hb)
 refine ⟨WV,fun y=>⟨fun hy=>?_,fun hy=>?_⟩⟩
 ·obtain ⟨k,_,rfl⟩:=List.mem_map.1 hy
  exact aS k
 ·by_cases hm:y∈dR N O R
  ·exact hm
  ·exfalso
   obtain ⟨p1,p2⟩:=Ai hH h
   have:=eZ (l:=y :: dR N O R) (List.nodup_cons.2 ⟨hm,ju WV⟩) (m:=mD N R N) fun x hx=>by
    rw [p2]
    rcases List.mem_cons.1 hx with rfl | hx
    ·exact hy
    ·obtain ⟨k,_,rfl⟩:=List.mem_map.1 hx
     exact aS k
   rw [Sm h] at this;simp [dR] at this;omega
variable {N:Nat} {H:List Nat->Prop} {O:List (List Nat)} {R:List (List (List Nat))}
theorem Sr {m i d r:Nat} {q:List Nat} (hr:r<cd O N m):lD N O R (m+1) i q (d*cd O N m+r)=lD N O R m (i+1) (Ma.aq (BK O R i q d) q) r:=by
 have h0:0<cd O N m:=by omega
 show lD N O R m (i+1) (Ma.aq (BK O R i q ((d*cd O N m+r) / cd O N m)) q) ((d*cd O N m+r) % cd O N m)=_
 have e1:(d*cd O N m+r) / cd O N m=d:=by rw [Nat.mul_comm d,Nat.mul_add_div h0,Nat.div_eq_of_lt hr]; exact Nat.add_zero d
 have e2:(d*cd O N m+r) % cd O N m=r:=by rw [Nat.mul_comm d,Nat.mul_add_mod,Nat.mod_eq_of_lt hr]
 rw [e1,e2]
theorem ry {f:Nat->Nat}:∀ {l:List Nat},l.Pairwise (fun a b=>f a<f b)->∀ {d:Nat} (hd:d<l.length),l.countP (fun y=>decide (f y<f l[d]))=d
 | [],_,d,hd=>absurd hd (Nat.not_lt_zero _)
 | x :: l,h,0,_=>by
  rw [List.pairwise_cons] at h;rw [List.countP_eq_zero];intro y hy;have e:(x :: l)[0]=x:=rfl;rw [e]
  rcases List.mem_cons.1 hy with rfl | hy
  ·simp
  ·have:=h.1 y hy
   simp; omega
 | x :: l,h,d+1,hd=>by
  rw [List.pairwise_cons] at h
  have Pa:d<l.length:=by simpa using hd
  have e:(x :: l)[d+1]'hd=l[d]:=rfl;rw [e,List.countP_cons,ry h.2 Pa,if_pos (decide_eq_true (h.1 _ (List.getElem_mem Pa)))]
theorem Iw {q o l:List Nat} (ho:lN n q o) (hp:l.Perm o) (hs:l.Pairwise (fun a b=>ap q a<ap q b)) {d:Nat} (hd:d<l.length) :
  o.idxOf l[d]<o.length/\o.getD (o.idxOf l[d]) 0=l[d]/\nj q o d o.length=o.idxOf l[d]:=by
 have hm:l[d]∈o:=hp.mem_iff.1 (List.getElem_mem hd);have hj:=List.idxOf_lt_length_of_mem hm
 have e1:o.getD (o.idxOf l[d]) 0=l[d]:=by rw [ho.at hj]; exact List.getElem_idxOf hj
 refine ⟨hj,e1,ho.pos hj ?_ _ hj (Nat.le_refl _)⟩;unfold lM;rw [e1,<- hp.countP_eq];exact ry hs hd
theorem Ll {q l:List Nat} (hq:Gd n q) (hl:∀ y∈l,y<n) (hd:l.Nodup) (h:l.Pairwise (fun a b=>ap q a<=ap q b)):l.Pairwise (fun a b=>ap q a<ap q b):=by
 rw [List.pairwise_iff_getElem] at h ⊢;intro i j hi hj wJ;have h1:=h i j hi hj wJ
 rcases Nat.lt_or_eq_of_le h1 with h3 | h3
 ·exact h3
 ·have:=MO hd hi hj (Cm.kN hq (hl _ (List.getElem_mem hi)) (hl _ (List.getElem_mem hj)) h3)
  omega
end
end Go.Proofs.YtpedbljnhnoohaaGreat
namespace Go.Proofs
open Go.Shelf
def Tryz.vI:Go.Shelf.Ren:=⟨fun | 6=>110 | 15=>139 | 14=>138 | 28=>160 | 29=>161 | 20=>152 | 21=>153 | 22=>154 | 23=>155 | 24=>156 | 25=>157 | 26=>158 | 27=>159 | 46=>175 | 47=>176 | 48=>177 | 49=>178 | 50=>179 | 57=>183 | n=>n,fun | 22=>26 | 24=>3 | 25=>48 | 3=>3 | 39=>177 | 0=>0 | 53=>192 | 55=>194 | 4=>4 | 46=>186 | 45=>185 | 50=>156 | 5=>5 | 9=>9 | 66=>204 | 70=>208 | 76=>212 | 77=>213 | n=>n,fun | n=>n⟩
theorem Tryz.BL:Go.Proofs.SlLaysF.n6 Tryz.prog Tryz.vI:={
 mixed:=by kernel_rfl
 f6:=⟨Tryz.f110.name,by decide,Tryz.func110.trans (congrArg some (by kernel_rfl))⟩
 f14:=⟨Tryz.f138.name,by decide,Tryz.func138.trans (congrArg some (by kernel_rfl))⟩
 f15:=Tryz.func139.trans (congrArg some (by kernel_rfl))
 f20:=⟨Tryz.f152.name,by decide,Tryz.func152.trans (congrArg some (by kernel_rfl))⟩
 f21:=⟨Tryz.f153.name,by decide,Tryz.func153.trans (congrArg some (by kernel_rfl))⟩
 f22:=⟨Tryz.f154.name,by decide,Tryz.func154.trans (congrArg some (by kernel_rfl))⟩
 f23:=⟨Tryz.f155.name,by decide,Tryz.func155.trans (congrArg some (by kernel_rfl))⟩
 f24:=⟨Tryz.f156.name,by decide,Tryz.func156.trans (congrArg some (by kernel_rfl))⟩
 f25:=⟨Tryz.f157.name,by decide,Tryz.func157.trans (congrArg some (by kernel_rfl))⟩
 f26:=⟨Tryz.f158.name,by decide,Tryz.func158.trans (congrArg some (by kernel_rfl))⟩
 f27:=⟨Tryz.f159.name,by decide,Tryz.func159.trans (congrArg some (by kernel_rfl))⟩
 f28:=Tryz.func160.trans (congrArg some (by kernel_rfl))
 f29:=Tryz.func161.trans (congrArg some (by kernel_rfl))
 f46:=⟨Tryz.f175.name,by decide,Tryz.func175.trans (congrArg some (by kernel_rfl))⟩
 f47:=Tryz.func176.trans (congrArg some (by kernel_rfl))
 f48:=Tryz.func177.trans (congrArg some (by kernel_rfl))
 f49:=⟨Tryz.f178.name,by decide,Tryz.func178.trans (congrArg some (by kernel_rfl))⟩
 f50:=⟨Tryz.f179.name,by decide,Tryz.func179.trans (congrArg some (by kernel_rfl))⟩
 f57:=⟨Tryz.f183.name,by decide,Tryz.func183.trans (congrArg some (by kernel_rfl))⟩
 t0:=Tryz.underlying0
 a0:=Tryz.isAgg0
 z0:=Tryz.sizeOf0
 v0:=Tryz.zeroValue0
 t3:=Tryz.underlying3
 a3:=Tryz.isAgg3
 z3:=Tryz.sizeOf3
 v3:=Tryz.zeroValue3
 t4:=Tryz.underlying4
 a4:=Tryz.isAgg4
 z4:=Tryz.sizeOf4
 v4:=Tryz.zeroValue4
 t5:=Tryz.underlying5
 a5:=Tryz.isAgg5
 z5:=Tryz.sizeOf5
 v5:=Tryz.zeroValue5
 t9:=Tryz.underlying9
 a9:=Tryz.isAgg9
 z9:=Tryz.sizeOf9
 v9:=Tryz.zeroValue9
 t22:=Tryz.underlying26
 a22:=Tryz.isAgg26
 z22:=Tryz.sizeOf26
 v22:=Tryz.zeroValue26
 a24:=Tryz.isAgg3
 z24:=Tryz.sizeOf3
 t25:=Tryz.underlying48
 a25:=Tryz.isAgg48
 z25:=Tryz.sizeOf48
 v25:=Tryz.zeroValue48
 t39:=Tryz.underlying177
 a39:=Tryz.isAgg177
 z39:=Tryz.sizeOf177
 v39:=Tryz.zeroValue177
 t45:=Tryz.underlying185
 a45:=Tryz.isAgg185
 z45:=Tryz.sizeOf185
 v45:=Tryz.zeroValue185
 t46:=Tryz.underlying186
 a46:=Tryz.isAgg186
 z46:=Tryz.sizeOf186
 v46:=Tryz.zeroValue186
 t50:=Tryz.underlying156
 a50:=Tryz.isAgg156
 z50:=Tryz.sizeOf156
 v50:=Tryz.zeroValue156
 t53:=Tryz.underlying192
 a53:=Tryz.isAgg192
 z53:=Tryz.sizeOf192
 v53:=Tryz.zeroValue192
 t55:=Tryz.underlying194
 a55:=Tryz.isAgg194
 z55:=Tryz.sizeOf194
 v55:=Tryz.zeroValue194
 t66:=Tryz.underlying204
 a66:=Tryz.isAgg204
 z66:=Tryz.sizeOf204
 v66:=Tryz.zeroValue204
 t70:=Tryz.underlying208
 a70:=Tryz.isAgg208
 z70:=Tryz.sizeOf208
 v70:=Tryz.zeroValue208
 t76:=Tryz.underlying212
 a76:=Tryz.isAgg212
 z76:=Tryz.sizeOf212
 v76:=Tryz.zeroValue212
 t77:=Tryz.underlying213
 a77:=Tryz.isAgg213
 z77:=Tryz.sizeOf213
 v77:=Tryz.zeroValue213 }
open Go.RowKit Go.Lib Go.Sort in
theorem Tryz.sF {α:Type} [Inhabited α] (enc:α->Value) (h1:OneCell enc) (cf:α->α->Int) (hO:SWO (ltOf cf)) (g:Nat) (cb:Array Value) (blk off cap:Nat) (d:Array α) (w:World) (eg:∀ args w,(callFunc g args).run Tryz.prog w=.ok (.enter g args) w) (Ss:CmpLays1 Tryz.prog g cb enc cf blk off d.size w) (hH:Holds enc w blk off d) (hblk:blk<w.heap.size) (cR:d.size<4611686018427387904) :
  Calls Tryz.prog 110 #[.slice (some ⟨blk,off,none⟩) d.size cap,.func (.func g) #[] cb] w fun e w' =>
   e=.returned (.tuple #[])/\∃ d' n os,PermIn 0 d.size d d'/\SortedIn (ltOf cf) 0 d.size d'/\w'=sortWorld enc w blk off n d' os:=Any.slices_SortFunc Tryz.BL enc h1 cf hO g cb blk off cap d w eg Ss hH hblk cR
end Go.Proofs
namespace Go.Proofs.YtpedbljnhnoohaaGreat
open Go.RowKit
open Go.Proofs
section
open Go.Proofs.Ob
open Go.Sort
open Go.Proofs.Cm (Gd Gr ar ap lexLt cz St)
attribute [local irreducible] Go.Calls Go.wpList
theorem Pc {q:List Nat} {uv:Value} {ub:Nat} (gq:Gd N q) (hN:N<=64) (hc:W.cell? ⟨ub,0,none⟩=some uv) (hu:Rg.NP W uv q) {a b:Nat} (ha:a<N) (hb:b<N) :
  Calls Tryz.prog 111 #[.int .i64 ((a:Nat):Int),.int .i64 ((b:Nat):Int),.pointer (some ⟨ub,0,none⟩)] W fun e w'=>e=.returned (.int .i64 (((ap q a:Nat):Int) - ((ap q b:Nat):Int)))/\∃ k,w'=W.drewN k:=by
 obtain ⟨ad,cap,rfl,_,_,_,aP⟩:=hu.shape;have hl:=gq.2;obtain ⟨b0,o0,rfl,_,hr⟩:=aP (by omega);have x1:=hr a (by omega);have x2:=hr b (by omega);have e1:ap q a=q[a]'(by omega):=Cm.kz (by omega);have e2:ap q b=q[b]'(by omega):=Cm.kz (by omega);rw [<- e1] at x1;rw [<- e2] at x2;have l1:=Cm.cS gq ha;have l2:=Cm.cS gq hb
 have oA:(a:Int)<(q.length:Int):=by omega
 have dh:(b:Int)<(q.length:Int):=by omega
 clear hr aP hu e1 e2 gq hl;generalize ap q a=x at *;generalize ap q b=y at *
 go_enter Tryz.func111,Tryz.ntmps111
 go_wp2
 go_quiet (fail)
 go_wp2;go_ret;exact ⟨rfl,_,rfl⟩
def Pd (N:Nat):={ x:Nat // x<N }
def BM {N:Nat} (p:Pd N):Value:=.int .i64 ((p.1:Nat):Int)
def Lm {N:Nat} (q:List Nat) (a b:Pd N):Int:=((ap q a.1:Nat):Int) - ((ap q b.1:Nat):Int)
theorem aa_ (q:List Nat):SWO (ltOf (Lm (N:=N) q)) where
 irrefl x:=by simp [ltOf,Lm]
 trans x y z h1 h2:=by
  have a1:=of_decide_eq_true h1;have a2:=of_decide_eq_true h2;refine decide_eq_true ?_;unfold Lm at *;omega
 ntrans x y z h1 h2:=by
  have a1:=of_decide_eq_false h1;have a2:=of_decide_eq_false h2;refine decide_eq_false ?_;unfold Lm at *;omega
theorem YW:∀ (args:Array Value) (w:World),(callFunc 111 args).run Tryz.prog w=.ok (.enter 111 args) w:=fun _ _=>by kernel_rfl
theorem Ln {q o:List Nat} {uv:Value} {ub:Nat} {blk cap:Nat} (gq:Gd N q) (hN:N<=64) (hc:W.cell? ⟨ub,0,none⟩=some uv) (oN:ub<W.heap.size) (hne:ub≠blk) (hu:Rg.FI (fun z=>z≠blk) W uv (Ma.ah q)) (ho:∀ y∈o,y<N) (kX:o.length<=64)
  (eI:1<=N) (aP:∀ i (h:i<o.length),W.cell? ⟨blk,i,none⟩=some (.int .i64 ((o[i]:Nat):Int))/\W.frozen? ⟨blk,i,none⟩=false) (az:blk<W.heap.size) :
  Calls Tryz.prog 110 #[.slice (some ⟨blk,0,none⟩) o.length cap,.func (.func 111) #[] #[.pointer (some ⟨ub,0,none⟩)]] W fun e w'=>e=.returned (.tuple #[]) /\
   ∃ l:List Nat,l.Perm o/\l.Pairwise (fun a b=>ap q a<=ap q b)/\(∀ i (h:i<l.length),w'.cell? ⟨blk,i,none⟩=some (.int .i64 ((l[i]:Nat):Int)))/\Rg.Kp (fun z=>z=blk) W w':=by
 have _:Inhabited (Pd N):=⟨⟨0,eI⟩⟩
 obtain ⟨d,hd,hde⟩:∃ d:Array (Pd N),d.size=o.length/\∀ i (h:i<d.size) (h2:i<o.length),d[i].1=o[i] :=
  ⟨Array.ofFn (n:=o.length) fun i=>⟨o[i.1],ho _ (List.getElem_mem i.2)⟩,Array.size_ofFn,fun i h h2=>congrArg Subtype.val (Array.getElem_ofFn h)⟩
 have hH:Holds BM W blk 0 d:=fun j hj=>by
  rw [Nat.zero_add,getElem!_pos d j hj]
  have e:BM d[j]=.int .i64 ((o[j]'(by omega):Nat):Int):=by unfold BM; rw [hde j hj (by omega)]
  rw [e];exact aP j (by omega)
 have Ss:CmpLays1 Tryz.prog 111 #[.pointer (some ⟨ub,0,none⟩)] (BM (N:=N)) (Lm q) blk 0 d.size W:=fun m os dk _ x y=>by
  have hk:=rq (enc:=BM) (w:=W) (blk:=blk) (m:=m) (dk:=dk) (os:=os);have hq:=(Rg.FI.kp hu hk (fun z hz e=>hz e)).ints
  have gI:(sortWorld BM W blk 0 m dk os).cell? ⟨ub,0,none⟩=some uv:=by
   rw [<- hc]; unfold World.cell?; rw [hk.block ub oN hne]
  refine (Pc gq hN gI hq x.2 y.2).mono ?_;rintro e w' ⟨h1,k,h2⟩;exact ⟨h1,k,#[],by rw [h2,grow_empty]⟩
 have hs:=Tryz.sF (BM (N:=N)) (fun x=>rfl) (Lm q) (aa_ q) 111 #[.pointer (some ⟨ub,0,none⟩)] blk 0 cap d W YW Ss hH az (by rw [hd]; omega);rw [hd] at hs;refine hs.mono ?_;rintro e w' ⟨rfl,d',m,os,hp,BO,rfl⟩;have hk:=rq (enc:=BM) (w:=W) (blk:=blk) (m:=m) (dk:=d') (os:=os)
 have Pa:d'.size=o.length:=by rw [hp.1,hd]
 have UQ:d'.extract 0 o.length=d':=by rw [<- Pa]; simp
 have hx2:d.extract 0 o.length=d:=by rw [<- hd]; simp
 have hh:=SW.holds (W:=sortWorld BM W blk 0 m d' os) ⟨m,os,rfl⟩ az hH (by rw [Pa,hd]);refine ⟨rfl,d'.toList.map (·.1),?_,?_,fun i h=>?_,hk⟩
 ·have h1:=hp.2.2
  rw [UQ,hx2] at h1;have h2:=h1.map (fun p:Pd N=>p.1)
  have e:d.toList.map (fun p:Pd N=>p.1)=o:=by
   apply List.ext_getElem
   ·simp [hd]
   ·intro i h1 h2
    have h3:i<d.size:=by simpa using h1
    rw [List.getElem_map,Array.getElem_toList,hde i h3 h2]
  rwa [e] at h2
 ·rw [List.pairwise_iff_getElem]
  intro i j hi hj wJ;simp only [List.length_map,Array.length_toList] at hi hj;have:=BO i j (Nat.zero_le _) wJ (by rw [<- Pa]; exact hj);rw [getElem!_pos d' j hj,getElem!_pos d' i hi] at this;have h9:=of_decide_eq_false this;unfold Lm at h9;simp only [List.getElem_map,Array.getElem_toList];omega
 ·have iE:i<d'.size:=by simpa using h
  have:=(hh i iE).1;rw [Nat.zero_add] at this;rw [this,getElem!_pos d' i iE];simp [BM]
theorem Pe {q o:List Nat} {uv:Value} {ub:Nat} (gq:Gd N q) (eI:1<=N) (hN:N<=64) (hc:W.cell? ⟨ub,0,none⟩=some uv) (oN:ub<B) (hB:B<=W.heap.size) (hu:Rg.FI (fun z=>z<B) W uv (Ma.ah q)) (ho:∀ y∈o,y<N) (kX:o.length<=64) (ho1:1<=o.length)
  (h:W.ownsRow B 3 1 v (Ma.ah o).length ((Ma.ah o).map (Value.int .i64))) :
  Calls Tryz.prog 110 #[v,.func (.func 111) #[] #[.pointer (some ⟨ub,0,none⟩)]] W fun e w'=>∃ l:List Nat,e=.returned (.tuple #[])/\l.Perm o/\l.Pairwise (fun a b=>ap q a<=ap q b)/\Rg.FI (fun z=>B<=z) w' v (Ma.ah l)/\Rg.Kp (fun z=>B<=z) W w':=by
 obtain ⟨h1,h2⟩:=h
 rcases h2 with ⟨_,h0⟩ | ⟨g,cap,cur,rfl,hg,oC,h3,h4,h5,h6⟩
 ·rw [Ma.aB] at h0; omega
 rw [Nat.mul_one] at h6;have az:=(Array.getElem?_eq_some_iff.1 oC).1;have hH:=holds_of_blockI oC h6;rw [Ma.aB] at h3 ⊢
 have aP:∀ i (h:i<o.length),W.cell? ⟨g,i,none⟩=some (.int .i64 ((o[i]:Nat):Int))/\W.frozen? ⟨g,i,none⟩=false:=fun i hi=>by
  have iE:i<(Ma.ah o).toArray.size:=by simpa [Ma.aB] using hi
  have:=hH i iE;rw [Nat.zero_add,getElem!_pos _ i iE] at this
  simpa [Ma.ql] using this
 refine (Ln gq hN hc (Nat.lt_of_lt_of_le oN hB) (by omega) (hu.mono fun z hz=>by omega) ho kX eI aP az).mono ?_;rintro e w' ⟨rfl,l,hp,hs,hl,hk⟩;refine ⟨l,rfl,hp,hs,?_,hk.gS fun z hz=>by omega⟩;have ss:l.length=o.length:=hp.length_eq
 have gB:((Ma.ah l).map (Value.int .i64)).length=o.length:=by rw [List.length_map,Ma.aB,ss]
 refine ⟨some ⟨g,0,none⟩,cap,by rw [gB],by rw [gB]; exact h3,h4,by rw [gB]; omega,fun _=>⟨g,0,rfl,Nat.lt_of_lt_of_le az hk.size,hg,fun i hi=>?_⟩⟩
 have iE:i<l.length:=by rw [gB] at hi; omega
 rw [Nat.zero_add,hl i iE,List.getElem_map,Ma.ql]
end
section
open Go.Proofs.Ob
open Go.Proofs.Cm (Gd Gr ar ap)
attribute [local irreducible] Go.Calls Go.wpList
theorem rV (aZ:N<=12) (hH:Cm.cz N H) (bT:ar N H O R) {m:Nat} (hm:m<=N):cd O N m<=8916100448256:=by
 have h5:=yZ aZ (fun i hi=>iz hH bT (i:=i) hi) m hm;have h6:=Nat.pow_le_pow_right (n:=12) (by decide) (show m<=12 by omega)
 have e:(12:Nat) ^ 12=8916100448256:=by decide
 omega
theorem Iy {l:List Nat} {p:Nat->Bool} {b:Nat} (hb:b<l.length):(l.take (b+1)).countP p=(l.take b).countP p+(if p (l.getD b 0) then 1 else 0):=by
 rw [List.take_succ_eq_append_getElem hb,List.countP_append,List.getD_eq_getElem?_getD,List.getElem?_eq_getElem hb];simp [List.countP_cons]
theorem Iz (aU:1<=N) (aZ:N<=12) (hH:Cm.cz N H) (bT:ar N H O R) {w:World} (h:bl w ov rv (O.map Ma.ah) (R.map (List.map Ma.ah))) {g:Nat} (cR:gi w g (N+1) (nW O N 0)) {k0:Nat} (uO:k0<cd O N N) :
  Calls Tryz.prog 83 #[.agg #[.int .i64 ((N:Nat):Int),ov,rv],.slice (some ⟨g,0,none⟩) (N+1) (N+1),.int .i64 ((k0:Nat):Int)] w fun e w'=>∃ v,e=.returned v/\Rg.oZ w w' v (lD N O R N 0 (Ma.bs N) k0)/\BE w w':=by
 obtain ⟨ob,oo,oc,rb,ro,rc,rfl,rfl,-,-⟩:=eG bT h (i:=0) aU;have HH:=U hH;have dc:=U bT;have CE:=U h;have SZ:=U cR;have lC:=U uO;have K:=U (bi w);clear h hH bT cR uO
 go_enter Tryz.func83,Tryz.ntmps83
 go_upto_region 0 with fail;refine c6 ?_;have aN:=eA w (.int .i64 (N:Int)) (.slice (some ⟨ob,oo,none⟩) N oc) (.slice (some ⟨rb,ro,none⟩) N rc);refine k8 (Rg.aY _ _ rfl rfl) ?_;go_frame;have hb:=be w (.cells #[.int .i64 (N:Int),.slice (some ⟨ob,oo,none⟩) N oc,.slice (some ⟨rb,ro,none⟩) N rc] 25);generalize w.alloc (.cells #[.int .i64 (N:Int),.slice (some ⟨ob,oo,none⟩) N oc,.slice (some ⟨rb,ro,none⟩) N rc] 25)=w1 at *;replace CE:=U (CE.u.p hb);replace SZ:=U (SZ.u.p hb);replace K:=U (Rg.acc K.u hb);clear hb;have A0:=U aN.1;have A1:=U aN.2.1;have A2:=U aN.2.2;clear aN;refine j8 rfl ?_;go_frame;go_upto_region 1 with fail;refine c6<|k8 (j4 (cT _ _))<|k8 (g7 (.int .i64 (N:Int)) ⟨w.heap.size,0,none⟩ (af A0.u.cell)) ?_;go_frame;refine f4 16 (aA 66 _ _ rfl rfl (Rc _ _)) ?_;refine (xH N w1 (by omega)).mono ?_;rintro e1 w2 ⟨qv0,rfl,vh,hb⟩;have OC:=U (vh.2.mono K.u.size);refine ⟨_,rfl,?_⟩;go_frame;replace CE:=U (CE.u.p hb);replace SZ:=U (SZ.u.p hb);replace A0:=U (A0.u.p hb);replace A1:=U (A1.u.p hb);replace A2:=U (A2.u.p hb);replace K:=U (Rg.acc K.u hb);clear hb;have NQ:=U (dM.mk vh.1);refine j6 (qv0) rfl ?_;go_frame;clear vh;go_upto_region 2 with fail;refine c6<|j7 rfl ?_;go_frame;have K1:=U (bi w2);have K0:=K;clear K;have HQ0:=U HH.u.one;go_wp2
 go_loopw [2,7,8] (fun kv qv iv wr=>∃ (i k:Nat) (q:List Nat),kv=.int .i64 ((k:Nat):Int)/\iv=.int .i64 ((i:Nat):Int)/\i<=N/\Hid (dM wr qv (Ma.ah q))/\Hid (Rg.eW w.heap.size qv)/\Hid (H q)/\Hid (k<cd O N (N - i))/\Hid (lD N O R (N - i) i q k=lD N O R N 0 (Ma.bs N) k0)/\Hid (BE w2 wr)) (fun _ _ iv _=>N - (intOf iv).toNat)
 case atStart=>exact ⟨0,k0,_,rfl,rfl,Nat.zero_le _,NQ,OC,HQ0,lC,U rfl,K1⟩
 case round =>
  clear NQ OC HQ0 K1;obtain ⟨i,k,q,rfl,rfl,hi,NQ,OC,HQ,ba,EF,KO⟩:=hrel;generalize wr=wA at *;replace CE:=U (CE.u.p KO.u);replace SZ:=U (SZ.u.p KO.u);replace A0:=U (A0.u.p KO.u);replace A1:=U (A1.u.p KO.u);replace A2:=U (A2.u.p KO.u);have GQ:=U (HH.u.gd q HQ.u);obtain ⟨qb,qo,qc,rfl,Su⟩:=NQ.u.at GQ.u.2 aU;clear Su
  by_cases aS:i<N
  case neg =>
   obtain rfl:N=i:=by omega
   go_upto_region 3 with fail;refine c6<|j7 rfl<|k8 (j4 (cT _ _))<|k8 (g7 (.int .i64 (N:Int)) ⟨w.heap.size,0,none⟩ (af A0.u.cell))<|k8 (g8 (.bool false) .lss (h:=aI _ f8)) ?_;go_frame;go_upto_region 20 with fail;refine c6<|j8 rfl<|j8 rfl ?_;go_frame
   have HF:=U (show q=lD N O R N 0 (Ma.bs N) k0 by
    have h5:=EF.u;rw [Nat.sub_self] at h5
    exact h5)
   go_wp2;go_ret;exact ⟨_,rfl,by rw [<- HF.u]; exact ⟨NQ.u.i,OC.u⟩,K0.u.trans (KO.u.mono K0.u.size)⟩
  case pos =>
   obtain ⟨m,hm⟩:∃ m,N - i=m+1:=⟨N - i - 1,by omega⟩
   have YX:N - (i+1)=m:=by omega
   rw [hm] at ba EF;obtain ⟨s,hs⟩:∃ s:Nat,Hid (cd O N m=s):=⟨_,U rfl⟩;have bN:=U aS;have YY:=U (vH HH.u dc.u m (by omega));rw [hs.u] at YY;have qU:k<8916100448256:=Nat.lt_of_lt_of_le ba.u (rV aZ HH.u dc.u (by omega))
   have hsb:s<=8916100448256:=by rw [<- hs.u]; exact rV aZ HH.u dc.u (by omega)
   obtain ⟨os,nR⟩:∃ l,Hid (O.getD i []=l):=⟨_,U rfl⟩;obtain ⟨rl,eQ⟩:∃ l,Hid (R.getD i []=l):=⟨_,U rfl⟩;have Ap:=U (pP HH.u dc.u aS GQ.u);have Sv:=U (List.length_pos_of_mem (rU HH.u dc.u aS));have uW:=U (iz HH.u dc.u aS);have nN:=U (dc.u.len i aS);obtain ⟨ob',oo',Va,rb',ro',rc',e1,e2,⟨ua,uc,pM,lT⟩,⟨va,vc,k9,qg⟩⟩:=eG dc.u CE.u aS;simp only [Value.slice.injEq,Option.some.injEq,Addr.mk.injEq,and_true,true_and] at e1 e2;obtain ⟨⟨rfl,rfl⟩,rfl⟩:=e1;obtain ⟨⟨rfl,rfl⟩,rfl⟩:=e2;rw [nR.u] at pM lT k9 qg Ap Sv uW nN;rw [eQ.u] at qg nN;have Pf:0<os.length:=Sv.u;have kX:os.length<=N - i:=uW.u;obtain ⟨ub,uo,uc',e1,oy⟩:=(dM.mk lT).at (D:=os.length) rfl Pf;simp only [Value.slice.injEq,true_and] at e1;obtain ⟨rfl,rfl⟩:=e1;have CO:=U pM;have NO:=U (dM.mk lT);have CR:=U k9;have RR:=U (gJ.mk qg);clear pM lT k9 qg oy
   have CS:=U (show CL wA g (0+(i+1)) (.int .i64 (s:Int)) from CL.mk (by
    rw [Nat.zero_add,SZ.u.2.1 (i+1) (by omega)];unfold nW
    rw [if_pos (Nat.zero_le _),YX,hs.u]) SZ.u.1)
   obtain ⟨d,hd⟩:∃ d:Nat,Hid (k / s=d):=⟨_,U rfl⟩;obtain ⟨k2,dF⟩:∃ d:Nat,Hid (k % s=d):=⟨_,U rfl⟩;have jS:=U (show ((s:Nat):Int)≠0 by have:=YY.u; omega);have HQU:=U (show Int.tdiv ((k:Nat):Int) ((s:Nat):Int)=((d:Nat):Int) by rw [<- hd.u]; rfl);have HRE:=U (show Int.tmod ((k:Nat):Int) ((s:Nat):Int)=((k2:Nat):Int) by rw [<- dF.u]; rfl);have HK2:=U (show k2<s by rw [<- dF.u]; exact Nat.mod_lt _ YY.u);have HDL:=U (show d<=k by rw [<- hd.u]; exact Nat.div_le_self _ _);have HDB:=U (show -9223372036854775808<=((d:Nat):Int)/\((d:Nat):Int)<=9223372036854775807 by have:=HDL.u; omega);have Aq:=U (show -9223372036854775808<=((k2:Nat):Int)/\((k2:Nat):Int)<=9223372036854775807 by have:=HK2.u; omega);go_upto_region 3 with fail;refine c6<|j7 rfl<|k8 (j4 (cT _ _))<|k8 (g7 (.int .i64 (N:Int)) ⟨w.heap.size,0,none⟩ (af A0.u.cell))<|k8 (g8 (.bool true) .lss (h:=aI _ f7)) ?_;go_frame;go_upto_region 5 with fail;refine c6<|j7 rfl<|j8 rfl<|j7 rfl<|k8 (g8 (.int .i64 (((i+1):Nat):Int)) .add (h:=bD _ (by omega) (by omega))) ?_;go_frame;refine k8 (ag aQ _ _ rfl g (0) ((N+1)) (N+1) ((i+1)) rfl rfl (Nat.succ_lt_succ bN.u))<|k8 (g7 (.int .i64 (s:Int)) ⟨g,0+(i+1),none⟩ (af CS.u.cell))<|k8 (g8 (.int .i64 (d:Int)) .quo (h:=JA _ jS.u HQU.u HDB.u))<|j7 rfl ?_;go_frame;go_upto_region 6 with fail;refine c6<|j7 rfl<|j8 rfl<|j7 rfl<|k8 (g8 (.int .i64 (((i+1):Nat):Int)) .add (h:=bD _ (by omega) (by omega))) ?_;go_frame;refine k8 (ag aQ _ _ rfl g (0) ((N+1)) (N+1) ((i+1)) rfl rfl (Nat.succ_lt_succ bN.u))<|k8 (g7 (.int .i64 (s:Int)) ⟨g,0+(i+1),none⟩ (af CS.u.cell))<|k8 (g8 (.int .i64 (k2:Int)) .rem (h:=Yo _ jS.u HRE.u Aq.u))<|j7 rfl ?_;go_frame
   clear CS;go_upto_region 7 with fail;refine c6<|j7 rfl ?_;go_frame;go_upto_region 8 with fail;refine c6<|j7 rfl ?_;go_frame;have K2:=U (bi wA);go_wp2
   go_loopw [10,11] (fun pv av wr=>∃ a:Nat,pv=.int .i64 ((nj q os d a:Nat):Int)/\av=.int .i64 ((a:Nat):Int)/\a<=os.length/\Hid (BE wA wr)) (fun _ av _=>os.length - (intOf av).toNat)
   case atStart=>exact ⟨0,rfl,rfl,Nat.zero_le _,K2⟩
   case round =>
    clear K2;obtain ⟨a,rfl,rfl,ha,KR⟩:=hrel;generalize wr=wB at *;have YZ:=U (CE.u.p KR.u);have jR:=U (SZ.u.p KR.u);have Y0:=U (A0.u.p KR.u);have Sw:=U (A1.u.p KR.u);have Vt:=U (A2.u.p KR.u);have Vu:=U (NQ.u.p KR.u);have Sx:=U (CO.u.p KR.u);have Y2:=U (NO.u.p KR.u);have Vv:=U (CR.u.p KR.u);have Sy:=U (RR.u.p KR.u);have Vw:=U (Rg.acc KO.u KR.u);have aba:=U (Nat.le_trans K0.u.size Vw.u.size);obtain ⟨pj,Vx⟩:∃ j,Hid (nj q os d a=j):=⟨_,U rfl⟩;rw [Vx.u]
    by_cases hal:a<os.length
    case neg =>
     obtain rfl:a=os.length:=by omega
     have OA:pj<os.length:=by rw [<- Vx.u]; exact Am _ _ _ _ Pf
     have G2:=U OA;go_upto_region 9 with fail;refine c6<|j7 rfl<|k8 (j4 (cp _ _))<|k8 (g7 (.slice (some ⟨ob,oo,none⟩) N oc) ⟨w.heap.size,1,none⟩ (Rg.ae _ _ Tryz.underlying22 Sw.u.cell))<|j7 rfl ?_;go_frame;refine k8 (ag bM _ _ rfl ob (oo) (N) oc (i) rfl rfl bN.u)<|k8 (g7 (.slice (some ⟨ub,uo,none⟩) os.length uc) ⟨ob,oo+i,none⟩ (Rg.ae _ _ Tryz.underlying26 Sx.u.cell))<|k8 (g9 Tryz.underlying26)<|k8 (g8 (.bool false) .lss (h:=aI _ f8)) ?_;go_frame;have GR:=U (show Gd N (rl.getD pj []) by rw [<- eQ.u]; exact HH.u.gd _ (pO dc.u bN.u (by rw [nR.u]; exact G2.u)).1.1);obtain ⟨vb,vo,_,_,e1,bZ,dp,cA⟩:=fQ Sy.u.r (i:=pj) (by rw [List.length_map,nN.u]; exact OA);subst e1
     have e5:(rl.map Ma.ah)[pj]'(by rw [List.length_map,nN.u]; exact OA)=Ma.ah (rl.getD pj []):=by rw [List.getElem_map,List.getD_eq_getElem?_getD,List.getElem?_eq_getElem]; rfl
     rw [e5] at dp cA;obtain ⟨y,hy⟩:∃ y,Hid (rl.getD pj []=y):=⟨_,U rfl⟩;rw [hy.u] at dp cA GR;obtain ⟨ya,yc,dG,-⟩:=cA.shape
     rename_i Y4 Y6
     have CY:=U (CL.mk dp bZ);have NY:=U (dM.mk cA);clear dp bZ cA e5 dG;go_upto_region 19 with fail;refine c6<|k8 (j4 (cJ _ _))<|k8 (g7 (.slice (some ⟨rb,ro,none⟩) N rc) ⟨w.heap.size,2,none⟩ (Rg.ae _ _ Tryz.underlying23 Vt.u.cell))<|j7 rfl<|k8 (ag bG _ _ rfl rb (ro) (N) rc (i) rfl rfl bN.u) ?_;go_frame;refine k8 (g7 (.slice (some ⟨vb,vo,none⟩) os.length vc) ⟨rb,ro+i,none⟩ (Rg.ae _ _ Tryz.underlying41 Vv.u.cell))<|j7 rfl<|k8 (ag aM _ _ rfl vb (vo) (os.length) vc (pj) rfl rfl G2.u)<|k8 (g7 (.slice Y4 (Ma.ah y).length Y6) ⟨vb,vo+pj,none⟩ (Rg.ae _ _ Tryz.underlying27 CY.u.cell))<|j8 rfl ?_;go_frame;refine f4 95 (ax 34 _ _ _ rfl rfl rfl (tH _ _)) ?_;refine (xI _ _ y q wB NY.u.i Vu.u.i (fun z hz=>by rw [GQ.u.2]; exact yX GR.u hz) (by rw [GR.u.2]; omega)).mono ?_;rintro e1 yF ⟨mv,rfl,gX,hb⟩;have HFM:=U (gX.2.mono aba.u);refine ⟨_,rfl,?_⟩;go_frame;replace YZ:=U (YZ.u.p hb);replace jR:=U (jR.u.p hb);replace Y0:=U (Y0.u.p hb);replace Sw:=U (Sw.u.p hb);replace Vt:=U (Vt.u.p hb);replace Vu:=U (Vu.u.p hb);replace Sx:=U (Sx.u.p hb);replace Y2:=U (Y2.u.p hb);replace Vv:=U (Vv.u.p hb);replace Sy:=U (Sy.u.p hb);replace CY:=U (CY.u.p hb);replace NY:=U (NY.u.p hb);replace Vw:=U (Rg.acc Vw.u hb);clear hb;have NM:=U (dM.mk gX.1);refine j6 (mv) rfl ?_;go_frame;go_upto_region 4 with fail;refine c6<|j7 rfl<|k8 (g8 (.int .i64 (((i+1):Nat):Int)) .add (h:=bD _ (by omega) (by omega)))<|j7 rfl ?_;go_frame;have kY:=U (show H (Ma.aq y q) from HH.u.mul _ _ (by rw [<- hy.u,<- eQ.u]; exact (pO dc.u bN.u (by rw [nR.u]; exact G2.u)).1.1) HQ.u);have tJ:=U (show k2<cd O N (N - (i+1)) by rw [YX,hs.u]; exact HK2.u)
     have U4:=U (show lD N O R (N - (i+1)) (i+1) (Ma.aq y q) k2=lD N O R N 0 (Ma.bs N) k0 by
      rw [<- EF.u,YX];show _=lD N O R m (i+1) (Ma.aq ((R.getD i []).getD (nj q (O.getD i []) (k / cd O N m) (O.getD i []).length) []) q) (k % cd O N m)
      rw [hs.u,hd.u,dF.u,nR.u,eQ.u,Vx.u,hy.u])
     go_wp2;go_roundw
     case rel=>exact ⟨i+1,k2,_,rfl,by go_num,bN.u,NM,HFM,kY,tJ,U4,Vw⟩
     case measure=>simp [intOf]; have:=bN.u; omega
    case pos =>
     have IA:=U hal;go_upto_region 9 with fail;refine c6<|j7 rfl<|k8 (j4 (cp _ _))<|k8 (g7 (.slice (some ⟨ob,oo,none⟩) N oc) ⟨w.heap.size,1,none⟩ (Rg.ae _ _ Tryz.underlying22 Sw.u.cell))<|j7 rfl ?_;go_frame;refine k8 (ag bM _ _ rfl ob (oo) (N) oc (i) rfl rfl bN.u)<|k8 (g7 (.slice (some ⟨ub,uo,none⟩) os.length uc) ⟨ob,oo+i,none⟩ (Rg.ae _ _ Tryz.underlying26 Sx.u.cell))<|k8 (g9 Tryz.underlying26)<|k8 (g8 (.bool true) .lss (h:=aI _ f7)) ?_;go_frame;go_upto_region 11 with fail;refine c6<|j7 rfl ?_;go_frame;go_upto_region 12 with fail;refine c6<|j7 rfl ?_;go_frame;obtain ⟨z,hz⟩:∃ z,Hid (os.getD a 0=z):=⟨_,U rfl⟩;have Y7:=U (show z<N by rw [<- hz.u,Ap.u.at IA.u]; exact Ap.u.lt _ (List.getElem_mem _));obtain ⟨qz,hqz⟩:∃ z',Hid (ap q z=z'):=⟨_,U rfl⟩;have K4:=U (bi wB);go_wp2
     go_loopw [12,13] (fun cv bv wr=>∃ b:Nat,cv=.int .i64 (((os.take b).countP (fun y=>decide (ap q y<qz)):Nat):Int)/\bv=.int .i64 ((b:Nat):Int)/\b<=os.length/\Hid (BE wB wr)) (fun _ bv _=>os.length - (intOf bv).toNat)
     case atStart=>exact ⟨0,rfl,rfl,Nat.zero_le _,K4⟩
     case round =>
      clear K4;obtain ⟨b,rfl,rfl,ky,KS⟩:=hrel;have Vy:=U (YZ.u.p KS.u);have Vz:=U (jR.u.p KS.u);have VA:=U (Y0.u.p KS.u);have vJ:=U (Sw.u.p KS.u);have VB:=U (Vt.u.p KS.u);have Sz:=U (Vu.u.p KS.u);have vK:=U (Sx.u.p KS.u);have SA:=U (Y2.u.p KS.u);have VC:=U (Vv.u.p KS.u);have VD:=U (Sy.u.p KS.u);have KR2:=U (Rg.acc KR.u KS.u);obtain ⟨c,hc⟩:∃ c,Hid ((os.take b).countP (fun y=>decide (ap q y<qz))=c):=⟨_,U rfl⟩
      have tV:c<=b:=by
       rw [<- hc.u];exact Nat.le_trans List.countP_le_length (by rw [List.length_take]; omega)
      rw [hc.u]
      by_cases N7:b<os.length
      case neg =>
       obtain rfl:b=os.length:=by omega
       go_upto_region 13 with fail;refine c6<|j7 rfl<|k8 (j4 (cp _ _))<|k8 (g7 (.slice (some ⟨ob,oo,none⟩) N oc) ⟨w.heap.size,1,none⟩ (Rg.ae _ _ Tryz.underlying22 vJ.u.cell))<|j7 rfl ?_;go_frame;refine k8 (ag bM _ _ rfl ob (oo) (N) oc (i) rfl rfl bN.u)<|k8 (g7 (.slice (some ⟨ub,uo,none⟩) os.length uc) ⟨ob,oo+i,none⟩ (Rg.ae _ _ Tryz.underlying26 vK.u.cell))<|k8 (g9 Tryz.underlying26)<|k8 (g8 (.bool false) .lss (h:=aI _ f8)) ?_;go_frame
       have Pg:=U (show lM q os a=c by
        rw [<- hc.u,List.take_length];unfold lM
        rw [hz.u,hqz.u])
       by_cases hcd:c=d
       case pos =>
        skip;go_upto_region 17 with fail;refine c6<|j7 rfl<|j7 rfl<|k8 (g8 (.bool true) .eql (h:=eM _ f7)) ?_;go_frame;go_upto_region 18 with fail;refine c6<|j7 rfl<|j7 rfl ?_;go_frame;go_upto_region 10 with fail;refine c6<|j7 rfl<|k8 (g8 (.int .i64 (((a+1):Nat):Int)) .add (h:=bD _ (by omega) (by omega)))<|j7 rfl ?_;go_frame;have zR:=U (show nj q os d (a+1)=a by rw [pN,Pg.u,if_pos hcd]);go_wp2;go_roundw
        case rel=>exact ⟨a+1,by rw [zR.u],by go_num,IA.u,KR2⟩
        case measure=>simp [intOf]; have:=IA.u; omega
       case neg =>
        go_upto_region 17 with fail;refine c6<|j7 rfl<|j7 rfl<|k8 (g8 (.bool false) .eql (h:=eM _ f8)) ?_;go_frame;go_upto_region 10 with fail;refine c6<|j7 rfl<|k8 (g8 (.int .i64 (((a+1):Nat):Int)) .add (h:=bD _ (by omega) (by omega)))<|j7 rfl ?_;go_frame;have zR:=U (show nj q os d (a+1)=pj by rw [pN,Pg.u,if_neg hcd,Vx.u]);go_wp2;go_roundw
        case rel=>exact ⟨a+1,by rw [zR.u],by go_num,IA.u,KR2⟩
        case measure=>simp [intOf]; have:=IA.u; omega
      case pos =>
       have IC:=U N7;obtain ⟨y,hy⟩:∃ y,Hid (os.getD b 0=y):=⟨_,U rfl⟩;have Y8:=U (show y<N by rw [<- hy.u,Ap.u.at IC.u]; exact Ap.u.lt _ (List.getElem_mem _));obtain ⟨qy,hqy⟩:∃ z',Hid (ap q y=z'):=⟨_,U rfl⟩;obtain ⟨ub',uo',uc',e1,oy⟩:=SA.u.at (D:=os.length) rfl Pf;simp only [Value.slice.injEq,Option.some.injEq,Addr.mk.injEq,and_true,true_and] at e1;obtain ⟨⟨rfl,rfl⟩,rfl⟩:=e1;obtain ⟨qb',qo',qc',e1,Su⟩:=Sz.u.at (D:=N) GQ.u.2 aU;simp only [Value.slice.injEq,Option.some.injEq,Addr.mk.injEq,and_true,true_and] at e1;obtain ⟨⟨rfl,rfl⟩,rfl⟩:=e1;have ID:=U (show CL wr ub (uo+b) (.int .i64 ((y:Nat):Int)) from hy.u▸oy b N7);have IE:=U (show CL wr ub (uo+a) (.int .i64 ((z:Nat):Int)) from hz.u▸oy a IA.u);have IG:=U (show CL wr qb (qo+y) (.int .i64 ((qy:Nat):Int)) from hqy.u▸Su y Y8.u);have II:=U (show CL wr qb (qo+z) (.int .i64 (qz:Int)) from hqz.u▸Su z Y7.u);clear oy Su
       have mR:=U (show (os.take (b+1)).countP (fun y=>decide (ap q y<qz))=c+(if qy<qz then 1 else 0) by
        rw [Iy IC.u,hc.u,hy.u,hqy.u]; simp)
       go_upto_region 13 with fail;refine c6<|j7 rfl<|k8 (j4 (cp _ _))<|k8 (g7 (.slice (some ⟨ob,oo,none⟩) N oc) ⟨w.heap.size,1,none⟩ (Rg.ae _ _ Tryz.underlying22 vJ.u.cell))<|j7 rfl ?_;go_frame;refine k8 (ag bM _ _ rfl ob (oo) (N) oc (i) rfl rfl bN.u)<|k8 (g7 (.slice (some ⟨ub,uo,none⟩) os.length uc) ⟨ob,oo+i,none⟩ (Rg.ae _ _ Tryz.underlying26 vK.u.cell))<|k8 (g9 Tryz.underlying26)<|k8 (g8 (.bool true) .lss (h:=aI _ f7)) ?_;go_frame
       by_cases az:qy<qz
       case pos =>
        rw [if_pos az] at mR;go_upto_region 15 with fail;have aj:BE wr wr.drew:=(Below.refl _ _).drew;replace Vy:=U (Vy.u.p aj);replace Vz:=U (Vz.u.p aj);replace VA:=U (VA.u.p aj);replace vJ:=U (vJ.u.p aj);replace VB:=U (VB.u.p aj);replace Sz:=U (Sz.u.p aj);replace vK:=U (vK.u.p aj);replace SA:=U (SA.u.p aj);replace VC:=U (VC.u.p aj);replace VD:=U (VD.u.p aj);replace ID:=U (ID.u.p aj);replace IE:=U (IE.u.p aj);replace IG:=U (IG.u.p aj);replace II:=U (II.u.p aj);replace KS:=U (Rg.acc KS.u aj);clear aj;refine Rg.Any.begin (S:=Rg.aK 22 (fun _=>True) (fun W=>Below wr.drew.heap.size wr.drew W)) mix ?_;generalize wr.drew=Ar at *;have hS:∀ (l:Array Bool) W,BE Ar W->Rg.aK 22 (fun _=>True) (fun W=>BE Ar W) l W:=fun l W h=>⟨.inr trivial,h⟩;have hI:BE Ar Ar:=Below.refl _ _;refine d8 0 22 (.slice (some ⟨qb,qo,none⟩) N qc) 57 (hS _ _ hI)<|d7 1 22 (.pointer (some ⟨w.heap.size,1,none⟩)) 58 rfl rfl (j3 fun w=>aw _ rfl rfl (cp _ _)) (hS _ _ hI)<|d7 2 22 (.slice (some ⟨ob,oo,none⟩) N oc) 59 rfl rfl (j2 ⟨w.heap.size,1,none⟩ (fun W hW=>Rg.ae _ _ Tryz.underlying22 ((Below.cell (p:=⟨w.heap.size,1,none⟩) hW vJ.u.lt).trans vJ.u.cell))) (hS _ _ hI)<|d8 3 22 (.int .i64 (i:Int)) 60 (hS _ _ hI)<|d7 4 22 (.pointer (some ⟨ob,oo+i,none⟩)) 61 rfl rfl (Rg.ai bM _ _ rfl rfl ob (oo) (N) oc (i) rfl rfl bN.u) (hS _ _ hI) ?_;go_frame;refine d7 5 22 (.slice (some ⟨ub,uo,none⟩) os.length uc) 62 rfl rfl (j2 ⟨ob,oo+i,none⟩ (fun W hW=>Rg.ae _ _ Tryz.underlying26 ((Below.cell (p:=⟨ob,oo+i,none⟩) hW vK.u.lt).trans vK.u.cell))) (hS _ _ hI)<|d8 6 22 (.int .i64 (b:Int)) 63 (hS _ _ hI)<|d7 7 22 (.pointer (some ⟨ub,uo+b,none⟩)) 64 rfl rfl (Rg.ai aQ _ _ rfl rfl ub (uo) (os.length) uc (b) rfl rfl IC.u) (hS _ _ hI)<|d7 8 22 (.int .i64 (y:Int)) 65 rfl rfl (j2 ⟨ub,uo+b,none⟩ (fun W hW=>af ((Below.cell (p:=⟨ub,uo+b,none⟩) hW ID.u.lt).trans ID.u.cell))) (hS _ _ hI)<|d7 9 22 (.pointer (some ⟨qb,qo+y,none⟩)) 66 rfl rfl (Rg.ai bC _ _ rfl rfl qb (qo) (N) qc (y) rfl rfl Y8.u) (hS _ _ hI) ?_;go_frame
        refine d7 10 22 (.int .i64 (qy:Int)) 67 rfl rfl (j2 ⟨qb,qo+y,none⟩ (fun W hW=>af ((Below.cell (p:=⟨qb,qo+y,none⟩) hW IG.u.lt).trans IG.u.cell))) (hS _ _ hI)<|d8 11 22 (.slice (some ⟨qb,qo,none⟩) N qc) 68 (hS _ _ hI)<|d7 12 22 (.pointer (some ⟨w.heap.size,1,none⟩)) 69 rfl rfl (j3 fun w=>aw _ rfl rfl (cp _ _)) (hS _ _ hI)<|d7 13 22 (.slice (some ⟨ob,oo,none⟩) N oc) 70 rfl rfl (j2 ⟨w.heap.size,1,none⟩ (fun W hW=>Rg.ae _ _ Tryz.underlying22 ((Below.cell (p:=⟨w.heap.size,1,none⟩) hW vJ.u.lt).trans vJ.u.cell))) (hS _ _ hI)<|d8 14 22 (.int .i64 (i:Int)) 71 (hS _ _ hI) ?_;go_frame;refine d7 15 22 (.pointer (some ⟨ob,oo+i,none⟩)) 72 rfl rfl (Rg.ai bM _ _ rfl rfl ob (oo) (N) oc (i) rfl rfl bN.u) (hS _ _ hI)<|d7 16 22 (.slice (some ⟨ub,uo,none⟩) os.length uc) 73 rfl rfl (j2 ⟨ob,oo+i,none⟩ (fun W hW=>Rg.ae _ _ Tryz.underlying26 ((Below.cell (p:=⟨ob,oo+i,none⟩) hW vK.u.lt).trans vK.u.cell))) (hS _ _ hI)<|d8 17 22 (.int .i64 (a:Int)) 74 (hS _ _ hI)<|d7 18 22 (.pointer (some ⟨ub,uo+a,none⟩)) 75 rfl rfl (Rg.ai aQ _ _ rfl rfl ub (uo) (os.length) uc (a) rfl rfl IA.u) (hS _ _ hI)<|d7 19 22 (.int .i64 (z:Int)) 76 rfl rfl (j2 ⟨ub,uo+a,none⟩ (fun W hW=>af ((Below.cell (p:=⟨ub,uo+a,none⟩) hW IE.u.lt).trans IE.u.cell))) (hS _ _ hI) ?_;go_frame;refine d7 20 22 (.pointer (some ⟨qb,qo+z,none⟩)) 77 rfl rfl (Rg.ai bC _ _ rfl rfl qb (qo) (N) qc (z) rfl rfl Y7.u) (hS _ _ hI)<|d7 21 22 (.int .i64 (qz:Int)) 78 rfl rfl (j2 ⟨qb,qo+z,none⟩ (fun W hW=>af ((Below.cell (p:=⟨qb,qo+z,none⟩) hW II.u.lt).trans II.u.cell))) (hS _ _ hI)<|j1 22 79 rfl rfl (g8 (.bool true) .lss (h:=aI _ f7)) (hS _ _ hI) ?_;go_frame
        refine Rg.Any.done (by kernel_rfl) ?_ _;clear hS hI;go_upto_region 16 with fail;refine c6<|j7 rfl<|k8 (g8 (.int .i64 (((c+1):Nat):Int)) .add (h:=bD _ (by omega) (by omega)))<|j7 rfl ?_;go_frame;go_upto_region 14 with fail;refine c6<|j7 rfl<|k8 (g8 (.int .i64 (((b+1):Nat):Int)) .add (h:=bD _ (by omega) (by omega)))<|j7 rfl ?_;go_frame;go_wp2;go_roundw
        case rel=>exact ⟨b+1,by rw [mR.u],by go_num,IC.u,KS⟩
        case measure=>simp [intOf]; have:=IC.u; omega
       case neg =>
        rw [if_neg az] at mR;go_upto_region 15 with fail;have aj:BE wr wr.drew:=(Below.refl _ _).drew;replace Vy:=U (Vy.u.p aj);replace Vz:=U (Vz.u.p aj);replace VA:=U (VA.u.p aj);replace vJ:=U (vJ.u.p aj);replace VB:=U (VB.u.p aj);replace Sz:=U (Sz.u.p aj);replace vK:=U (vK.u.p aj);replace SA:=U (SA.u.p aj);replace VC:=U (VC.u.p aj);replace VD:=U (VD.u.p aj);replace ID:=U (ID.u.p aj);replace IE:=U (IE.u.p aj);replace IG:=U (IG.u.p aj);replace II:=U (II.u.p aj);replace KS:=U (Rg.acc KS.u aj);clear aj;refine Rg.Any.begin (S:=Rg.aK 22 (fun _=>True) (fun W=>Below wr.drew.heap.size wr.drew W)) mix ?_;generalize wr.drew=Au at *;have hS:∀ (l:Array Bool) W,BE Au W->Rg.aK 22 (fun _=>True) (fun W=>BE Au W) l W:=fun l W h=>⟨.inr trivial,h⟩;have hI:BE Au Au:=Below.refl _ _;refine d8 0 22 (.slice (some ⟨qb,qo,none⟩) N qc) 57 (hS _ _ hI)<|d7 1 22 (.pointer (some ⟨w.heap.size,1,none⟩)) 58 rfl rfl (j3 fun w=>aw _ rfl rfl (cp _ _)) (hS _ _ hI)<|d7 2 22 (.slice (some ⟨ob,oo,none⟩) N oc) 59 rfl rfl (j2 ⟨w.heap.size,1,none⟩ (fun W hW=>Rg.ae _ _ Tryz.underlying22 ((Below.cell (p:=⟨w.heap.size,1,none⟩) hW vJ.u.lt).trans vJ.u.cell))) (hS _ _ hI)<|d8 3 22 (.int .i64 (i:Int)) 60 (hS _ _ hI)<|d7 4 22 (.pointer (some ⟨ob,oo+i,none⟩)) 61 rfl rfl (Rg.ai bM _ _ rfl rfl ob (oo) (N) oc (i) rfl rfl bN.u) (hS _ _ hI) ?_;go_frame;refine d7 5 22 (.slice (some ⟨ub,uo,none⟩) os.length uc) 62 rfl rfl (j2 ⟨ob,oo+i,none⟩ (fun W hW=>Rg.ae _ _ Tryz.underlying26 ((Below.cell (p:=⟨ob,oo+i,none⟩) hW vK.u.lt).trans vK.u.cell))) (hS _ _ hI)<|d8 6 22 (.int .i64 (b:Int)) 63 (hS _ _ hI)<|d7 7 22 (.pointer (some ⟨ub,uo+b,none⟩)) 64 rfl rfl (Rg.ai aQ _ _ rfl rfl ub (uo) (os.length) uc (b) rfl rfl IC.u) (hS _ _ hI)<|d7 8 22 (.int .i64 (y:Int)) 65 rfl rfl (j2 ⟨ub,uo+b,none⟩ (fun W hW=>af ((Below.cell (p:=⟨ub,uo+b,none⟩) hW ID.u.lt).trans ID.u.cell))) (hS _ _ hI)<|d7 9 22 (.pointer (some ⟨qb,qo+y,none⟩)) 66 rfl rfl (Rg.ai bC _ _ rfl rfl qb (qo) (N) qc (y) rfl rfl Y8.u) (hS _ _ hI) ?_;go_frame
        refine d7 10 22 (.int .i64 (qy:Int)) 67 rfl rfl (j2 ⟨qb,qo+y,none⟩ (fun W hW=>af ((Below.cell (p:=⟨qb,qo+y,none⟩) hW IG.u.lt).trans IG.u.cell))) (hS _ _ hI)<|d8 11 22 (.slice (some ⟨qb,qo,none⟩) N qc) 68 (hS _ _ hI)<|d7 12 22 (.pointer (some ⟨w.heap.size,1,none⟩)) 69 rfl rfl (j3 fun w=>aw _ rfl rfl (cp _ _)) (hS _ _ hI)<|d7 13 22 (.slice (some ⟨ob,oo,none⟩) N oc) 70 rfl rfl (j2 ⟨w.heap.size,1,none⟩ (fun W hW=>Rg.ae _ _ Tryz.underlying22 ((Below.cell (p:=⟨w.heap.size,1,none⟩) hW vJ.u.lt).trans vJ.u.cell))) (hS _ _ hI)<|d8 14 22 (.int .i64 (i:Int)) 71 (hS _ _ hI) ?_;go_frame;refine d7 15 22 (.pointer (some ⟨ob,oo+i,none⟩)) 72 rfl rfl (Rg.ai bM _ _ rfl rfl ob (oo) (N) oc (i) rfl rfl bN.u) (hS _ _ hI)<|d7 16 22 (.slice (some ⟨ub,uo,none⟩) os.length uc) 73 rfl rfl (j2 ⟨ob,oo+i,none⟩ (fun W hW=>Rg.ae _ _ Tryz.underlying26 ((Below.cell (p:=⟨ob,oo+i,none⟩) hW vK.u.lt).trans vK.u.cell))) (hS _ _ hI)<|d8 17 22 (.int .i64 (a:Int)) 74 (hS _ _ hI)<|d7 18 22 (.pointer (some ⟨ub,uo+a,none⟩)) 75 rfl rfl (Rg.ai aQ _ _ rfl rfl ub (uo) (os.length) uc (a) rfl rfl IA.u) (hS _ _ hI)<|d7 19 22 (.int .i64 (z:Int)) 76 rfl rfl (j2 ⟨ub,uo+a,none⟩ (fun W hW=>af ((Below.cell (p:=⟨ub,uo+a,none⟩) hW IE.u.lt).trans IE.u.cell))) (hS _ _ hI) ?_;go_frame;refine d7 20 22 (.pointer (some ⟨qb,qo+z,none⟩)) 77 rfl rfl (Rg.ai bC _ _ rfl rfl qb (qo) (N) qc (z) rfl rfl Y7.u) (hS _ _ hI)<|d7 21 22 (.int .i64 (qz:Int)) 78 rfl rfl (j2 ⟨qb,qo+z,none⟩ (fun W hW=>af ((Below.cell (p:=⟨qb,qo+z,none⟩) hW II.u.lt).trans II.u.cell))) (hS _ _ hI)<|j1 22 79 rfl rfl (g8 (.bool false) .lss (h:=aI _ f8)) (hS _ _ hI) ?_;go_frame
        refine Rg.Any.done (by kernel_rfl) ?_ _;clear hS hI;go_upto_region 14 with fail;refine c6<|j7 rfl<|k8 (g8 (.int .i64 (((b+1):Nat):Int)) .add (h:=bD _ (by omega) (by omega)))<|j7 rfl ?_;go_frame;go_wp2;go_roundw
        case rel=>exact ⟨b+1,by rw [mR.u]; rfl,by go_num,IC.u,KS⟩
        case measure=>simp [intOf]; have:=IC.u; omega
end
section
open Go.Proofs.Ob
open Go.Proofs.Cm (Gd Gr ar ap lexLt cz St)
attribute [local irreducible] Go.Calls Go.wpList
theorem jZ {t:TypeId} {ps rs:Array TypeId} {b:Bool} (ht:Tryz.prog.underlying t=some (.func ps rs b)) {w:World} {ad:Addr} (h:w.cell? ad=some v):(loadVar t ad).run Tryz.prog w=.ok v w:=by
 simp [loadVar,isAgg,run_underlying ht,load];simp [Sem.run,h]
end
end Go.Proofs.YtpedbljnhnoohaaGreat
namespace Go.Proofs.Rg
open Go Go.RowKit
section
variable {n:Nat} {P:Program} {Q:Exit->Act->World->Prop} {md:Region.Mode} {ops:Array Oper}
theorem Ph {id:Nat} {a:Act} {w:World} {l:List Oper} (hm:P.follows .mixedOrders=true) (h:wpAnyIn Fence.wide n P .any l.toArray Q l.toArray.size (Array.replicate l.toArray.size false) a w.drew):(Code.region id l.toArray true).wp P Q a w :=
 (wpIn_wide (n:=n)).1 (wpIn_region_any hm h)
theorem kO {i m:Nat} {l:Array Bool} {a:Act} {w:World} (h:wpOpIn Fence.wide n P ops Q i (wpAnyIn Fence.wide n P md ops Q m (l.setIfInBounds i true)) a w) (hr:Region.ready md ops l=[i]:=by kernel_rfl):wpAnyIn Fence.wide n P md ops Q (m+1) l a w :=
 ⟨fun e=>(by rw [hr] at e; cases e),fun j hj=>by
  rw [hr] at hj
  obtain rfl:j=i:=by simpa using hj
  exact h⟩
theorem MQ {i m:Nat} {l:Array Bool} {a:Act} {w:World} (h:wpOpIn Fence.wide n P ops Q i (wpAnyIn Fence.wide n P md ops Q m (l.setIfInBounds i true)) a w) (h2:wpOpIn Fence.wide n P ops Q j (wpAnyIn Fence.wide n P md ops Q m (l.setIfInBounds j true)) a w) (hr:Region.ready md ops l=[i,j]:=by kernel_rfl):wpAnyIn Fence.wide n P md ops Q (m+1) l a w :=
 ⟨fun e=>(by rw [hr] at e; cases e),fun k hk=>by
  rw [hr] at hk
  rcases List.mem_cons.1 hk with rfl | hk
  ·exact h
  ·obtain rfl:k=j:=by simpa using hk
   exact h2⟩
theorem Av {l:Array Bool} {a:Act} {w:World} (h:Q .normal a w) (hr:Region.ready md ops l=[]:=by kernel_rfl):wpAnyIn Fence.wide n P md ops Q 0 l a w:=⟨hr,h⟩
theorem nk {i:Nat} {o:Oper} {K:Act->World->Prop} {a:Act} {w:World} (d:Option Tmp) (hi:ops[i]?=some o) (hd:o.dst=d) (hw:Region.wanted o (yielded ops a.tmps)=true) (hr:(execOp a.eval o).run P w=.ok (.value v) w') (h:K (a.put d v) w'):wpOpIn Fence.wide n P ops Q i K a w:=by
 subst hd;unfold wpOpIn;rw [hi];simp only [hw,if_true];refine ⟨fun _ _=>trivial,?_⟩;rw [show (Fence.wide).round=none from rfl,Oper.semAt_none,hr];exact h
theorem EO {i:Nat} {o:Oper} {K:Act->World->Prop} {a:Act} {w:World} (d:Option Tmp) (hi:ops[i]?=some o) (hd:o.dst=d) (hw:Region.wanted o (yielded ops a.tmps)=true) (f:FuncId) (args:Array Value) (hr:(execOp a.eval o).run P w=.ok (.enter f args) w) (h:Calls P f args w fun e w'=>∃ v,e=.returned v/\K (a.put d v) w'):wpOpIn Fence.wide n P ops Q i K a w:=by
 subst hd;unfold wpOpIn;rw [hi];simp only [hw,if_true];refine ⟨fun _ _=>trivial,?_⟩;rw [show (Fence.wide).round=none from rfl,Oper.semAt_none,hr];refine ⟨(fun hh=>by cases hh),(callsIn_wide.2 h).mono ?_⟩;rintro e w' ⟨v,rfl,hv⟩;exact hv
theorem xk {i m:Nat} {o:Oper} {K:Act->World->Prop} {a:Act} {w:World} (d:Option Tmp) (hi:ops[i]?=some o) (hd:o.dst=d) (hw:Region.wanted o (yielded ops a.tmps)=true) (l:Nat) (args:Array Value) (hr:∀ r w',(Instr.yield l args).run P w=.ok r w'->(execOp a.eval o).run P w=.ok r w') (h:YieldAt Fence.wide m P l args w fun e w'=>∃ v,e=.returned v/\K (a.put d v) w') (hm:n - 1=m):wpOpIn Fence.wide n P ops Q i K a w:=by
 subst hd hm;obtain ⟨fn,tmps,asg,bd,hy,hR⟩:=h;unfold wpOpIn;rw [hi];simp only [hw,if_true];refine ⟨fun _ _=>trivial,?_⟩;rw [show (Fence.wide).round=none from rfl,Oper.semAt_none,hr _ _ hy];refine ⟨(fun hh=>by cases hh),hR.mono ?_⟩;rintro e w' ⟨v,rfl,hv⟩;exact hv
end
end Go.Proofs.Rg
namespace Go.Proofs.YtpedbljnhnoohaaGreat
open Go.RowKit
open Go.Proofs
open Go.Proofs.Ob
open Go.Proofs.Cm (Gd Gr ar ap lexLt cz St)
attribute [local irreducible] Go.Calls Go.wpList
theorem rz {o:Oper} {a:Act} {w:World} {l:Nat} {x1:Value} (f x:Operand) (qu:Array TypeId) (ho:o.op=.call { callee:=.value f,args:=#[x],argTypes:=qu }) (hf:a.eval f=.func (.yield l) #[] #[]) (hx:a.eval x=x1):∀ r w',(Instr.yield l #[x1]).run Tryz.prog w=.ok r w'->(execOp a.eval o).run Tryz.prog w=.ok r w':=by
 intro r w' h;unfold execOp;simp [ho,hx,hf,resolve,invoke,Deferred.ofValue,h]
theorem abb:Tryz.prog.follows .mixedOrders=true:=by kernel_rfl
structure vL (N:Nat) (O:List (List Nat)) (R:List (List (List Nat))) (F:Nat->Prop) (cb yb wb l:Nat) (ov rv:Value) (W:World):Prop where
 fc:F cb
 fy:F yb
 fw:F wb
 c0:W.cell? ⟨cb,0,none⟩=some (.int .i64 ((N:Nat):Int))
 c1:W.cell? ⟨cb,1,none⟩=some ov
 c2:W.cell? ⟨cb,2,none⟩=some rv
 y:W.cell? ⟨yb,0,none⟩=some (.func (.yield l) #[] #[])
 k:W.cell? ⟨wb,0,none⟩=some (.func (.func 108) #[] #[.pointer (some ⟨cb,0,none⟩),.pointer (some ⟨yb,0,none⟩),.pointer (some ⟨wb,0,none⟩)])
 o:Rg.aL F W ov (O.map Ma.ah)
 r:aV F W rv (R.map (List.map Ma.ah))
 lt:∀ z,F z->z<W.heap.size
section
variable {N:Nat} {O:List (List Nat)} {R:List (List (List Nat))} {F:Nat->Prop} {cb yb wb l:Nat} {ov rv:Value} {W W':World}
theorem rA {C:Nat->Prop} (hk:Rg.Kp C W W') {b k:Nat} (hb:b<W.heap.size) (hn:¬ C b):W'.cell? ⟨b,k,none⟩=W.cell? ⟨b,k,none⟩:=by
 unfold World.cell?; rw [hk.block b hb hn]
theorem vL.kp (h:vL N O R F cb yb wb l ov rv W) {C:Nat->Prop} (hk:Rg.Kp C W W') (hd:∀ z,F z->¬ C z):vL N O R F cb yb wb l ov rv W':=by
 have e:∀ {b k:Nat},F b->W'.cell? ⟨b,k,none⟩=W.cell? ⟨b,k,none⟩:=fun hb=>rA hk (h.lt _ hb) (hd _ hb);exact ⟨h.fc,h.fy,h.fw,(e h.fc).trans h.c0,(e h.fc).trans h.c1,(e h.fc).trans h.c2,(e h.fy).trans h.y,(e h.fw).trans h.k,h.o.kp hk hd,h.r.kp hk hd,fun z hz=>Nat.lt_of_lt_of_le (h.lt z hz) hk.size⟩
theorem vL.p (h:vL N O R F cb yb wb l ov rv W) (hb:BE W W'):vL N O R F cb yb wb l ov rv W':=h.kp (C:=fun _=>False) (Rg.Kp.aD hb) (fun _ _=>id)
theorem vL.mono (h:vL N O R F cb yb wb l ov rv W) {F':Nat->Prop} (hF:∀ z,F z->F' z) (az:∀ z,F' z->z<W.heap.size):vL N O R F' cb yb wb l ov rv W :=
 ⟨hF _ h.fc,hF _ h.fy,hF _ h.fw,h.c0,h.c1,h.c2,h.y,h.k,h.o.mono hF,h.r.mono hF,az⟩
theorem vL.ce (h:vL N O R F cb yb wb l ov rv W):bl W ov rv (O.map Ma.ah) (R.map (List.map Ma.ah)):=⟨h.o.rows,h.r.rows⟩
end
def Y9 (l:Nat) (LL:List (List Nat)) (J:Nat->(Nat->Prop)->World->Prop) (Jx:World->Prop):Prop :=
 ∀ (m t:Nat) (C:Nat->Prop) (W:World) (uv:Value),t<LL.length->J t C W->Rg.FI (fun z=>¬ C z) W uv (Ma.ah (LL.getD t []))->YieldAt Fence.wide m Tryz.prog l #[uv] W fun e W' =>
  (e=.returned (.bool true)/\∃ C':Nat->Prop,J (t+1) C' W'/\Rg.Kp C W W'/\∀ z,C' z->C z∨W.heap.size<=z)∨(e=.returned (.bool false)/\Jx W')
def SB (J:Nat->(Nat->Prop)->World->Prop) (Jx:World->Prop) (t:Nat) (C:Nat->Prop) (W:World) (e:Ending) (W':World):Prop :=
 (e=.returned (.bool true)/\∃ C':Nat->Prop,J t C' W'/\Rg.Kp C W W'/\∀ z,C' z->C z∨W.heap.size<=z)∨(e=.returned (.bool false)/\Jx W')
theorem VE {l:List Int} (h:W.ownsRow B 3 1 v l.length (l.map (Value.int .i64))) (hl:l.length<=1000000):Rg.FI (fun z=>B<=z) W v l:=g_.fi ⟨h⟩ (by omega) (fun k h1 _=>h1)
theorem Lo (eI:1<=N) (hN:N<=64) {cb yb wb l:Nat} {J:Nat->(Nat->Prop)->World->Prop} {Jx:World->Prop}
  (hY:Y9 l LL J Jx) (hJ:∀ t C W W',J t C W->BE W W'->J t C W') (hC:∀ t C W,J t C W->∀ z,C z->z<W.heap.size) {t:Nat} {q:List Nat} {uv:Value} {C:Nat->Prop} (ht:t<LL.length) (hq:LL.getD t []=q) (gq:Gd N q) (hW:vL N O R F cb yb wb l ov rv W) (hu:Rg.FI F W uv (Ma.ah q)) (hj:J t C W) (hd:∀ z,F z->¬ C z) :
  Calls Tryz.prog 108 (#[.int .i64 ((N:Nat):Int),uv]++#[.pointer (some ⟨cb,0,none⟩),.pointer (some ⟨yb,0,none⟩),.pointer (some ⟨wb,0,none⟩)]) W fun e W'=>SB J Jx (t+1) C W e W':=by
 obtain ⟨n,ua,uc,hn,rfl,-⟩:=hu.len
 obtain rfl:n=N:=by rw [<- hn,Ma.aB,gq.2]
 clear hn;have HW:=U hW;have HY:=U hY;have HJ:=U hj;have HU:=U hu;have HD:=U hd;have HQ:=U hq;have A0:=U (show CL W cb 0 (.int .i64 ((n:Nat):Int)) from CL.mk hW.c0 (hW.lt _ hW.fc));clear hY hW hj hu hd hq
 go_enter Tryz.func108,Tryz.ntmps108
 have K:=U (bi W);go_upto_region 0 with fail;refine c6<|k8 (jt (v:=.slice ua n uc) _ _ rfl rfl rfl) ?_;go_frame;have aN:CL (W.alloc (.cells #[.slice ua n uc] 27)) W.heap.size 0 (.slice ua n uc):=CL.mk (by rw [Rg.aW]; rfl) (by simp);have hb:=be W (.cells #[.slice ua n uc] 27);generalize W.alloc (.cells #[.slice ua n uc] 27)=w1 at *;replace A0:=U (A0.u.p hb);replace K:=U (Rg.acc K.u hb);clear hb;have BX:=U aN;refine k7 rfl ?_;go_frame;go_upto_region 1 with fail;refine c6<|j7 rfl<|k8 (j4 (cT _ _))<|k8 (g7 (.int .i64 (n:Int)) ⟨cb,0,none⟩ (af A0.u.cell))<|k8 (g8 (.bool true) .eql (h:=eM _ (decide_eq_true rfl))) ?_;go_frame;clear aN;go_upto_region 2 with fail;refine Rg.Ph (n:=3) abb ?_;have aj:BE w1 w1.drew:=(Below.refl _ _).drew;replace K:=U (Rg.acc K.u aj);replace BX:=U (BX.u.p aj);clear aj A0;generalize w1.drew=V at *;have SC:=U (HW.u.p K.u);have EH:=U (HU.u.kp (Rg.Kp.aD (M:=fun _=>False) K.u) (fun _ _=>id));have BQ:=U (hJ _ _ _ _ HJ.u K.u);have hi:=EH.u.ints;have zO:=SC.u.y;have tB:=BX.u.cell
 have ph:=(po (.slice ua n uc) (Ma.ah q) V hi (by rw [Ma.aB,gq.2]; exact eI) (by rw [Ma.aB,gq.2]; omega)).mono (R':=fun e w'=>∃ v,e=.returned v/\w'.cell? ⟨yb,0,none⟩=some (.func (.yield l) #[] #[])/\YieldAt Fence.wide 2 Tryz.prog l #[v] w' (fun e W'=>SB J Jx (t+1) C W e W')) (by
  rintro e w' ⟨v,rfl,gH,hb⟩;refine ⟨v,rfl,(SC.u.p hb).y,YieldAt.mono (HY.u 2 t C w' v ht (hJ _ _ _ _ BQ.u hb) ?_) ?_⟩
  ·rw [HQ.u]
   exact (VE gH (by rw [Ma.aB,gq.2]; omega)).mono fun z hz hc=>by
    have:=hC _ _ _ BQ.u z hc;omega
  ·rintro e W3 (⟨rfl,C3,h1,h2,h3⟩ | h)
   ·refine .inl ⟨rfl,C3,h1,?_,fun z hz=>?_⟩
    ·exact (Rg.Kp.aD (M:=C) (K.u.trans (hb.mono K.u.size))).trans h2 (fun _ _ h=>h)
    ·rcases h3 z hz with h4 | h4
     ·exact .inl h4
     ·exact .inr (Nat.le_trans (Nat.le_trans K.u.size hb.size) h4)
   ·exact .inr h)
 clear hi;refine Rg.MQ (i:=0) (j:=1) ?_ ?_
 ·skip
  refine Rg.nk (some 19) rfl rfl rfl (g7 (.func (.yield l) #[] #[]) ⟨yb,0,none⟩ (jZ Tryz.underlying118 zO)) ?_;go_frame;refine Rg.kO (i:=1) ?_;refine Rg.nk (some 20) rfl rfl rfl (g7 (.slice ua n uc) ⟨W.heap.size,0,none⟩ (Rg.ae _ _ Tryz.underlying27 tB)) ?_;go_frame;refine Rg.kO (i:=2) ?_;refine Rg.EO (some 21) rfl rfl rfl _ _ (aA 75 _ _ rfl rfl (wU _ _)) ?_;refine ph.mono ?_;rintro e9 w9 ⟨v9,rfl,Pj,SD⟩;refine ⟨_,rfl,?_⟩;go_frame;refine Rg.kO (i:=3) ?_;refine Rg.xk (some 22) rfl rfl rfl l #[v9] (rz _ _ _ rfl rfl rfl) ?_ rfl;refine SD.mono ?_;rintro e8 w8 h8
  obtain ⟨bv,rfl⟩:∃ bv,e8=.returned (.bool bv):=by rcases h8 with ⟨rfl,_⟩ | ⟨rfl,_⟩ <;> exact ⟨_,rfl⟩
  refine ⟨_,rfl,?_⟩;go_frame;refine Rg.kO (i:=4) ?_;refine Rg.nk (some 7) rfl rfl rfl (b6 (.bool bv) _ rfl rfl) ?_;go_frame;refine Rg.Av ?_;clear ph zO tB Pj BQ EH SC K BX HW HY HJ HU HD HQ;go_wp2;go_ret;exact h8
 ·skip
  refine Rg.nk (some 20) rfl rfl rfl (g7 (.slice ua n uc) ⟨W.heap.size,0,none⟩ (Rg.ae _ _ Tryz.underlying27 tB)) ?_;go_frame;refine Rg.MQ (i:=0) (j:=2) ?_ ?_
  ·skip
   refine Rg.nk (some 19) rfl rfl rfl (g7 (.func (.yield l) #[] #[]) ⟨yb,0,none⟩ (jZ Tryz.underlying118 zO)) ?_;go_frame;refine Rg.kO (i:=2) ?_;refine Rg.EO (some 21) rfl rfl rfl _ _ (aA 75 _ _ rfl rfl (wU _ _)) ?_;refine ph.mono ?_;rintro e9 w9 ⟨v9,rfl,Pj,SD⟩;refine ⟨_,rfl,?_⟩;go_frame;refine Rg.kO (i:=3) ?_;refine Rg.xk (some 22) rfl rfl rfl l #[v9] (rz _ _ _ rfl rfl rfl) ?_ rfl;refine SD.mono ?_;rintro e8 w8 h8
   obtain ⟨bv,rfl⟩:∃ bv,e8=.returned (.bool bv):=by rcases h8 with ⟨rfl,_⟩ | ⟨rfl,_⟩ <;> exact ⟨_,rfl⟩
   refine ⟨_,rfl,?_⟩;go_frame;refine Rg.kO (i:=4) ?_;refine Rg.nk (some 7) rfl rfl rfl (b6 (.bool bv) _ rfl rfl) ?_;go_frame;refine Rg.Av ?_;clear ph zO tB Pj BQ EH SC K BX HW HY HJ HU HD HQ;go_wp2;go_ret;exact h8
  ·skip
   refine Rg.EO (some 21) rfl rfl rfl _ _ (aA 75 _ _ rfl rfl (wU _ _)) ?_;refine ph.mono ?_;rintro e9 w9 ⟨v9,rfl,Pj,SD⟩;refine ⟨_,rfl,?_⟩;go_frame;refine Rg.kO (i:=0) ?_;refine Rg.nk (some 19) rfl rfl rfl (g7 (.func (.yield l) #[] #[]) ⟨yb,0,none⟩ (jZ Tryz.underlying118 Pj)) ?_;go_frame;refine Rg.kO (i:=3) ?_;refine Rg.xk (some 22) rfl rfl rfl l #[v9] (rz _ _ _ rfl rfl rfl) ?_ rfl;refine SD.mono ?_;rintro e8 w8 h8
   obtain ⟨bv,rfl⟩:∃ bv,e8=.returned (.bool bv):=by rcases h8 with ⟨rfl,_⟩ | ⟨rfl,_⟩ <;> exact ⟨_,rfl⟩
   refine ⟨_,rfl,?_⟩;go_frame;refine Rg.kO (i:=4) ?_;refine Rg.nk (some 7) rfl rfl rfl (b6 (.bool bv) _ rfl rfl) ?_;go_frame;refine Rg.Av ?_;clear ph zO tB Pj BQ EH SC K BX HW HY HJ HU HD HQ;go_wp2;go_ret;exact h8

theorem Y_ (args:Array Value) (w:World):(callFunc 109 args).run Tryz.prog w=.ok (.enter 109 args) w:=by kernel_rfl
theorem Za (args:Array Value) (w:World):(callFunc 110 args).run Tryz.prog w=.ok (.enter 110 args) w:=by kernel_rfl
theorem Zb (args:Array Value) (w:World):(callFunc 113 args).run Tryz.prog w=.ok (.enter 113 args) w:=by kernel_rfl
theorem xn {l:List Int} (h:Rg.FI F W v l):Rg.FI (fun z=>F z/\z<W.heap.size) W v l:=by
 obtain ⟨a,cap,h1,h2,h3,h4,h5⟩:=h;refine ⟨a,cap,h1,h2,h3,h4,fun h0=>?_⟩;obtain ⟨b,o,e1,e2,e3,e4⟩:=h5 h0;exact ⟨b,o,e1,e2,⟨e3,e2⟩,e4⟩
theorem Dr {w:World} {x:List Nat} (h:Rg.oZ w W v x):Rg.FI (fun z=>w.heap.size<=z) W v (Ma.ah x):=by
 obtain ⟨h1,h2⟩:=h;refine Rg.cK.of h1 fun b hb=>?_
 cases v with
 | slice a n c=>cases a with
  | none=>simp [Value.ownBlock] at hb
  | some a=>simp [Value.ownBlock] at hb; subst hb; exact h2 a n c rfl
 | _=>simp [Value.ownBlock] at hb
theorem Aw {o:Oper} {a:Act} {w:World} {u3 x1 y1:Value} (F:FuncId) (f x y:Operand) (qu:Array TypeId) (ho:o.op=.call { callee:=.value f,args:=#[x,y],argTypes:=qu }) (hf:a.eval f=.func (.func F) #[] #[u1,u2,u3]) (hx:a.eval x=x1) (hy:a.eval y=y1)
  (hF:(callFunc F #[x1,y1,u1,u2,u3]).run Tryz.prog w=.ok (.enter F #[x1,y1,u1,u2,u3]) w):(execOp a.eval o).run Tryz.prog w=.ok (.enter F #[x1,y1,u1,u2,u3]) w:=by
 unfold execOp;simp [ho,hx,hy,hf,resolve,invoke,Deferred.ofValue,hF]
theorem SE (args:Array Value) (w:World):(callFunc 108 args).run Tryz.prog w=.ok (.enter 108 args) w:=by kernel_rfl
theorem Lp (eI:1<=N) (hN:N<=64) (hH:cz N H) (bT:ar N H O R) {cb yb wb l:Nat} {J:Nat->(Nat->Prop)->World->Prop} {Jx:World->Prop}
  (hY:Y9 l LL J Jx) (hJ:∀ t C W W',J t C W->BE W W'->J t C W') (hC:∀ t C W,J t C W->∀ z,C z->z<W.heap.size):∀ (m i t:Nat) (q:List Nat) (uv:Value) (F C:Nat->Prop) (w:World),i+m=N->t+cd O N m<=LL.length->(∀ r,r<cd O N m->LL.getD (t+r) []=lD N O R m i q r)->H q ->
  vL N O R F cb yb wb l ov rv w->Rg.FI F w uv (Ma.ah q)->J t C w->(∀ z,F z->¬ C z) ->
  Calls Tryz.prog 108 (#[.int .i64 ((i:Nat):Int),uv]++#[.pointer (some ⟨cb,0,none⟩),.pointer (some ⟨yb,0,none⟩),.pointer (some ⟨wb,0,none⟩)]) w fun e W'=>SB J Jx (t+cd O N m) C w e W':=by
 intro m
 induction m with
 | zero =>
  intro i t q uv F C w hi ht hr hq hW hu hj hd
  obtain rfl:i=N:=by omega
  exact Lo eI hN hY hJ hC (by have:cd O i 0=1:=rfl; omega) (hr 0 Nat.zero_lt_one) (hH.gd q hq) hW hu hj hd
 | succ m ih =>
  intro i t q uv F C w hi ht hr hq hW hu hj hd;have gq:=hH.gd q hq
  have aS:i<N:=by omega
  obtain ⟨n,ua,uc,hn,rfl,-⟩:=hu.len
  obtain rfl:n=N:=by rw [<- hn,Ma.aB,gq.2]
  clear hn;obtain ⟨s,hs⟩:∃ s:Nat,Hid (cd O n m=s):=⟨_,U rfl⟩;obtain ⟨os,nR⟩:∃ l,Hid (O.getD i []=l):=⟨_,U rfl⟩;obtain ⟨rl,eQ⟩:∃ l,Hid (R.getD i []=l):=⟨_,U rfl⟩;have Ap:=U (pP hH bT aS gq);have Sv:=U (List.length_pos_of_mem (rU hH bT aS));have uW:=U (show (O.getD i []).length<=64 from Nat.le_trans (iz hH bT aS) (by omega));have nN:=U (bT.len i aS);have HAS:=U (bT.jB i aS);have kI:=U (show cd O n (m+1)=(O.getD i []).length*s by rw [<- hs.u]; show (O.getD (n - (m+1)) []).length*_=_; rw [show n - (m+1)=i by omega]);obtain ⟨ob,oo,oc,rb,ro,rc,rfl,rfl,⟨ob2,oH,pM,lT⟩,⟨va,vc,k9,qg⟩⟩:=eG bT hW.ce aS;rw [nR.u] at pM lT k9 qg Ap Sv uW nN HAS kI;rw [eQ.u] at qg nN;have Pf:0<os.length:=Sv.u;have kX:os.length<=64:=uW.u;have A0:=U (show CL w cb 0 (.int .i64 ((n:Nat):Int)) from CL.mk hW.c0 (hW.lt _ hW.fc));have A1:=U (show CL w cb 1 (.slice (some ⟨ob,oo,none⟩) n oc) from CL.mk hW.c1 (hW.lt _ hW.fc));have A2:=U (show CL w cb 2 (.slice (some ⟨rb,ro,none⟩) n rc) from CL.mk hW.c2 (hW.lt _ hW.fc));have CO:=U pM;have NO:=U (dM.mk lT);have HW:=U hW;have HU:=U hu;have HJ:=U hj;have HD:=U hd;have HQ:=U hq;have HR:=U hr;have HT:=U ht;have HI:=U hi;have bN:=U aS;have GQ:=U gq;have IH:=U ih;have K:=U (bi w);clear hr hq hW hu hj hd gq pM lT k9 qg ih ht
  go_enter Tryz.func108,Tryz.ntmps108
  go_upto_region 0 with fail;refine c6<|k8 (jt (v:=.slice ua n uc) _ _ rfl rfl rfl) ?_;go_frame;have aN:CL (w.alloc (.cells #[.slice ua n uc] 27)) w.heap.size 0 (.slice ua n uc):=CL.mk (by rw [Rg.aW]; rfl) (by simp);have hb:=be w (.cells #[.slice ua n uc] 27);generalize w.alloc (.cells #[.slice ua n uc] 27)=w1 at *;replace A0:=U (A0.u.p hb);replace A1:=U (A1.u.p hb);replace A2:=U (A2.u.p hb);replace CO:=U (CO.u.p hb);replace NO:=U (NO.u.p hb);replace K:=U (Rg.acc K.u hb);clear hb;have BX:=U aN;refine k7 rfl ?_;go_frame;clear aN;go_upto_region 1 with fail;refine c6<|j7 rfl<|k8 (j4 (cT _ _))<|k8 (g7 (.int .i64 (n:Int)) ⟨cb,0,none⟩ (af A0.u.cell))<|k8 (g8 (.bool false) .eql (h:=eM _ f8)) ?_;go_frame;have KB:=U (bi w1);have MR:w.heap.size<w1.heap.size:=BX.u.lt;have EH:=U (xn (HU.u.kp (Rg.Kp.aD (M:=fun _=>False) K.u) (fun _ _=>id)));go_upto_region 3 with fail;refine c6<|k8 (j4 (cp _ _))<|k8 (g7 (.slice (some ⟨ob,oo,none⟩) n oc) ⟨cb,1,none⟩ (Rg.ae _ _ Tryz.underlying22 ((Below.cell (p:=⟨cb,1,none⟩) KB.u A1.u.lt).trans A1.u.cell)))<|j7 rfl<|k8 (ag bM _ _ rfl ob (oo) (n) oc (i) rfl rfl bN.u) ?_;go_frame;refine k8 (g7 (.slice ob2 os.length oH) ⟨ob,oo+i,none⟩ (Rg.ae _ _ Tryz.underlying26 ((Below.cell (p:=⟨ob,oo+i,none⟩) KB.u CO.u.lt).trans CO.u.cell))) ?_;go_frame;refine f4 28 (aA 109 _ _ rfl rfl (Y_ _ _)) ?_;refine (Ig _ (Ma.ah os) w1 (NO.u.p KB.u).i (by rw [Ma.aB]; exact Pf) (by rw [Ma.aB]; omega)).mono ?_;rintro e1 w2 ⟨Ki,rfl,gH,hb⟩;have OW:=U gH;clear gH;refine ⟨_,rfl,?_⟩;go_frame;replace KB:=U (Rg.acc KB.u hb);clear hb;refine j6 (Ki) rfl ?_;go_frame;go_upto_region 4 with fail
  refine c6<|j6 (Ki) rfl<|k8 (eN _ _ rfl rfl) ?_;go_frame;refine f4 31 (ax 110 _ _ _ rfl rfl rfl (Za _ _)) ?_;refine (Pe GQ.u eI hN ((BX.u.p KB.u).cell) MR KB.u.size ((EH.u.kp (Rg.Kp.aD (M:=fun _=>False) KB.u) (fun _ _=>id)).mono fun z hz=>hz.2) Ap.u.lt kX Pf OW.u).mono ?_;rintro e1 w3 ⟨lo,rfl,kl,Hs,oR,vE⟩;refine ⟨_,rfl,?_⟩;go_frame;replace KB:=U (Rg.Kp.p KB.u vE (fun _ h=>h));clear vE;clear OW;have ss:lo.length=os.length:=kl.length_eq;have SF:=U kl;have Ky:=U (Ll GQ.u (fun y hy=>Ap.u.lt y (kl.mem_iff.1 hy)) (kl.nodup_iff.2 Ap.u.nd) Hs);have VF:=U (hJ _ _ _ _ HJ.u (K.u.trans (KB.u.mono K.u.size)));have K3:=U (K.u.trans (KB.u.mono K.u.size));have HK3:=U K3.u.size
  have WK:=U ((HW.u.p K3.u).mono (F':=fun z=>F z∨(w.heap.size<=z/\z<w3.heap.size)) (fun z hz=>.inl hz) (fun z hz=>by
   rcases hz with hz | hz
   ·have:=HW.u.lt z hz; have:=HK3.u; omega
   ·exact hz.2))
  have HU3:=U ((HU.u.kp (Rg.Kp.aD (M:=fun _=>False) K3.u) (fun _ _=>id)).mono (F':=fun z=>F z∨(w.heap.size<=z/\z<w3.heap.size)) (fun z hz=>.inl hz));have VG:=U ((xn oR).mono (F':=fun z=>F z∨(w.heap.size<=z/\z<w3.heap.size)) (fun z hz=>.inr ⟨Nat.le_trans (Nat.le_of_lt MR) hz.1,hz.2⟩));have SH:=U (BX.u.p KB.u)
  have Pk:=U (show ∀ z,(F z∨(w.heap.size<=z/\z<w3.heap.size))->¬ C z from fun z hz hc=>by
   rcases hz with hz | hz
   ·exact HD.u z hz hc
   ·have:=hC _ _ _ HJ.u z hc; omega)
  obtain ⟨n9,va9,vc9,hn9,abc,-⟩:=oR.len;rw [Ma.aB] at hn9;subst hn9 abc;clear kl Hs oR KB K A0 A1 A2 CO NO BX EH HW HU HJ HD;go_upto_region 5 with fail;refine c6<|j8 rfl<|k8 (g9 Tryz.underlying26)<|j7 rfl ?_;go_frame;have KQ:=U (show ∃ C':Nat->Prop,J (t+0*s) C' w3/\Rg.Kp C w3 w3/\∀ z,C' z->C z∨w3.heap.size<=z from ⟨C,by rw [Nat.zero_mul]; exact VF.u,Rg.Kp.refl _ _,fun z hz=>.inl hz⟩);clear VF;go_wp2
  go_loopw [34] (fun iv wr=>∃ d:Nat,iv=.int .i64 ((d:Nat):Int)/\d<=lo.length/\Hid (∃ C':Nat->Prop,J (t+d*s) C' wr/\Rg.Kp C w3 wr/\∀ z,C' z->C z∨w3.heap.size<=z)) (fun iv _=>lo.length - (intOf iv).toNat)
  case atStart=>exact ⟨0,rfl,Nat.zero_le _,KQ⟩
  case round =>
   clear KQ;obtain ⟨d,rfl,hdl,KQ⟩:=hrel;generalize wr=wA at *;obtain ⟨C1,yA,gO,dp⟩:=KQ.u;have BQ:=U yA;have nJ:=U gO;have BR:=U dp;clear KQ yA gO dp
   by_cases az:d<lo.length
   case neg =>
    obtain rfl:d=lo.length:=by omega
    have HX:=U (show SB J Jx (t+cd O n (m+1)) C w (.returned (.bool true)) wA from .inl ⟨rfl,C1,by rw [kI.u,<- ss]; exact BQ.u,(Rg.Kp.aD (M:=C) K3.u).trans nJ.u (fun _ _ h=>h),fun z hz=>by
     rcases BR.u z hz with h1 | h1
     ·exact .inl h1
     ·exact .inr (Nat.le_trans HK3.u h1)⟩)
    clear BQ nJ BR WK HU3 VG SH Pk K3;go_upto_region 6 with fail;refine c6<|k8 (g8 (.bool false) .lss (h:=aI _ f8)) ?_;go_frame;go_upto_region 13 with fail;refine c6<|k7 rfl ?_;go_frame;go_wp2;go_ret;exact HX.u
   case pos =>
    have Ax:=U (WK.u.kp nJ.u Pk.u);have z_:=HU3.u.kp nJ.u Pk.u;have WW:=VG.u.kp nJ.u Pk.u;have HU4:=U z_
    obtain ⟨b9,o9,rfl,h91,h92⟩:∃ b o,va9=some ⟨b,o,none⟩/\b<wA.heap.size/\wA.cell? ⟨b,o+d,none⟩=some (.int .i64 ((lo[d]:Nat):Int)):=by
     obtain ⟨a,cap,e1,_,_,_,h5⟩:=WW;obtain ⟨b,o,rfl,h6,_,h7⟩:=h5 (by rw [List.length_map,Ma.aB]; omega);simp only [Value.slice.injEq] at e1;refine ⟨b,o,e1.1,h6,?_⟩;have:=h7 d (by rw [List.length_map,Ma.aB]; exact az);rw [List.getElem_map,Ma.ql] at this;exact this
    have CP:=U (CL.mk h92 h91);clear h91 h92 WW;obtain ⟨SJ,hxe,Zc⟩:=Iw Ap.u SF.u Ky.u az;obtain ⟨pt,hpt⟩:∃ x,Hid (lo[d]=x):=⟨_,U rfl⟩;obtain ⟨jx,hjx⟩:∃ x,Hid (os.idxOf pt=x):=⟨_,U rfl⟩;rw [hpt.u] at CP SJ hxe Zc;rw [hjx.u] at SJ hxe Zc;have HXJ:=U SJ;have HXP:=U Zc;have HPI:=U (show pt∈os from SF.u.mem_iff.1 (hpt.u▸List.getElem_mem az));have Gh:=U (show BK O R i q d=rl.getD jx [] by unfold BK; rw [nR.u,eQ.u,HXP.u]);have VH:=U (pO bT bN.u (k:=jx) (by rw [nR.u]; exact HXJ.u)).1;rw [eQ.u] at VH;obtain ⟨ob9,oo9,kM,rb9,ro9,j_,e1,e2,⟨ob3,yM,pM,lT⟩,⟨va8,vc8,k9,qg⟩⟩:=eG bT Ax.u.ce bN.u;simp only [Value.slice.injEq,Option.some.injEq,Addr.mk.injEq,and_true,true_and] at e1 e2;obtain ⟨⟨rfl,rfl⟩,rfl⟩:=e1;obtain ⟨⟨rfl,rfl⟩,rfl⟩:=e2;rw [nR.u] at pM lT k9 qg;rw [eQ.u] at qg;obtain ⟨vb,vo,_,_,e1,bZ,dp,cA⟩:=fQ qg (i:=jx) (by rw [List.length_map,nN.u]; exact SJ);subst e1
    have e5:(rl.map Ma.ah)[jx]'(by rw [List.length_map,nN.u]; exact SJ)=Ma.ah (rl.getD jx []):=by rw [List.getElem_map,List.getD_eq_getElem?_getD,List.getElem?_eq_getElem]; rfl
    rw [e5] at dp cA;obtain ⟨y,hy⟩:∃ y,Hid (rl.getD jx []=y):=⟨_,U rfl⟩;rw [hy.u] at dp cA VH Gh;have GY:=U (hH.gd y VH.u.1);obtain ⟨ya,yc,dG,-⟩:=cA.shape
    rename_i va7 vc7
    have CO:=U pM;have NO:=U (dM.mk lT);have CR:=U k9;have CY:=U (CL.mk dp bZ);have NY:=U (dM.mk cA);have NQ:=U (dM.mk HU4.u.ints);have A0:=U (show CL wA cb 0 (.int .i64 (n:Int)) from CL.mk Ax.u.c0 (Ax.u.lt _ Ax.u.fc));have A1:=U (show CL wA cb 1 (.slice (some ⟨ob,oo,none⟩) n oc) from CL.mk Ax.u.c1 (Ax.u.lt _ Ax.u.fc));have A2:=U (show CL wA cb 2 (.slice (some ⟨rb,ro,none⟩) n rc) from CL.mk Ax.u.c2 (Ax.u.lt _ Ax.u.fc));have BS:=U (show CL wA w.heap.size 0 (.slice ua n uc) from CL.mk ((rA nJ.u SH.u.lt (Pk.u _ (.inr ⟨Nat.le_refl _,SH.u.lt⟩))).trans SH.u.cell) (Nat.lt_of_lt_of_le SH.u.lt nJ.u.size));have KA:=U (bi wA);clear pM lT k9 qg bZ dp cA e5 dG z_;go_upto_region 6 with fail;refine c6<|k8 (g8 (.bool true) .lss (h:=aI _ f7)) ?_;go_frame;go_upto_region 7 with fail;refine c6<|k8 (ag aQ _ _ rfl b9 (o9) (lo.length) vc9 (d) rfl rfl (by omega))<|k8 (g7 (.int .i64 (pt:Int)) ⟨b9,o9+d,none⟩ (af CP.u.cell))<|j7 rfl ?_;go_frame;go_upto_region 8 with fail;refine c6<|k8 (j4 (cp _ _))<|k8 (g7 (.slice (some ⟨ob,oo,none⟩) n oc) ⟨cb,1,none⟩ (Rg.ae _ _ Tryz.underlying22 A1.u.cell))<|j7 rfl<|k8 (ag bM _ _ rfl ob (oo) (n) oc (i) rfl rfl bN.u) ?_;go_frame;refine k8 (g7 (.slice ob3 os.length yM) ⟨ob,oo+i,none⟩ (Rg.ae _ _ Tryz.underlying26 CO.u.cell))<|j7 rfl ?_;go_frame;refine f4 45 (ax 112 _ _ _ rfl rfl rfl (KM _ _)) ?_;refine (R3 NO.u.i HAS.u (by have:=uW.u; omega) HPI.u hjx).mono ?_;rintro e1 Pm ⟨rfl,hb⟩;refine ⟨_,rfl,?_⟩;go_frame;replace A0:=U (A0.u.p hb);replace A1:=U (A1.u.p hb);replace A2:=U (A2.u.p hb);replace BS:=U (BS.u.p hb);replace CO:=U (CO.u.p hb);replace NO:=U (NO.u.p hb);replace CR:=U (CR.u.p hb);replace CY:=U (CY.u.p hb);replace NY:=U (NY.u.p hb);replace NQ:=U (NQ.u.p hb);replace CP:=U (CP.u.p hb);replace KA:=U (Rg.acc KA.u hb);clear hb
    refine j6 (.tuple #[.int .i64 (jx:Int),.bool true]) rfl<|k8 (i9 (.int .i64 (jx:Int)))<|k8 (i9 (.bool true))<|j7 rfl<|k7 rfl ?_;go_frame;go_upto_region 9 with fail;have aj:BE Pm Pm.drew:=(Below.refl _ _).drew;replace A0:=U (A0.u.p aj);replace A1:=U (A1.u.p aj);replace A2:=U (A2.u.p aj);replace BS:=U (BS.u.p aj);replace CO:=U (CO.u.p aj);replace NO:=U (NO.u.p aj);replace CR:=U (CR.u.p aj);replace CY:=U (CY.u.p aj);replace NY:=U (NY.u.p aj);replace NQ:=U (NQ.u.p aj);replace CP:=U (CP.u.p aj);replace KA:=U (Rg.acc KA.u aj);clear aj;refine Rg.Any.begin (S:=Rg.aK 14 (fun _=>True) (fun W=>Below Pm.drew.heap.size Pm.drew W)) mix ?_;generalize Pm.drew=IJ at *;have hS:∀ (l:Array Bool) W,BE IJ W->Rg.aK 14 (fun _=>True) (fun W=>BE IJ W) l W:=fun l W h=>⟨.inr trivial,h⟩;have hI:BE IJ IJ:=Below.refl _ _;refine d7 0 14 (.pointer (some ⟨cb,2,none⟩)) 49 rfl rfl (j3 fun w=>aw _ rfl rfl (cJ _ _)) (hS _ _ hI)<|d7 1 14 (.slice (some ⟨rb,ro,none⟩) n rc) 50 rfl rfl (j2 ⟨cb,2,none⟩ (fun W hW=>Rg.ae _ _ Tryz.underlying23 ((Below.cell (p:=⟨cb,2,none⟩) hW A2.u.lt).trans A2.u.cell))) (hS _ _ hI)<|d8 2 14 (.int .i64 (i:Int)) 51 (hS _ _ hI)<|d7 3 14 (.pointer (some ⟨rb,ro+i,none⟩)) 52 rfl rfl (Rg.ai bG _ _ rfl rfl rb (ro) (n) rc (i) rfl rfl bN.u) (hS _ _ hI)<|d7 4 14 (.slice (some ⟨vb,vo,none⟩) os.length vc8) 53 rfl rfl (j2 ⟨rb,ro+i,none⟩ (fun W hW=>Rg.ae _ _ Tryz.underlying41 ((Below.cell (p:=⟨rb,ro+i,none⟩) hW CR.u.lt).trans CR.u.cell))) (hS _ _ hI) ?_;go_frame;refine d8 5 14 (.int .i64 (jx:Int)) 54 (hS _ _ hI)<|d7 6 14 (.pointer (some ⟨vb,vo+jx,none⟩)) 55 rfl rfl (Rg.ai aM _ _ rfl rfl vb (vo) (os.length) vc8 (jx) rfl rfl HXJ.u) (hS _ _ hI)<|d7 7 14 (.slice va7 (Ma.ah y).length vc7) 56 rfl rfl (j2 ⟨vb,vo+jx,none⟩ (fun W hW=>Rg.ae _ _ Tryz.underlying27 ((Below.cell (p:=⟨vb,vo+jx,none⟩) hW CY.u.lt).trans CY.u.cell))) (hS _ _ hI)<|d7 8 14 ((.slice ua n uc)) 57 rfl rfl (j2 ⟨w.heap.size,0,none⟩ (fun W hW=>Rg.ae _ _ Tryz.underlying27 ((Below.cell (p:=⟨w.heap.size,0,none⟩) hW BS.u.lt).trans BS.u.cell))) (hS _ _ hI) ?_;go_frame
    refine Rg.Any.one (i:=9) (by kernel_rfl) (Rg.Any.ask (some 58) rfl rfl rfl _ _ (ax 113 _ _ _ rfl rfl rfl (Zb _ _)) ?_);refine (FE _ _ y q IJ NY.u.i NQ.u.i GY.u.1 GQ.u.1 (by rw [GY.u.2,GQ.u.2]) (by rw [GY.u.2]; exact eI) (by rw [GY.u.2]; exact hN)).mono ?_;rintro e1 fT ⟨mv,rfl,gX,hb⟩;have Zd:=U ((Dr gX).mono (F':=fun z=>wA.heap.size<=z) (fun z hz=>Nat.le_trans KA.u.size hz));have br:=Rg.acc hI hb;clear hb hI;refine ⟨_,rfl,(hS _ _ br),?_⟩;go_frame;have NM:=U (dM.mk gX.1);refine d8 10 14 (.tuple #[mv,.int .i64 0]) 48 (hS _ _ br)<|d7 11 14 (mv) 59 rfl rfl (j3 fun w=>bU (v:=mv) _ _ rfl rfl rfl) (hS _ _ br)<|d7 12 14 (.int .i64 0) 60 rfl rfl (j3 fun w=>bU (v:=.int .i64 0) _ _ rfl rfl rfl) (hS _ _ br)<|d7 13 14 (mv) 13 rfl rfl (j3 fun w=>Rg.cD (v:=mv) _ rfl rfl) (hS _ _ br)<|j1 14 14 rfl rfl (b6 (.int .i64 0) _ rfl rfl) (hS _ _ br) ?_;go_frame;refine Rg.Any.done (by kernel_rfl) ?_ _;replace A0:=U (A0.u.p br);replace A1:=U (A1.u.p br);replace A2:=U (A2.u.p br);replace BS:=U (BS.u.p br);replace CO:=U (CO.u.p br);replace NO:=U (NO.u.p br);replace CR:=U (CR.u.p br);replace CY:=U (CY.u.p br);replace NY:=U (NY.u.p br);replace NQ:=U (NQ.u.p br);replace CP:=U (CP.u.p br);replace KA:=U (Rg.acc KA.u br);clear hS br;clear gX;have KC:=U (show Rg.Kp C1 wA fT from Rg.Kp.aD KA.u);have SK:=U (Ax.u.p KA.u);have Ze:=U (hJ _ _ _ _ BQ.u KA.u)
    have Zf:=U (show ∀ z,(F z∨(w.heap.size<=z/\z<w3.heap.size))->¬ C1 z from fun z hz hc=>by
     rcases BR.u z hc with h1 | h1
     ·exact Pk.u z hz h1
     ·have:=WK.u.lt z hz; omega)
    have Zg:=U ((xn (Zd.u)).mono (F':=fun z=>(F z∨(w.heap.size<=z/\z<w3.heap.size))∨(wA.heap.size<=z/\z<fT.heap.size)) (fun z hz=>.inr hz))
    have Zh:=U (SK.u.mono (F':=fun z=>(F z∨(w.heap.size<=z/\z<w3.heap.size))∨(wA.heap.size<=z/\z<fT.heap.size)) (fun z hz=>.inl hz) (fun z hz=>by
     rcases hz with hz | hz
     ·exact SK.u.lt z hz
     ·exact hz.2))
    have Zi:=U (show ∀ z,((F z∨(w.heap.size<=z/\z<w3.heap.size))∨(wA.heap.size<=z/\z<fT.heap.size))->¬ C1 z from fun z hz hc=>by
     rcases hz with hz | hz
     ·exact Zf.u z hz hc
     ·have:=hC _ _ _ BQ.u z hc; omega)
    have hds:d*s+s<=cd O n (m+1):=by
     rw [kI.u,<- ss]
     have:d*s+s=(d+1)*s:=by rw [Nat.succ_mul]
     rw [this];exact Nat.mul_le_mul_right s az
    have iB:=IH.u (i+1) (t+d*s) (Ma.aq y q) mv _ C1 fT (by have:=HI.u; omega) (by rw [hs.u]; have:=HT.u; omega) (fun r hr=>by
     rw [hs.u] at hr;rw [<- Gh.u,<- Sr (by rw [hs.u]; exact hr),hs.u,Nat.add_assoc]
     exact HR.u _ (by omega)) (hH.mul _ _ VH.u.1 HQ.u) Zh.u Zg.u Ze.u Zi.u
    rw [hs.u] at iB;have dI:=SK.u.k;go_upto_region 10 with fail;refine c6<|k8 (g7 (.func (.func 108) #[] #[.pointer (some ⟨cb,0,none⟩),.pointer (some ⟨yb,0,none⟩),.pointer (some ⟨wb,0,none⟩)]) ⟨wb,0,none⟩ (jZ Tryz.underlying154 dI))<|j7 rfl<|k8 (g8 (.int .i64 ((i+1:Nat):Int)) .add (h:=bD _ (by omega) (by omega)))<|j6 (mv) rfl ?_;go_frame;refine f4 65 (Aw 108 _ _ _ _ rfl rfl rfl rfl (SE _ _)) ?_;refine iB.mono ?_
    rintro e8 w8 (⟨rfl,C8,VI,VJ,VK⟩ | ⟨rfl,VL⟩)
    ·refine ⟨_,rfl,?_⟩
     go_frame;refine k8 (bw _ _ true rfl rfl) ?_;go_frame
     have HX:=U (show ∃ C':Nat->Prop,J (t+(d+1)*s) C' w8/\Rg.Kp C w3 w8/\∀ z,C' z->C z∨w3.heap.size<=z from ⟨C8,by rw [Nat.succ_mul,<- Nat.add_assoc]; exact VI,(nJ.u.trans (KC.u.trans VJ (fun _ _ h=>h)) (fun k hk hc=>(BR.u k hc).resolve_right (by omega))),fun z hz=>by
      rcases VK z hz with h1 | h1
      ·exact BR.u z h1
      ·exact .inr (Nat.le_trans nJ.u.size (Nat.le_trans KC.u.size h1))⟩)
     clear iB dI VI VJ VK Zh SK Zg Ze Zf Zi KC KA A0 A1 A2 BS CO NO CR CY NY NQ CP NM Zd;go_wp2;go_roundw
     case rel=>exact ⟨d+1,by go_num,az,HX⟩
     case measure=>simp [intOf]; omega
    ·refine ⟨_,rfl,?_⟩
     go_frame;refine k8 (bw _ _ false rfl rfl) ?_;go_frame;have HX:=U (show SB J Jx (t+cd O n (m+1)) C w (.returned (.bool false)) w8 from .inr ⟨rfl,VL⟩);clear iB dI VL Zh SK Zg Ze Zf Zi KC KA A0 A1 A2 BS CO NO CR CY NY NQ CP NM Zd;go_wp2;go_ret;exact HX.u

theorem Zj (args:Array Value) (w:World):(callFunc 114 args).run Tryz.prog w=.ok (.enter 114 args) w:=by kernel_rfl
theorem IK {P:Program} {t:TypeId} {y:Nat} (hs:(P.info? t).map (fun i=>(i.zero,i.size,i.bytes))=some (some z,1,y)) {w:World} {b o:Nat} {u:Value} {F:Fn} {x1 x2:Array Value} (h:w.cell? ⟨b,o,none⟩=some u) (hf:w.frozen? ⟨b,o,none⟩=false) :
  (storeVar t ⟨b,o,none⟩ (.func F x1 x2)).run P w=.ok () (w.setCell ⟨b,o,none⟩ (.func F x1 x2)):=by
 obtain ⟨i0,hi,dw,bJ,dZ⟩:=info_parts hs
 have h0:(⟨b,o,none⟩:Addr).add 0=⟨b,o,none⟩:=by simp [Addr.add]
 simp [storeVar,sizeOf,typeInfo,hi,bJ,Value.cells,storeCells,store,h0];simp [Sem.run,h,hf]
theorem Ay:(Tryz.prog.info? 154).map (fun i=>(i.zero,i.size,i.bytes))=some (some .nilFunc,1,8):=by kernel_rfl
theorem BU {o:Oper} {a:Act} {w:World} (ho:o.op=.alloc 154):(execOp a.eval o).run Tryz.prog w=.ok (.value (.pointer (some ⟨w.heap.size,0,none⟩))) (w.alloc (.cells #[.nilFunc] 154)):=by
 obtain ⟨i0,hi,dw,bJ,dZ⟩:=info_parts Ay;unfold execOp;simp only [ho]
 kernel_rfl
theorem yN {o:Oper} {a:Act} {w:World} (F:FuncId) (x y z:Operand) (ho:o.op=.makeFunc (.func F) #[] #[x,y,z]) {u t:Value} (hx:a.eval x=v) (hy:a.eval y=u) (hz:a.eval z=t):(execOp a.eval o).run Tryz.prog w=.ok (.value (.func (.func F) #[] #[v,u,t])) w:=by
 unfold execOp;simp [ho,hx,hy,hz,Instr.makeFunc]
theorem IL (eI:1<=N) (hN:N<=64) (hH:cz N H) (bT:ar N H O R) {cb l:Nat} {J:Nat->(Nat->Prop)->World->Prop} {Jx:World->Prop}
  (hY:Y9 l (dR N O R) J Jx) (hJ:∀ t C W W',J t C W->BE W W'->J t C W') (hC:∀ t C W,J t C W->∀ z,C z->z<W.heap.size) {C:Nat->Prop} {w:World} (fc:F cb) (h0:w.cell? ⟨cb,0,none⟩=some (.int .i64 (N:Int))) (h1:w.cell? ⟨cb,1,none⟩=some ov) (h2:w.cell? ⟨cb,2,none⟩=some rv) (ho:Rg.aL F w ov (O.map Ma.ah)) (hr:aV F w rv (R.map (List.map Ma.ah))) (az:∀ z,F z->z<w.heap.size) (hd:∀ z,F z->¬ C z) (hj:J 0 C w) :
  Calls Tryz.prog 107 #[.func (.yield l) #[] #[],.pointer (some ⟨cb,0,none⟩)] w fun e W'=>(∃ v,e=.returned v)/\((∃ C':Nat->Prop,J (dR N O R).length C' W'/\Rg.Kp C w W'/\∀ z,C' z->C z∨w.heap.size<=z)∨Jx W'):=by
 have A0:=U (show CL w cb 0 (.int .i64 (N:Int)) from CL.mk h0 (az _ fc));have A1:=U (show CL w cb 1 ov from CL.mk h1 (az _ fc));have A2:=U (show CL w cb 2 rv from CL.mk h2 (az _ fc));have A00:=A0;have A10:=A1;have A20:=A2;have HO:=U ho;have HR:=U hr;have HL:=U az;have HD:=U hd;have HJ:=U hj;have HF:=U fc;have HYY:=U hY;have K:=U (bi w);clear h0 h1 h2 ho hr az hd hj fc hY
 go_enter Tryz.func107,Tryz.ntmps107
 go_upto_region 0 with fail;refine c6<|k8 (jt (v:=.func (.yield l) #[] #[]) _ _ rfl rfl rfl) ?_;go_frame;have aN:CL (w.alloc (.cells #[.func (.yield l) #[] #[]] 118)) w.heap.size 0 (.func (.yield l) #[] #[]):=CL.mk (by rw [Rg.aW]; rfl) (by simp);have hb:=be w (.cells #[.func (.yield l) #[] #[]] 118);generalize w.alloc (.cells #[.func (.yield l) #[] #[]] 118)=w1 at *;replace A0:=U (A0.u.p hb);replace A1:=U (A1.u.p hb);replace A2:=U (A2.u.p hb);replace K:=U (Rg.acc K.u hb);clear hb;have BY:=U aN;clear aN;have hw1:w.heap.size<w1.heap.size:=BY.u.lt;go_upto_region 1 with fail;refine c6<|k8 (BU rfl) ?_;go_frame;have aN:CW (w1.alloc (.cells #[.nilFunc] 154)) w1.heap.size .nilFunc:=⟨by rw [Rg.aW]; rfl,kR w1 _ _ 0 0,by simp⟩;have hb:=be w1 (.cells #[.nilFunc] 154);generalize w1.alloc (.cells #[.nilFunc] 154)=w2 at *;replace A0:=U (A0.u.p hb);replace A1:=U (A1.u.p hb);replace A2:=U (A2.u.p hb);replace BY:=U (BY.u.p hb);replace K:=U (Rg.acc K.u hb);clear hb;have BW:=U aN;clear aN;go_upto_region 2 with fail;refine c6<|k8 (yN (v:=.pointer (some ⟨cb,0,none⟩)) (u:=.pointer (some ⟨w.heap.size,0,none⟩)) (t:=.pointer (some ⟨w1.heap.size,0,none⟩)) _ _ _ _ rfl rfl rfl rfl)<|Rg.aG none rfl rfl (Rg.ak _ _ _ rfl _ rfl _ rfl (IK Ay BW.u.c BW.u.f)) ?_;go_frame;obtain ⟨W3,Pn⟩:∃ X,w2.setCell ⟨w1.heap.size,0,none⟩ (.func (.func 108) #[] #[.pointer (some ⟨cb,0,none⟩),.pointer (some ⟨w.heap.size,0,none⟩),.pointer (some ⟨w1.heap.size,0,none⟩)])=X:=⟨_,rfl⟩
 have BV:Below w1.heap.size w2 W3:=by rw [<- Pn]; exact (Below.refl _ _).setCell (p:=⟨w1.heap.size,0,none⟩) (Nat.le_refl _) _
 have dI:W3.cell? ⟨w1.heap.size,0,none⟩=some (.func (.func 108) #[] #[.pointer (some ⟨cb,0,none⟩),.pointer (some ⟨w.heap.size,0,none⟩),.pointer (some ⟨w1.heap.size,0,none⟩)]):=by rw [<- Pn]; exact World.cell?_setCell_same _ _ _ BW.u.c
 have KB:=U (show BE w W3 from by rw [<- Pn]; exact K.u.setCell (p:=⟨w1.heap.size,0,none⟩) (Nat.le_of_lt hw1) _);have SL:=U (show CL W3 w.heap.size 0 (.func (.yield l) #[] #[]) from CL.mk (by rw [<- Pn,World.cell?_setCell_other _ _ _ _ (by intro e; simp only [Addr.mk.injEq] at e; have:=BY.u.lt; have:=BV.size; omega)]; exact BY.u.cell) (by have:=BY.u.lt; have:=BV.size; omega));have rm:=U (show CL W3 w1.heap.size 0 (.func (.func 108) #[] #[.pointer (some ⟨cb,0,none⟩),.pointer (some ⟨w.heap.size,0,none⟩),.pointer (some ⟨w1.heap.size,0,none⟩)]) from CL.mk dI (by have:=BW.u.lt; have:=BV.size; omega));have A0:=U (show CL W3 cb 0 (.int .i64 (N:Int)) from (U A00.u).u.p KB.u);have VF:=U (hJ _ _ _ _ HJ.u KB.u);have VG:=U (HO.u.kp (Rg.Kp.aD (M:=fun _=>False) KB.u) (fun _ _=>id));have HR3:=U (HR.u.kp (Rg.Kp.aD (M:=fun _=>False) KB.u) (fun _ _=>id));have A1:=U (A10.u.p KB.u);have A2:=U (A20.u.p KB.u);rw [Pn];clear Pn dI BV K BY BW;have Lq:=U KB.u.size;go_upto_region 3 with fail;refine c6<|k8 (j4 (cT _ _))<|k8 (g7 (.int .i64 (N:Int)) ⟨cb,0,none⟩ (af A0.u.cell)) ?_;go_frame;refine f4 10 (aA 114 _ _ rfl rfl (Zj _ _)) ?_;refine (Fv N W3 eI hN).mono ?_;rintro e1 w3 ⟨Az,rfl,vh,hb⟩;have FIO:=U (xn (Dr vh));refine ⟨_,rfl,?_⟩;go_frame;replace A0:=U (A0.u.p hb);replace A1:=U (A1.u.p hb);replace A2:=U (A2.u.p hb);replace SL:=U (SL.u.p hb);replace rm:=U (rm.u.p hb);replace KB:=U (Rg.acc KB.u hb);clear hb;refine j6 (.tuple #[Az,.int .i64 0]) rfl<|k8 (i9 (Az))<|k8 (i9 (.int .i64 0))<|j6 (Az) rfl<|j7 rfl ?_;go_frame
 have tK:=U (show ∀ r,r<cd O N N->(dR N O R).getD (0+r) []=lD N O R N 0 (Ma.bs N) r from fun r hr=>by
  unfold dR;rw [Nat.zero_add,List.getD_eq_getElem?_getD,List.getElem?_map,List.getElem?_range hr]
  rfl)
 have hlen:(dR N O R).length=cd O N N:=by unfold dR; simp
 have WK:=U (show vL N O R (fun z=>F z∨(w.heap.size<=z/\z<w3.heap.size)) cb w.heap.size w1.heap.size l ov rv w3 from
  ⟨.inl HF.u,.inr ⟨Nat.le_refl _,SL.u.lt⟩,.inr ⟨Nat.le_of_lt hw1,rm.u.lt⟩,A0.u.cell,A1.u.cell,A2.u.cell,SL.u.cell,rm.u.cell,(HO.u.kp (Rg.Kp.aD (M:=fun _=>False) KB.u) (fun _ _=>id)).mono (fun _ h=>.inl h),(HR.u.kp (Rg.Kp.aD (M:=fun _=>False) KB.u) (fun _ _=>id)).mono (fun _ h=>.inl h),fun z hz=>by
   rcases hz with hz | hz
   ·have:=HL.u z hz; have:=KB.u.size; omega
   ·exact hz.2⟩)
 have HJ5:=U (hJ _ _ _ _ HJ.u KB.u);have jE:=U (FIO.u.mono (F':=fun z=>F z∨(w.heap.size<=z/\z<w3.heap.size)) (fun z hz=>.inr ⟨Nat.le_trans Lq.u hz.1,hz.2⟩))
 have HDD:=U (show ∀ z,(F z∨(w.heap.size<=z/\z<w3.heap.size))->¬ C z from fun z hz hc=>by
  rcases hz with hz | hz
  ·exact HD.u z hz hc
  ·have:=hC _ _ _ HJ.u z hc; omega)
 have iB:=Lp eI hN hH bT HYY.u hJ hC N 0 0 (Ma.bs N) Az _ C w3 (Nat.zero_add _) (by rw [hlen,Nat.zero_add]; exact Nat.le_refl _) tK.u hH.one WK.u jE.u HJ5.u HDD.u;rw [Nat.zero_add,<- hlen] at iB;have dI:=WK.u.k;go_upto_region 4 with fail;refine c6<|k8 (g7 (.func (.func 108) #[] #[.pointer (some ⟨cb,0,none⟩),.pointer (some ⟨w.heap.size,0,none⟩),.pointer (some ⟨w1.heap.size,0,none⟩)]) ⟨w1.heap.size,0,none⟩ (jZ Tryz.underlying154 dI))<|j6 (Az) rfl ?_;go_frame;refine f4 15 (Aw 108 _ _ _ _ rfl rfl rfl rfl (SE _ _)) ?_;refine iB.mono ?_;rintro e8 w8 h8
 have HX:=U (show (∃ C':Nat->Prop,J (dR N O R).length C' w8/\Rg.Kp C w w8/\∀ z,C' z->C z∨w.heap.size<=z)∨Jx w8 from by
  rcases h8 with ⟨_,C8,VI,VJ,VK⟩ | ⟨_,VL⟩
  ·exact .inl ⟨C8,VI,(Rg.Kp.aD (M:=C) KB.u).trans VJ (fun _ _ h=>h),fun z hz=>(VK z hz).imp id (fun h1=>Nat.le_trans KB.u.size h1)⟩
  ·exact .inr VL)
 obtain ⟨bv,rfl⟩:∃ bv,e8=.returned (.bool bv):=by rcases h8 with ⟨rfl,_⟩ | ⟨rfl,_⟩ <;> exact ⟨_,rfl⟩
 refine ⟨_,rfl,?_⟩;go_frame;clear iB dI h8 WK jE HDD HJ5 tK VF VG HR3 A0 A1 A2 A00 A10 A20 SL rm FIO KB HYY HO HR HL HD HJ HF;go_wp2
 go_end0
 exact ⟨⟨_,rfl⟩,HX.u⟩
end Go.Proofs.YtpedbljnhnoohaaGreat
