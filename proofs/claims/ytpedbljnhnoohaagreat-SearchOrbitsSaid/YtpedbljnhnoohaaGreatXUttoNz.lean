/- Lemmas and contracts on the way to the statement; no condition of their own beyond those written. -/
import Derived.Test.YtpedbljnhnoohaaGreatXDutoUs
set_option linter.unusedVariables false
set_option linter.unusedSimpArgs false
set_option maxRecDepth 100000
set_option maxHeartbeats 8000000
variable {w W w' W' w0 X:Go.World} {n B N L j d D tc base n₀ cap bytes tk:Nat} {v rv ov u z v1 v2 xv u1 u2 yv u3:Go.Value} {F M F' Fk:Nat->Prop} {ll OO PS:List (List Int)} {O gs T A:List (List Nat)} {R:List (List (List Nat))} {RR:List (List (List Int))} {H:List Nat->Prop} {q:List Nat} {xs:List Go.Value} {ck:Int} {xl:List Int}
namespace Go.Proofs.YtpedbljnhnoohaaGreat
open Go.Proofs
section
open Go.RowKit
open Go.Proofs.Ob
open Go.Proofs.Cm (Gd Gr ak ap lexLt bT St)
attribute [local irreducible] Go.Calls Go.wpList
theorem r_ (X:World) (n:Int) (a:Option Addr) (m c:Nat) (a':Option Addr) (m' c':Nat):(Instr.buildSlice 71 1 #[(0,.agg #[.int .i64 n,.slice a m c,.slice a' m' c'])]).run Tryz.prog X=.ok (.slice (some ⟨X.heap.size,0,none⟩) 1 1) (X.alloc (.cells #[.int .i64 n,.slice a m c,.slice a' m' c'] 25)):=by
 obtain ⟨i0,hi,cN,bs,dI⟩:=info_parts fH;refine run_buildSlice X 71 25 1 _ _ i0 _ Tryz.underlying71 hi cN (by rw [bs]; decide) (by rw [bs]; decide) ?_;generalize (fun x=>((Value.agg #[.int .i64 0,.slice none 0 0,.slice none 0 0]).cells)[x % (Value.agg #[.int .i64 0,.slice none 0 0,.slice none 0 0]).cells.size]!)=f;rw [bs];have h1:Array.range (1*3)=#[0,1,2]:=rfl;simp [Instr.fill,Value.cells,h1]
theorem EY (X:World) (a:Option Addr) (m c:Nat) (a':Option Addr) (m' c':Nat):(Instr.buildSlice 41 2 #[(0,.slice a m c),(1,.slice a' m' c')]).run Tryz.prog X=.ok (.slice (some ⟨X.heap.size,0,none⟩) 2 2) (X.alloc (.cells #[.slice a m c,.slice a' m' c'] 27)):=by
 obtain ⟨i0,hi,cN,bs,dI⟩:=info_parts cU;refine run_buildSlice X 41 27 2 _ _ i0 _ Tryz.underlying41 hi cN (by rw [bs]; decide) (by rw [bs]; decide) ?_;generalize (fun x=>((Value.slice none 0 0).cells)[x % (Value.slice none 0 0).cells.size]!)=f;rw [bs];have h1:Array.range (2*1)=#[0,1]:=rfl;simp [Instr.fill,Value.cells,h1]
theorem ki {o:Oper} {a:Act} (T:TypeId) (x:Operand) (ho:o.op=.makeInterface T x) (hx:a.eval x=v) (hr:(Instr.makeInterface T v).run Tryz.prog w=.ok (.iface T v) w):(execOp a.eval o).run Tryz.prog w=.ok (.value (.iface T v)) w:=by
 unfold execOp;simp [ho,hx,hr,Result.andThen]
theorem OJ (v:Value) (w:World):(Instr.makeInterface 76 v).run Tryz.prog w=.ok (.iface 76 v) w:=by kernel_rfl
theorem Vr (v:Value) (w:World):(Instr.makeInterface 83 v).run Tryz.prog w=.ok (.iface 83 v) w:=by kernel_rfl
theorem Vs (v:Value) (w:World):(Instr.makeInterface 86 v).run Tryz.prog w=.ok (.iface 86 v) w:=by kernel_rfl
theorem OK (v:Value) (w:World):(Instr.makeInterface 99 v).run Tryz.prog w=.ok (.iface 99 v) w:=by kernel_rfl
theorem Au {o:Oper} {ac:Act} {a a':Option Addr} {c n' c':Nat} (x y:Operand) (ho:o.op=.build 73 #[(0,x),(1,y)]) (hx:ac.eval x=.slice a n c) (hy:ac.eval y=.slice a' n' c') :
  (execOp ac.eval o).run Tryz.prog w=.ok (.value (.agg #[.slice a n c,.slice a' n' c',.slice none 0 0,.slice none 0 0])) w:=by
 unfold execOp;simp only [ho,Sem.run_bind,Sem.run_pure];simp only [List.map_toArray,List.map_cons,List.map_nil,hx,hy]
 have h:(Instr.build 73 #[(0,.slice a n c),(1,.slice a' n' c')]).run Tryz.prog w=.ok (.agg #[.slice a n c,.slice a' n' c',.slice none 0 0,.slice none 0 0]) w:=by kernel_rfl
 first | (simp [h,Result.andThen]) | (rw [h]; rfl) | (erw [h]; rfl)
theorem LG {o:Oper} {ac:Act} {a a':Option Addr} {c n' c':Nat} (x y:Operand) (ho:o.op=.build 73 #[(0,x),(2,y)]) (hx:ac.eval x=.slice a n c) (hy:ac.eval y=.slice a' n' c') :
  (execOp ac.eval o).run Tryz.prog w=.ok (.value (.agg #[.slice a n c,.slice none 0 0,.slice a' n' c',.slice none 0 0])) w:=by
 unfold execOp;simp only [ho,Sem.run_bind,Sem.run_pure];simp only [List.map_toArray,List.map_cons,List.map_nil,hx,hy]
 have h:(Instr.build 73 #[(0,.slice a n c),(2,.slice a' n' c')]).run Tryz.prog w=.ok (.agg #[.slice a n c,.slice none 0 0,.slice a' n' c',.slice none 0 0]) w:=by kernel_rfl
 first | (simp [h,Result.andThen]) | (rw [h]; rfl) | (erw [h]; rfl)
theorem LH {o:Oper} {ac:Act} {a a':Option Addr} {c n' c':Nat} (x y:Operand) (ho:o.op=.build 73 #[(0,x),(3,y)]) (hx:ac.eval x=.slice a n c) (hy:ac.eval y=.slice a' n' c') :
  (execOp ac.eval o).run Tryz.prog w=.ok (.value (.agg #[.slice a n c,.slice none 0 0,.slice none 0 0,.slice a' n' c'])) w:=by
 unfold execOp;simp only [ho,Sem.run_bind,Sem.run_pure];simp only [List.map_toArray,List.map_cons,List.map_nil,hx,hy]
 have h:(Instr.build 73 #[(0,.slice a n c),(3,.slice a' n' c')]).run Tryz.prog w=.ok (.agg #[.slice a n c,.slice none 0 0,.slice none 0 0,.slice a' n' c']) w:=by kernel_rfl
 first | (simp [h,Result.andThen]) | (rw [h]; rfl) | (erw [h]; rfl)
theorem Av {o:Oper} {ac:Act} {a:Option Addr} {c:Nat} (x:Operand) (ho:o.op=.build 73 #[(0,x)]) (hx:ac.eval x=.slice a n c) :
  (execOp ac.eval o).run Tryz.prog w=.ok (.value (.agg #[.slice a n c,.slice none 0 0,.slice none 0 0,.slice none 0 0])) w:=by
 unfold execOp;simp only [ho,Sem.run_bind,Sem.run_pure];simp only [List.map_toArray,List.map_cons,List.map_nil,hx]
 have h:(Instr.build 73 #[(0,.slice a n c)]).run Tryz.prog w=.ok (.agg #[.slice a n c,.slice none 0 0,.slice none 0 0,.slice none 0 0]) w:=by kernel_rfl
 first | (simp [h,Result.andThen]) | (rw [h]; rfl) | (erw [h]; rfl)
theorem kl {o:Oper} {ac:Act} {T:TypeId} (x y:Operand) (ho:o.op=.build T #[(0,x),(1,y)]) (hx:ac.eval x=v1) (hy:ac.eval y=v2) (h:(Instr.build T #[(0,v1),(1,v2)]).run Tryz.prog w=.ok v w):(execOp ac.eval o).run Tryz.prog w=.ok (.value v) w:=by
 unfold execOp;simp only [ho,Sem.run_bind,Sem.run_pure];simp only [List.map_toArray,List.map_cons,List.map_nil,hx,hy]
 first | (simp [h,Result.andThen]) | (rw [h]; rfl) | (erw [h]; rfl)
theorem vI {a a':Option Addr} {c n' c':Nat} (w:World):(Instr.build 76 #[(0,.slice a n c),(1,.slice a' n' c')]).run Tryz.prog w=.ok (.agg #[.slice a n c,.slice a' n' c']) w/\(Instr.build 83 #[(0,.slice a n c),(1,.slice a' n' c')]).run Tryz.prog w=.ok (.agg #[.slice a n c,.slice a' n' c']) w/\(Instr.build 86 #[(0,.slice a n c),(1,.slice a' n' c')]).run Tryz.prog w=.ok (.agg #[.slice a n c,.slice a' n' c']) w :=
 ⟨by kernel_rfl,by kernel_rfl,by kernel_rfl⟩
theorem nN.one {n:Int} {oa:Option Addr} {on oc:Nat} {ra:Option Addr} {rn rc:Nat} (h:bg w (.slice oa on oc) (.slice ra rn rc) OO RR):nN w.heap.size [(n,OO,RR)] (w.alloc (.cells #[.int .i64 n,.slice oa on oc,.slice ra rn rc] 25)) :=
 ⟨by simp,fun i hi=>by
  obtain rfl:i=0:=by simp at hi; omega
  exact ⟨oa,on,oc,ra,rn,rc,by rw [Rg.aI]; rfl,by rw [Rg.aI]; rfl,by rw [Rg.aI]; rfl,h.jj ((Below.refl _ _).alloc (Nat.le_refl _) _)⟩⟩
theorem mU {l:List Int} (h:Rg.Ints w v l) (t:TypeId):Rg.Rows (w.alloc (.cells #[v] t)) (.slice (some ⟨w.heap.size,0,none⟩) 1 1) [l]:=by
 have hb:=(Below.refl w.heap.size w).alloc (Nat.le_refl _) (.cells #[v] t);refine ⟨[v],⟨some ⟨w.heap.size,0,none⟩,1,rfl,Nat.le_refl _,by unfold maxLen; omega,by simp [Rg.uL],fun _=>⟨w.heap.size,0,rfl,by simp,fun j hj=>?_⟩⟩,rfl,fun i p q=>?_⟩
 ·obtain rfl:j=0:=by simp at hj; omega
  rw [Rg.aI]; rfl
 ·obtain rfl:i=0:=by simp at p; omega
  exact Rg.Ints.jj h hb
theorem xT {l m:List Int} (h:Rg.Ints w v l) (h2:Rg.Ints w u m) (t:TypeId):Rg.Rows (w.alloc (.cells #[v,u] t)) (.slice (some ⟨w.heap.size,0,none⟩) 2 2) [l,m]:=by
 have hb:=(Below.refl w.heap.size w).alloc (Nat.le_refl _) (.cells #[v,u] t);refine ⟨[v,u],⟨some ⟨w.heap.size,0,none⟩,2,rfl,Nat.le_refl _,by unfold maxLen; omega,by simp [Rg.uL],fun _=>⟨w.heap.size,0,rfl,by simp,fun j hj=>?_⟩⟩,rfl,fun i p q=>?_⟩
 ·have:j=0∨j=1:=by simp at hj; omega
  rcases this with rfl | rfl <;> rw [Rg.aI] <;> rfl
 ·have:i=0∨i=1:=by simp at p; omega
  rcases this with rfl | rfl
  ·exact Rg.Ints.jj h hb
  ·exact Rg.Ints.jj h2 hb
structure nk (Fk:Nat->Prop) (sv tv:Value) (s t:List Int) (W:World):Prop where
 s:Rg.FI Fk W sv s
 t:Rg.FI Fk W tv t
theorem Vt (h1:1<=N) (h2:N<=64) {x y:List Nat} (gx:Gd N x) (h:nk Fk xv yv (Ma.ag x) (Ma.ag y) W):kH N (.iface 76 (.agg #[xv,yv])) (fun g=>decide (eG x g=y)) Fk (nk Fk xv yv (Ma.ag x) (Ma.ag y)) W :=
 ⟨⟨⟨201,.agg #[xv,yv],fun gv W=>by kernel_rfl,fun W gv g hA hg gg=>EE h1 h2 xv yv gv x y g W hA.s.ints hA.t.ints hg gx gg⟩,fun W W' hA hs=>⟨FI.same hA.s hs,FI.same hA.t hs⟩,fun C W W' hA hk hC=>⟨hA.s.kp hk hC,hA.t.kp hk hC⟩⟩,h⟩
theorem Vu (h2:N<=64) {sv tv:Value} {s t:List Nat} (hs:∀ y∈s,y<N) (hl:s.length<=100000) (h:nk Fk sv tv (Ma.ag s) (Ma.ag t) W):kH N (.iface 83 (.agg #[sv,tv])) (fun g=>decide (Ob.eK (Ma.ag (s.map (ap g)))=Ma.ag t)) Fk (nk Fk sv tv (Ma.ag s) (Ma.ag t)) W :=
 ⟨⟨⟨204,.agg #[sv,tv],fun gv W=>by kernel_rfl,fun W gv g hA hg gg=>EK h2 sv tv gv s t g W hA.s.ints hA.t.ints hg hs hl gg⟩,fun W W' hA hs=>⟨FI.same hA.s hs,FI.same hA.t hs⟩,fun C W W' hA hk hC=>⟨hA.s.kp hk hC,hA.t.kp hk hC⟩⟩,h⟩
theorem Vv (h2:N<=64) {sv tv:Value} {s t:List Nat} (hs:∀ y∈s,y<N) (hl:s.length<=100000) (h:nk Fk sv tv (Ma.ag s) (Ma.ag t) W):kH N (.iface 86 (.agg #[sv,tv])) (fun g=>decide (s.map (ap g)=t)) Fk (nk Fk sv tv (Ma.ag s) (Ma.ag t)) W :=
 ⟨⟨⟨206,.agg #[sv,tv],fun gv W=>by kernel_rfl,fun W gv g hA hg gg=>EF h2 sv tv gv s t g W hA.s.ints hA.t.ints hg hs hl gg⟩,fun W W' hA hs=>⟨FI.same hA.s hs,FI.same hA.t hs⟩,fun C W W' hA hk hC=>⟨hA.s.kp hk hC,hA.t.kp hk hC⟩⟩,h⟩
theorem iX.sh {c0:fj} {Pb:List Nat->Bool} {e:Ending} (h:iX ck c0 Pb w e w'):∃ a n c k,e=.returned (.tuple #[.slice a n c,.int .i64 k]):=by
 rcases h.2 with ⟨_,h⟩ | ⟨_,N,O,R,_,(⟨_,h⟩ | ⟨k,x,_,_,_,h,hx⟩)⟩
 ·exact ⟨_,_,_,_,h⟩
 ·exact ⟨_,_,_,_,h⟩
 ·obtain ⟨n,a,c,_,rfl,_⟩:=hx.len
  exact ⟨_,_,_,_,h⟩
theorem iX.from {c0:fj} {Pb:List Nat->Bool} {e:Ending} (h:iX ck c0 Pb w e w') (hb:Below w0.heap.size w0 w):iX ck c0 Pb w0 e w':=⟨hb.trans (h.1.mono hb.size),h.2⟩
theorem fe.sh {c0:fj} {Pb:List Nat->Bool} {e:Ending} (h:fe ck c0 Pb w e w'):∃ i oa on oc ra rn rc k,e=.returned (.tuple #[.agg #[.int .i64 i,.slice oa on oc,.slice ra rn rc],.int .i64 k]):=by
 rcases h.2 with ⟨_,h⟩ | ⟨_,N,O,R,_,gs,oa,on,oc,ra,rn,rc,O',R',h,_⟩
 ·exact ⟨_,_,_,_,_,_,_,_,h⟩
 ·exact ⟨_,_,_,_,_,_,_,_,h⟩
theorem fe.kp {ck:Int} {c0:fj} {Pb:List Nat->Bool} {w0 w:World} {e:Ending} {w' w'':World} {b:Nat} (h:fe ck c0 Pb w e w') (hb:Below w0.heap.size w0 w) (hk:Rg.Kp (fun z=>z=b) w' w'') (h1:w0.heap.size<=b) (h2:b<w.heap.size):fe ck c0 Pb w0 e w'':=by
 refine ⟨Rg.Kp.jj (hb.trans (h.1.mono hb.size)) hk (fun z e=>by omega),?_⟩;have hs:=hb.size
 rcases h.2 with h | ⟨h0,N,O,R,hc,gs,oa,on,oc,ra,rn,rc,O',R',e,g1,g2,g3⟩
 ·exact .inl h
 ·exact .inr ⟨h0,N,O,R,hc,gs,oa,on,oc,ra,rn,rc,O',R',e,(g1.kp hk (fun z hz e=>by omega)).mono (fun z hz=>by omega),bf.mono (g2.kp hk (fun z hz e=>by omega)) (fun z hz=>by omega),g3⟩

def uI (xl yl:List Int) (g:List Nat):Bool:=decide (eG (l4 xl) g=l4 yl)
def Aw (s t:List Int) (g:List Nat):Bool:=decide (Ob.eK (Ma.ag ((l4 s).map (ap g)))=Ma.ag (l4 t))
def EZ (s t:List Int) (g:List Nat):Bool:=decide ((l4 s).map (ap g)=l4 t)
theorem po {o:Oper} {a:Act} (T:TypeId) (x y:Operand) (ho:o.op=.buildSlice T 2 #[(0,x),(1,y)]) (hx:a.eval x=u1) (hy:a.eval y=u2)
  (hr:(Instr.buildSlice T 2 #[(0,u1),(1,u2)]).run Tryz.prog w=.ok v w'):(execOp a.eval o).run Tryz.prog w=.ok (.value v) w':=by
 unfold execOp;simp [ho,hx,hy,hr,Result.andThen]
theorem Vw:(Tryz.prog.info? 26).map (fun i=>(i.zero,i.size,i.bytes))=some (some (.slice none 0 0),1,24):=by kernel_rfl
theorem E3 (X:World) (a:Option Addr) (m c:Nat):(Instr.buildSlice 22 1 #[(0,.slice a m c)]).run Tryz.prog X=.ok (.slice (some ⟨X.heap.size,0,none⟩) 1 1) (X.alloc (.cells #[.slice a m c] 26)):=by
 obtain ⟨i0,hi,cN,bs,dI⟩:=info_parts Vw;refine run_buildSlice X 22 26 1 _ _ i0 _ Tryz.underlying22 hi cN (by rw [bs]; decide) (by rw [bs]; decide) ?_;generalize (fun x=>((Value.slice none 0 0).cells)[x % (Value.slice none 0 0).cells.size]!)=f;rw [bs];have h1:Array.range (1*1)=#[0]:=rfl;simp [Instr.fill,Value.cells,h1]
theorem OL {n:Int} (hn:n=((N:Nat):Int)) (h1:Ma.bB xl=0) (h2:(xl.length:Int)=n):∃ x,xl=Ma.ag x/\Gd N x:=by
 obtain ⟨x,rfl,hx⟩:=Ma.kn (Ma.gW h1).2.2;rw [Ma.ar] at h2;exact ⟨x,rfl,hx,by omega⟩
theorem vJ {n:Int} (hn:n=((N:Nat):Int)) {s:List Int} (h:¬ s.any (gS n)=true):∃ q,s=Ma.ag q/\∀ y∈q,y<N:=by
 have hh:∀ y∈s,0<=y/\y<n:=fun y hy=>by
  refine Classical.byContradiction fun hc=>h (List.any_eq_true.2 ⟨y,hy,?_⟩);unfold gS;simp;omega
 clear h
 induction s with
 | nil=>exact ⟨[],rfl,fun y hy=>by simp at hy⟩
 | cons y l ih =>
  obtain ⟨q,rfl,hq⟩:=ih fun z hz=>hh z (List.mem_cons_of_mem _ hz);obtain ⟨h0,h1⟩:=hh y (List.mem_cons_self ..);refine ⟨y.toNat :: q,?_,fun z hz=>?_⟩
  ·show y :: Ma.ag q=((y.toNat:Nat):Int) :: Ma.ag q
   rw [Int.toNat_of_nonneg h0]
  ·rcases List.mem_cons.1 hz with rfl | hz
   ·omega
   ·exact hq z hz
theorem xU {n:Int}:∀ {SS:List (List Int)},jw n SS=0->∀ s∈SS,j5 n s=0
 | [],_,_,hc=>by simp at hc
 | c :: l,h,d,hd=>by
  rw [jw] at h
  by_cases e:j5 n c=0
  ·rw [if_pos e] at h
   rcases List.mem_cons.1 hd with rfl | hd
   ·exact e
   ·exact xU h d hd
  ·rw [if_neg e] at h; exact absurd h e
theorem xV {n:Int}:∀ {SS:List (List Int)},jZ n SS=0->∀ s∈SS,j6 n s=0
 | [],_,_,hc=>by simp at hc
 | c :: l,h,d,hd=>by
  rw [jZ] at h
  by_cases e:j6 n c=0
  ·rw [if_pos e] at h
   rcases List.mem_cons.1 hd with rfl | hd
   ·exact e
   ·exact xV h d hd
  ·rw [if_neg e] at h; exact absurd h e
theorem E4 {n:Int} {s:List Int} (h:j5 n s=0):¬ s.any (gS n)=true/\nj s:=by
 unfold j5 at h
 by_cases h1:s.any (gS n)=true
 ·rw [if_pos h1] at h; exact absurd h (by decide)
 ·rw [if_neg h1] at h
  refine ⟨h1,?_⟩
  by_cases h2:nj s
  ·exact h2
  ·rw [if_neg h2] at h; exact absurd h (by decide)
theorem E5 {n:Int} {s:List Int} (h:j6 n s=0):s.length<=64/\¬ s.any (gS n)=true:=by
 unfold j6 at h
 by_cases h1:64<s.length
 ·rw [if_pos h1] at h; exact absurd h (by decide)
 ·rw [if_neg h1] at h
  refine ⟨by omega,fun h2=>?_⟩;rw [if_pos h2] at h; exact absurd h (by decide)
theorem xW {n:Int} {l:List fj} (h:jY ((n,OO,RR) :: l)=0):∃ N:Nat,n=((N:Nat):Int)/\1<=N/\N<=64/\n.toNat=N:=by
 obtain ⟨N,O,R,en,h1,h2,_⟩:=fL (l_ h _ (List.mem_cons_self ..));exact ⟨N,en,h1,h2,by simp only at en; omega⟩
section
variable {n:Int} {OO:List (List Int)} {RR:List (List (List Int))} {l:List fj} {Fk:Nat->Prop} {sv tv:Value} {s t:List Int} {W:World} {PS SS TS:List (List Int)} {c0:fj}
theorem E6 (h:f_ n ((n,OO,RR) :: l) PS SS TS c0=0) (hs:s∈PS) (hn:n=((N:Nat):Int)):∃ x,s=Ma.ag x/\Gd N x:=by
 obtain ⟨_,h2,h3,_⟩:=gl h;refine OL hn (tW h2 s hs) (Classical.byContradiction fun hc=>h3 (.inr (List.any_eq_true.2 ⟨s,hs,?_⟩)));exact decide_eq_true hc
theorem OM (h:f_ n ((n,OO,RR) :: l) PS SS TS c0=0) (hs:s∈PS) (ht:t∈PS) (hA:nk Fk sv tv s t W):kH n.toNat (.iface 76 (.agg #[sv,tv])) (uI s t) Fk (nk Fk sv tv s t) W:=by
 obtain ⟨N,en,h1,h2,h3⟩:=xW (gl h).1;obtain ⟨x,rfl,gx⟩:=E6 h hs en;obtain ⟨y,rfl,gy⟩:=E6 h ht en;rw [h3];have:=Vt h1 h2 gx hA;unfold uI;rw [fM,fM];exact this
theorem Vx (h:f_ n ((n,OO,RR) :: l) PS SS TS c0=0) (hs:s∈SS) (ht:t∈SS) (hl:s.length<=100) (hA:nk Fk sv tv s t W):kH n.toNat (.iface 83 (.agg #[sv,tv])) (Aw s t) Fk (nk Fk sv tv s t) W:=by
 obtain ⟨N,en,h1,h2,h3⟩:=xW (gl h).1;have h4:=(gl h).2.2.2.1;obtain ⟨x,rfl,gx⟩:=vJ en (E4 (xU h4 _ hs)).1;obtain ⟨y,rfl,gy⟩:=vJ en (E4 (xU h4 _ ht)).1;rw [h3];rw [Ma.ar] at hl;have:=Vu h2 gx (by omega) hA;unfold Aw;rw [fM,fM];exact this
theorem Vy (h:f_ n ((n,OO,RR) :: l) PS SS TS c0=0) (hs:s∈TS) (ht:t∈TS) (hl:s.length<=100) (hA:nk Fk sv tv s t W):kH n.toNat (.iface 86 (.agg #[sv,tv])) (EZ s t) Fk (nk Fk sv tv s t) W:=by
 obtain ⟨N,en,h1,h2,h3⟩:=xW (gl h).1;have h4:=(gl h).2.2.2.2.1;obtain ⟨x,rfl,gx⟩:=vJ en (E5 (xV h4 _ hs)).2;obtain ⟨y,rfl,gy⟩:=vJ en (E5 (xV h4 _ ht)).2;rw [h3];rw [Ma.ar] at hl;have:=Vv h2 gx (by omega) hA;unfold EZ;rw [fM,fM];exact this
end
theorem iX.calls {f:FuncId} {args:Array Value} {c0:fj} {Pb:List Nat->Bool} (h:Calls Tryz.prog f args w (iX ck c0 Pb w)):Calls Tryz.prog f args w fun e w'=>∃ a m c k,e=.returned (.tuple #[.slice a m c,.int .i64 k])/\iX ck c0 Pb w (.returned (.tuple #[.slice a m c,.int .i64 k])) w'/\Below w.heap.size w w' :=
 h.mono fun e w' hr=>by
  obtain ⟨a,m,c,k,rfl⟩:=hr.sh;exact ⟨a,m,c,k,rfl,hr,hr.1⟩
theorem fe.calls {f:FuncId} {args:Array Value} {c0:fj} {Pb:List Nat->Bool} (h:Calls Tryz.prog f args w (fe ck c0 Pb w)):Calls Tryz.prog f args w fun e w'=>∃ i oa on oc ra rn rc k,e=.returned (.tuple #[.agg #[.int .i64 i,.slice oa on oc,.slice ra rn rc],.int .i64 k])/\fe ck c0 Pb w (.returned (.tuple #[.agg #[.int .i64 i,.slice oa on oc,.slice ra rn rc],.int .i64 k])) w'/\Below w.heap.size w w' :=
 h.mono fun e w' hr=>by
  obtain ⟨i,oa,on,oc,ra,rn,rc,k,rfl⟩:=hr.sh;exact ⟨i,oa,on,oc,ra,rn,rc,k,rfl,hr,hr.1⟩

def Vz (N:Nat) (g x y:List Nat):Bool:=decide (∀ i,i<N->ap y (ap g i)=ap g (ap x i))
def VA (g s t:List Nat):Bool:=decide (s.length=t.length/\∀ y∈s,ap g y∈t)
theorem S1 {x:Nat} {t:List Nat}:((x:Nat):Int)∈Ma.ag t↔x∈t:=by
 unfold Ma.ag;rw [List.mem_map];exact ⟨fun ⟨y,h1,h2⟩=>by have:y=x:=(by omega); exact this▸h1,fun h=>⟨x,h,rfl⟩⟩

theorem Ap.congr {LL:List (List Nat)} {Pb Ir:List Nat->Bool} {e:Ending} (h:Ap LL Pb e w) (hp:∀ g∈LL,Pb g=Ir g):Ap LL Ir e w:=by
 have hh:∀ i,i<LL.length->Pb (LL.getD i [])=Ir (LL.getD i []):=fun i hi=>hp _ (by
  rw [List.getD_eq_getElem?_getD,List.getElem?_eq_getElem hi]; exact List.getElem_mem hi)
 rcases h with ⟨h1,h2⟩ | ⟨k,x,h1,h2,h3,h4,h5⟩
 ·exact .inl ⟨fun i hi=>by rw [<- hh i hi]; exact h1 i hi,h2⟩
 ·exact .inr ⟨k,x,h1,by rw [<- hh k h1]; exact h2,fun i hi=>by rw [<- hh i (by omega)]; exact h3 i hi,h4,h5⟩

theorem OP:rT (((N:Nat):Int),O.map Ma.ag,R.map (List.map Ma.ag))=if bR O N N<=5040 then 0 else 5:=by
 unfold rT;simp only [kF,Int.toNat_natCast]

theorem VB (args:Array Value) (w:World):(callFunc 63 args).run Tryz.prog w=.ok (.enter 63 args) w:=by kernel_rfl
theorem xX (args:Array Value) (w:World):(callFunc 52 args).run Tryz.prog w=.ok (.enter 52 args) w:=by kernel_rfl
theorem vA {n:Int} {s t:List Int} (h:bg w ov rv OO RR) (hn:n<=12) (hx:Rg.Ints w xv s) (hy:Rg.Ints w yv t)  :
  Calls Tryz.prog 18 #[.agg #[.int .i64 n,ov,rv],xv,yv] w (iX (f_ n [(n,OO,RR)] [s,t] [] [] (n,OO,RR)) (n,OO,RR) (uI s t) w):=by
 obtain ⟨oa,oc,rfl,-⟩:=h.1.shape;obtain ⟨ra,rc,rfl⟩:=h.2.shape;obtain ⟨on,jT⟩:∃ n,Hid (OO.length=n):=⟨_,U rfl⟩;obtain ⟨rn,ks⟩:∃ n,Hid (RR.length=n):=⟨_,U rfl⟩;rw [jT.p,ks.p] at h;rw [jT.p,ks.p];have CE:=U h;have K:=U (Below.refl w.heap.size w);obtain ⟨m1,xa,xc,uV,rfl,-⟩:=hx.len;obtain ⟨m2,ya,yc,CD,rfl,-⟩:=hy.len;have FX:=U (Rg.FI.pz hx);have FY:=U (Rg.FI.pz hy);clear h hx hy
 go_enter Tryz.func18,Tryz.ntmps18
 go_upto_region 0 with (fail);refine d3 ?_;have aQ:=gR w (.int .i64 n) (.slice oa on oc) (.slice ra rn rc);refine d4 3 (Rg.bq _ _ rfl rfl) ?_;go_frame;have hb:=(Below.refl w.heap.size w).alloc (Nat.le_refl _) (.cells #[.int .i64 n,.slice oa on oc,.slice ra rn rc] 25);generalize w.alloc (.cells #[.int .i64 n,.slice oa on oc,.slice ra rn rc] 25)=w1 at *;replace CE:=U (CE.p.jj hb);replace FX:=U (FX.p.jj hb);replace FY:=U (FY.p.jj hb);replace K:=U (Rg.acc K.p hb);clear hb;have A0:=U aQ.1;have A1:=U aQ.2.1;have A2:=U aQ.2.2;clear aQ;refine d6 6 (.slice none 0 0) ?_;go_frame;refine d6 7 (.int .i64 ((0:Nat):Int)) ?_;go_frame;go_upto_region 1 with (fail);refine d3 ?_;refine d4 8 (g8 ((.agg #[.int .i64 n,.slice oa on oc,.slice ra rn rc])) ⟨w.heap.size,0,none⟩ (aM A0.p.cell A1.p.cell A2.p.cell)) ?_;go_frame
 have ku:=nN.one (n:=n) CE.p;refine d4 9 (Rg.aC _ _ _ rfl (.agg #[.int .i64 n,.slice oa on oc,.slice ra rn rc]) rfl (r_ w1 ..)) ?_;go_frame;have hb:=(Below.refl w1.heap.size w1).alloc (Nat.le_refl _) (.cells #[.int .i64 n,.slice oa on oc,.slice ra rn rc] 25);generalize w1.alloc (.cells #[.int .i64 n,.slice oa on oc,.slice ra rn rc] 25)=w2 at *;replace CE:=U (CE.p.jj hb);replace FX:=U (FX.p.jj hb);replace FY:=U (FY.p.jj hb);replace A0:=U (A0.p.jj hb);replace A1:=U (A1.p.jj hb);replace A2:=U (A2.p.jj hb);replace K:=U (Rg.acc K.p hb);clear hb;have CS:=U ku;clear ku;refine d5 10 (.slice xa m1 xc) ?_;go_frame;refine d5 11 (.slice ya m2 yc) ?_;go_frame;have hro:=jX.mk (xT FX.p.ints FY.p.ints 27);refine d4 12 (po _ _ _ rfl rfl rfl (EY w2 ..)) ?_;go_frame;have hb:=(Below.refl w2.heap.size w2).alloc (Nat.le_refl _) (.cells #[.slice xa m1 xc,.slice ya m2 yc] 27)
 generalize w2.alloc (.cells #[.slice xa m1 xc,.slice ya m2 yc] 27)=w3 at *;replace CE:=U (CE.p.jj hb);replace FX:=U (FX.p.jj hb);replace FY:=U (FY.p.jj hb);replace A0:=U (A0.p.jj hb);replace A1:=U (A1.p.jj hb);replace A2:=U (A2.p.jj hb);replace CS:=U (CS.p.jj hb);replace K:=U (Rg.acc K.p hb);clear hb;have RO:=U hro;clear hro;refine d4 13 (Au _ _ rfl rfl rfl) ?_;go_frame;refine d5 14 (.slice xa m1 xc) ?_;go_frame;refine d5 15 (.slice ya m2 yc) ?_;go_frame;refine d4 16 (kl _ _ rfl rfl rfl (vI _).1) ?_;go_frame;refine d4 17 (ki _ _ rfl rfl (OJ _ _)) ?_;go_frame;refine f7 18 (aw 63 _ _ _ rfl rfl rfl (VB _ _)) ?_;refine ((iX.calls (BR (CS:=[(n,OO,RR)]) (cc:=1) CS.p (by simp) (by simp) RO.p.r (by simp) (cV _) (by simp) (by simp) (cV _) (by simp) (by simp) hn (Fk:=fun z=>z<w.heap.size) (fun h0=>⟨OM h0 (by simp) (by simp) ⟨FX.p,FY.p⟩,fun z hz=>Nat.lt_of_lt_of_le hz K.p.size⟩)))).mono ?_
 rintro e1 w4 ⟨iL,Zh,h_,lG,rfl,nK,hb⟩;have xY:=U (nK.from K.p);clear nK;refine ⟨_,rfl,?_⟩;go_frame;replace CE:=U (CE.p.jj hb);replace FX:=U (FX.p.jj hb);replace FY:=U (FY.p.jj hb);replace A0:=U (A0.p.jj hb);replace A1:=U (A1.p.jj hb);replace A2:=U (A2.p.jj hb);replace CS:=U (CS.p.jj hb);replace RO:=U (RO.p.jj hb);replace K:=U (Rg.acc K.p hb);clear hb;refine d4 19 (i6 (.slice iL Zh h_)) ?_;go_frame;refine d4 20 (i6 (.int .i64 lG)) ?_;go_frame;refine d6 6 (.slice iL Zh h_) ?_;go_frame;refine d6 7 (.int .i64 lG) ?_;go_frame;go_wp2
 go_ret2
 exact xY.p
theorem mg {n:Int} {s:List Int} (h:bg w ov rv OO RR) (hn:n<=12) (hx:Rg.Ints w xv s)  :
  Calls Tryz.prog 11 #[.agg #[.int .i64 n,ov,rv],xv] w (fe (f_ n [(n,OO,RR)] [s] [] [] (n,OO,RR)) (n,OO,RR) (uI s s) w):=by
 obtain ⟨oa,oc,rfl,-⟩:=h.1.shape;obtain ⟨ra,rc,rfl⟩:=h.2.shape;obtain ⟨on,jT⟩:∃ n,Hid (OO.length=n):=⟨_,U rfl⟩;obtain ⟨rn,ks⟩:∃ n,Hid (RR.length=n):=⟨_,U rfl⟩;rw [jT.p,ks.p] at h;rw [jT.p,ks.p];have CE:=U h;have K:=U (Below.refl w.heap.size w);obtain ⟨m1,xa,xc,uV,rfl,-⟩:=hx.len;have FX:=U (Rg.FI.pz hx);clear h hx
 go_enter Tryz.func11,Tryz.ntmps11
 go_upto_region 0 with (fail);refine d3 ?_;have aQ:=gR w (.int .i64 n) (.slice oa on oc) (.slice ra rn rc);refine d4 2 (Rg.bq _ _ rfl rfl) ?_;go_frame;have hb:=(Below.refl w.heap.size w).alloc (Nat.le_refl _) (.cells #[.int .i64 n,.slice oa on oc,.slice ra rn rc] 25);generalize w.alloc (.cells #[.int .i64 n,.slice oa on oc,.slice ra rn rc] 25)=w1 at *;replace CE:=U (CE.p.jj hb);replace FX:=U (FX.p.jj hb);replace K:=U (Rg.acc K.p hb);clear hb;have A0:=U aQ.1;have A1:=U aQ.2.1;have A2:=U aQ.2.2;clear aQ;have lj:=U K.p.size;have cD:=cq.new w1 (.int .i64 0) (.slice none 0 0) (.slice none 0 0);refine d4 4 (bw rfl) ?_;go_frame;have hb:=(Below.refl w1.heap.size w1).alloc (Nat.le_refl _) (.cells #[.int .i64 0,.slice none 0 0,.slice none 0 0] 25);generalize w1.alloc (.cells #[.int .i64 0,.slice none 0 0,.slice none 0 0] 25)=w2 at *
 replace CE:=U (CE.p.jj hb);replace FX:=U (FX.p.jj hb);replace A0:=U (A0.p.jj hb);replace A1:=U (A1.p.jj hb);replace A2:=U (A2.p.jj hb);replace K:=U (Rg.acc K.p hb);clear hb;have C4:=U cD;clear cD;refine d6 5 (.int .i64 ((0:Nat):Int)) ?_;go_frame;go_upto_region 1 with (fail);refine d3 ?_;refine d4 6 (g8 ((.agg #[.int .i64 n,.slice oa on oc,.slice ra rn rc])) ⟨w.heap.size,0,none⟩ (aM A0.p.cell A1.p.cell A2.p.cell)) ?_;go_frame;have ku:=nN.one (n:=n) CE.p;refine d4 7 (Rg.aC _ _ _ rfl (.agg #[.int .i64 n,.slice oa on oc,.slice ra rn rc]) rfl (r_ w2 ..)) ?_;go_frame;have hb:=(Below.refl w2.heap.size w2).alloc (Nat.le_refl _) (.cells #[.int .i64 n,.slice oa on oc,.slice ra rn rc] 25);generalize w2.alloc (.cells #[.int .i64 n,.slice oa on oc,.slice ra rn rc] 25)=w3 at *;replace CE:=U (CE.p.jj hb)
 replace FX:=U (FX.p.jj hb);replace A0:=U (A0.p.jj hb);replace A1:=U (A1.p.jj hb);replace A2:=U (A2.p.jj hb);replace C4:=U (C4.p.jj hb);replace K:=U (Rg.acc K.p hb);clear hb;have CS:=U ku;clear ku;refine d5 8 (.slice xa m1 xc) ?_;go_frame;have hro:=jX.mk (mU FX.p.ints 27);refine d4 9 (Rg.aC _ _ _ rfl (.slice xa m1 xc) rfl (cG w3 _ ⟨_,_,_,rfl⟩)) ?_;go_frame;have hb:=(Below.refl w3.heap.size w3).alloc (Nat.le_refl _) (.cells #[.slice xa m1 xc] 27);generalize w3.alloc (.cells #[.slice xa m1 xc] 27)=w4 at *;replace CE:=U (CE.p.jj hb);replace FX:=U (FX.p.jj hb);replace A0:=U (A0.p.jj hb);replace A1:=U (A1.p.jj hb);replace A2:=U (A2.p.jj hb);replace C4:=U (C4.p.jj hb);replace CS:=U (CS.p.jj hb);replace K:=U (Rg.acc K.p hb);clear hb;have RO:=U hro;clear hro
 refine d4 10 (Au _ _ rfl rfl rfl) ?_;go_frame;refine d5 11 (.slice xa m1 xc) ?_;go_frame;refine d5 12 (.slice xa m1 xc) ?_;go_frame;refine d4 13 (kl _ _ rfl rfl rfl (vI _).1) ?_;go_frame;refine d4 14 (ki _ _ rfl rfl (OJ _ _)) ?_;go_frame;have B9:=U C4.p.lt;refine f7 15 (aw 52 _ _ _ rfl rfl rfl (xX _ _)) ?_;refine ((fe.calls (jK (CS:=[(n,OO,RR)]) (cc:=1) CS.p (by simp) (by simp) RO.p.r (by simp) (cV _) (by simp) (by simp) (cV _) (by simp) (by simp) hn (Fk:=fun z=>z<w.heap.size) (fun h0=>⟨OM h0 (by simp) (by simp) ⟨FX.p,FX.p⟩,fun z hz=>Nat.lt_of_lt_of_le hz K.p.size⟩)))).mono ?_;rintro e1 w5 ⟨jL,jM,jN,ju,iL,jO,h_,lG,rfl,nK,hb⟩;have xY:=U nK;have B_:=K;clear nK;refine ⟨_,rfl,?_⟩;go_frame;replace CE:=U (CE.p.jj hb);replace FX:=U (FX.p.jj hb)
 replace A0:=U (A0.p.jj hb);replace A1:=U (A1.p.jj hb);replace A2:=U (A2.p.jj hb);replace C4:=U (C4.p.jj hb);replace CS:=U (CS.p.jj hb);replace RO:=U (RO.p.jj hb);replace K:=U (Rg.acc K.p hb);clear hb;refine d4 16 (i6 (.agg #[.int .i64 jL,.slice jM jN ju,.slice iL jO h_])) ?_;go_frame;refine d4 17 (i6 (.int .i64 lG)) ?_;go_frame;refine Rg.aD none rfl rfl (Rg.ai _ _ _ rfl _ rfl _ rfl (aW _ _ _ _ _ _ _ C4.p)) ?_;go_frame;have y4:=C4.p.set (.int .i64 jL) (.slice jM jN ju) (.slice iL jO h_);have hk:=fQ w5 w1.heap.size (.int .i64 jL) (.slice jM jN ju) (.slice iL jO h_);generalize ((w5.setCell ⟨w1.heap.size,0,none⟩ (.int .i64 jL)).setCell ⟨w1.heap.size,1,none⟩ (.slice jM jN ju)).setCell ⟨w1.heap.size,2,none⟩ (.slice iL jO h_)=w6 at *;refine d6 5 (.int .i64 lG) ?_;go_frame
 go_wp2;exact bodyPost_ret (bz (p:=4) (u:=5) rfl _ rfl rfl y4) rfl (xY.p.kp B_.p hk lj.p B9.p)
theorem se {n:Int} {s:List Int} (h:bg w ov rv OO RR) (hn:n<=12) (hx:Rg.Ints w xv s) (lr:s.length<=100) :
  Calls Tryz.prog 14 #[.agg #[.int .i64 n,ov,rv],xv] w (fe (f_ n [(n,OO,RR)] [] [s] [] (n,OO,RR)) (n,OO,RR) (Aw s s) w):=by
 obtain ⟨oa,oc,rfl,-⟩:=h.1.shape;obtain ⟨ra,rc,rfl⟩:=h.2.shape;obtain ⟨on,jT⟩:∃ n,Hid (OO.length=n):=⟨_,U rfl⟩;obtain ⟨rn,ks⟩:∃ n,Hid (RR.length=n):=⟨_,U rfl⟩;rw [jT.p,ks.p] at h;rw [jT.p,ks.p];have CE:=U h;have K:=U (Below.refl w.heap.size w);obtain ⟨m1,xa,xc,uV,rfl,-⟩:=hx.len;have FX:=U (Rg.FI.pz hx);clear h hx
 go_enter Tryz.func14,Tryz.ntmps14
 go_upto_region 0 with (fail);refine d3 ?_;have aQ:=gR w (.int .i64 n) (.slice oa on oc) (.slice ra rn rc);refine d4 2 (Rg.bq _ _ rfl rfl) ?_;go_frame;have hb:=(Below.refl w.heap.size w).alloc (Nat.le_refl _) (.cells #[.int .i64 n,.slice oa on oc,.slice ra rn rc] 25);generalize w.alloc (.cells #[.int .i64 n,.slice oa on oc,.slice ra rn rc] 25)=w1 at *;replace CE:=U (CE.p.jj hb);replace FX:=U (FX.p.jj hb);replace K:=U (Rg.acc K.p hb);clear hb;have A0:=U aQ.1;have A1:=U aQ.2.1;have A2:=U aQ.2.2;clear aQ;have lj:=U K.p.size;have cD:=cq.new w1 (.int .i64 0) (.slice none 0 0) (.slice none 0 0);refine d4 4 (bw rfl) ?_;go_frame;have hb:=(Below.refl w1.heap.size w1).alloc (Nat.le_refl _) (.cells #[.int .i64 0,.slice none 0 0,.slice none 0 0] 25);generalize w1.alloc (.cells #[.int .i64 0,.slice none 0 0,.slice none 0 0] 25)=w2 at *
 replace CE:=U (CE.p.jj hb);replace FX:=U (FX.p.jj hb);replace A0:=U (A0.p.jj hb);replace A1:=U (A1.p.jj hb);replace A2:=U (A2.p.jj hb);replace K:=U (Rg.acc K.p hb);clear hb;have C4:=U cD;clear cD;refine d6 5 (.int .i64 ((0:Nat):Int)) ?_;go_frame;go_upto_region 1 with (fail);refine d3 ?_;refine d4 6 (g8 ((.agg #[.int .i64 n,.slice oa on oc,.slice ra rn rc])) ⟨w.heap.size,0,none⟩ (aM A0.p.cell A1.p.cell A2.p.cell)) ?_;go_frame;have ku:=nN.one (n:=n) CE.p;refine d4 7 (Rg.aC _ _ _ rfl (.agg #[.int .i64 n,.slice oa on oc,.slice ra rn rc]) rfl (r_ w2 ..)) ?_;go_frame;have hb:=(Below.refl w2.heap.size w2).alloc (Nat.le_refl _) (.cells #[.int .i64 n,.slice oa on oc,.slice ra rn rc] 25);generalize w2.alloc (.cells #[.int .i64 n,.slice oa on oc,.slice ra rn rc] 25)=w3 at *;replace CE:=U (CE.p.jj hb)
 replace FX:=U (FX.p.jj hb);replace A0:=U (A0.p.jj hb);replace A1:=U (A1.p.jj hb);replace A2:=U (A2.p.jj hb);replace C4:=U (C4.p.jj hb);replace K:=U (Rg.acc K.p hb);clear hb;have CS:=U ku;clear ku;refine d5 8 (.slice xa m1 xc) ?_;go_frame;have hro:=jX.mk (mU FX.p.ints 26);refine d4 9 (Rg.aC _ _ _ rfl (.slice xa m1 xc) rfl (E3 w3 ..)) ?_;go_frame;have hb:=(Below.refl w3.heap.size w3).alloc (Nat.le_refl _) (.cells #[.slice xa m1 xc] 26);generalize w3.alloc (.cells #[.slice xa m1 xc] 26)=w4 at *;replace CE:=U (CE.p.jj hb);replace FX:=U (FX.p.jj hb);replace A0:=U (A0.p.jj hb);replace A1:=U (A1.p.jj hb);replace A2:=U (A2.p.jj hb);replace C4:=U (C4.p.jj hb);replace CS:=U (CS.p.jj hb);replace K:=U (Rg.acc K.p hb);clear hb;have RO:=U hro;clear hro;refine d4 10 (LG _ _ rfl rfl rfl) ?_;go_frame
 refine d5 11 (.slice xa m1 xc) ?_;go_frame;refine d5 12 (.slice xa m1 xc) ?_;go_frame;refine d4 13 (kl _ _ rfl rfl rfl (vI _).2.1) ?_;go_frame;refine d4 14 (ki _ _ rfl rfl (Vr _ _)) ?_;go_frame;have B9:=U C4.p.lt;refine f7 15 (aw 52 _ _ _ rfl rfl rfl (xX _ _)) ?_;refine ((fe.calls (jK (CS:=[(n,OO,RR)]) (cc:=1) CS.p (by simp) (by simp) (cV _) (by simp) RO.p.r (by simp) (by simp [lr]) (cV _) (by simp) (by simp) hn (Fk:=fun z=>z<w.heap.size) (fun h0=>⟨Vx h0 (by simp) (by simp) lr ⟨FX.p,FX.p⟩,fun z hz=>Nat.lt_of_lt_of_le hz K.p.size⟩)))).mono ?_;rintro e1 w5 ⟨jL,jM,jN,ju,iL,jO,h_,lG,rfl,nK,hb⟩;have xY:=U nK;have B_:=K;clear nK;refine ⟨_,rfl,?_⟩;go_frame;replace CE:=U (CE.p.jj hb);replace FX:=U (FX.p.jj hb);replace A0:=U (A0.p.jj hb);replace A1:=U (A1.p.jj hb)
 replace A2:=U (A2.p.jj hb);replace C4:=U (C4.p.jj hb);replace CS:=U (CS.p.jj hb);replace RO:=U (RO.p.jj hb);replace K:=U (Rg.acc K.p hb);clear hb;refine d4 16 (i6 (.agg #[.int .i64 jL,.slice jM jN ju,.slice iL jO h_])) ?_;go_frame;refine d4 17 (i6 (.int .i64 lG)) ?_;go_frame;refine Rg.aD none rfl rfl (Rg.ai _ _ _ rfl _ rfl _ rfl (aW _ _ _ _ _ _ _ C4.p)) ?_;go_frame;have y4:=C4.p.set (.int .i64 jL) (.slice jM jN ju) (.slice iL jO h_);have hk:=fQ w5 w1.heap.size (.int .i64 jL) (.slice jM jN ju) (.slice iL jO h_);generalize ((w5.setCell ⟨w1.heap.size,0,none⟩ (.int .i64 jL)).setCell ⟨w1.heap.size,1,none⟩ (.slice jM jN ju)).setCell ⟨w1.heap.size,2,none⟩ (.slice iL jO h_)=w6 at *;refine d6 5 (.int .i64 lG) ?_;go_frame;go_wp2;exact bodyPost_ret (bz (p:=4) (u:=5) rfl _ rfl rfl y4) rfl (xY.p.kp B_.p hk lj.p B9.p)
theorem xZ {n:Int} {s:List Int} (h:bg w ov rv OO RR) (hn:n<=12) (hx:Rg.Ints w xv s) (lr:s.length<=100) :
  Calls Tryz.prog 16 #[.agg #[.int .i64 n,ov,rv],xv] w (fe (f_ n [(n,OO,RR)] [] [] [s] (n,OO,RR)) (n,OO,RR) (EZ s s) w):=by
 obtain ⟨oa,oc,rfl,-⟩:=h.1.shape;obtain ⟨ra,rc,rfl⟩:=h.2.shape;obtain ⟨on,jT⟩:∃ n,Hid (OO.length=n):=⟨_,U rfl⟩;obtain ⟨rn,ks⟩:∃ n,Hid (RR.length=n):=⟨_,U rfl⟩;rw [jT.p,ks.p] at h;rw [jT.p,ks.p];have CE:=U h;have K:=U (Below.refl w.heap.size w);obtain ⟨m1,xa,xc,uV,rfl,-⟩:=hx.len;have FX:=U (Rg.FI.pz hx);clear h hx
 go_enter Tryz.func16,Tryz.ntmps16
 go_upto_region 0 with (fail);refine d3 ?_;have aQ:=gR w (.int .i64 n) (.slice oa on oc) (.slice ra rn rc);refine d4 2 (Rg.bq _ _ rfl rfl) ?_;go_frame;have hb:=(Below.refl w.heap.size w).alloc (Nat.le_refl _) (.cells #[.int .i64 n,.slice oa on oc,.slice ra rn rc] 25);generalize w.alloc (.cells #[.int .i64 n,.slice oa on oc,.slice ra rn rc] 25)=w1 at *;replace CE:=U (CE.p.jj hb);replace FX:=U (FX.p.jj hb);replace K:=U (Rg.acc K.p hb);clear hb;have A0:=U aQ.1;have A1:=U aQ.2.1;have A2:=U aQ.2.2;clear aQ;have lj:=U K.p.size;have cD:=cq.new w1 (.int .i64 0) (.slice none 0 0) (.slice none 0 0);refine d4 4 (bw rfl) ?_;go_frame;have hb:=(Below.refl w1.heap.size w1).alloc (Nat.le_refl _) (.cells #[.int .i64 0,.slice none 0 0,.slice none 0 0] 25);generalize w1.alloc (.cells #[.int .i64 0,.slice none 0 0,.slice none 0 0] 25)=w2 at *
 replace CE:=U (CE.p.jj hb);replace FX:=U (FX.p.jj hb);replace A0:=U (A0.p.jj hb);replace A1:=U (A1.p.jj hb);replace A2:=U (A2.p.jj hb);replace K:=U (Rg.acc K.p hb);clear hb;have C4:=U cD;clear cD;refine d6 5 (.int .i64 ((0:Nat):Int)) ?_;go_frame;go_upto_region 1 with (fail);refine d3 ?_;refine d4 6 (g8 ((.agg #[.int .i64 n,.slice oa on oc,.slice ra rn rc])) ⟨w.heap.size,0,none⟩ (aM A0.p.cell A1.p.cell A2.p.cell)) ?_;go_frame;have ku:=nN.one (n:=n) CE.p;refine d4 7 (Rg.aC _ _ _ rfl (.agg #[.int .i64 n,.slice oa on oc,.slice ra rn rc]) rfl (r_ w2 ..)) ?_;go_frame;have hb:=(Below.refl w2.heap.size w2).alloc (Nat.le_refl _) (.cells #[.int .i64 n,.slice oa on oc,.slice ra rn rc] 25);generalize w2.alloc (.cells #[.int .i64 n,.slice oa on oc,.slice ra rn rc] 25)=w3 at *;replace CE:=U (CE.p.jj hb)
 replace FX:=U (FX.p.jj hb);replace A0:=U (A0.p.jj hb);replace A1:=U (A1.p.jj hb);replace A2:=U (A2.p.jj hb);replace C4:=U (C4.p.jj hb);replace K:=U (Rg.acc K.p hb);clear hb;have CS:=U ku;clear ku;refine d5 8 (.slice xa m1 xc) ?_;go_frame;have hro:=jX.mk (mU FX.p.ints 26);refine d4 9 (Rg.aC _ _ _ rfl (.slice xa m1 xc) rfl (E3 w3 ..)) ?_;go_frame;have hb:=(Below.refl w3.heap.size w3).alloc (Nat.le_refl _) (.cells #[.slice xa m1 xc] 26);generalize w3.alloc (.cells #[.slice xa m1 xc] 26)=w4 at *;replace CE:=U (CE.p.jj hb);replace FX:=U (FX.p.jj hb);replace A0:=U (A0.p.jj hb);replace A1:=U (A1.p.jj hb);replace A2:=U (A2.p.jj hb);replace C4:=U (C4.p.jj hb);replace CS:=U (CS.p.jj hb);replace K:=U (Rg.acc K.p hb);clear hb;have RO:=U hro;clear hro;refine d4 10 (LH _ _ rfl rfl rfl) ?_;go_frame
 refine d5 11 (.slice xa m1 xc) ?_;go_frame;refine d5 12 (.slice xa m1 xc) ?_;go_frame;refine d4 13 (kl _ _ rfl rfl rfl (vI _).2.2) ?_;go_frame;refine d4 14 (ki _ _ rfl rfl (Vs _ _)) ?_;go_frame;have B9:=U C4.p.lt;refine f7 15 (aw 52 _ _ _ rfl rfl rfl (xX _ _)) ?_;refine ((fe.calls (jK (CS:=[(n,OO,RR)]) (cc:=1) CS.p (by simp) (by simp) (cV _) (by simp) (cV _) (by simp) (by simp) RO.p.r (by simp) (by simp [lr]) hn (Fk:=fun z=>z<w.heap.size) (fun h0=>⟨Vy h0 (by simp) (by simp) lr ⟨FX.p,FX.p⟩,fun z hz=>Nat.lt_of_lt_of_le hz K.p.size⟩)))).mono ?_;rintro e1 w5 ⟨jL,jM,jN,ju,iL,jO,h_,lG,rfl,nK,hb⟩;have xY:=U nK;have B_:=K;clear nK;refine ⟨_,rfl,?_⟩;go_frame;replace CE:=U (CE.p.jj hb);replace FX:=U (FX.p.jj hb);replace A0:=U (A0.p.jj hb);replace A1:=U (A1.p.jj hb)
 replace A2:=U (A2.p.jj hb);replace C4:=U (C4.p.jj hb);replace CS:=U (CS.p.jj hb);replace RO:=U (RO.p.jj hb);replace K:=U (Rg.acc K.p hb);clear hb;refine d4 16 (i6 (.agg #[.int .i64 jL,.slice jM jN ju,.slice iL jO h_])) ?_;go_frame;refine d4 17 (i6 (.int .i64 lG)) ?_;go_frame;refine Rg.aD none rfl rfl (Rg.ai _ _ _ rfl _ rfl _ rfl (aW _ _ _ _ _ _ _ C4.p)) ?_;go_frame;have y4:=C4.p.set (.int .i64 jL) (.slice jM jN ju) (.slice iL jO h_);have hk:=fQ w5 w1.heap.size (.int .i64 jL) (.slice jM jN ju) (.slice iL jO h_);generalize ((w5.setCell ⟨w1.heap.size,0,none⟩ (.int .i64 jL)).setCell ⟨w1.heap.size,1,none⟩ (.slice jM jN ju)).setCell ⟨w1.heap.size,2,none⟩ (.slice iL jO h_)=w6 at *;refine d6 5 (.int .i64 lG) ?_;go_frame;go_wp2;exact bodyPost_ret (bz (p:=4) (u:=5) rfl _ rfl rfl y4) rfl (xY.p.kp B_.p hk lj.p B9.p)
end
section
open Go.RowKit
open Go.Sort
attribute [local irreducible] Go.Calls
def El (F:Nat->Prop) (w:World):={ p:Value × List Int // Rg.FI F w p.1 p.2 }
theorem Rm (F:Nat->Prop) (w:World):Rg.FI F w (.slice none 0 0) []:=⟨none,0,rfl,Nat.le_refl _,Nat.zero_le _,Nat.zero_le _,fun h=>absurd h (Nat.lt_irrefl 0)⟩
instance (F:Nat->Prop) (w:World):Inhabited (El F w):=⟨⟨(.slice none 0 0,[]),Rm F w⟩⟩
end
section
inductive oV (A:List Nat->List Nat->List Nat) (gs:List (List Nat)) (s:List Nat):List Nat->Prop
 | base:oV A gs s s
 | step {g x:List Nat}:g∈gs->oV A gs s x->oV A gs s (A g x)
def ln (A:List Nat->List Nat->List Nat) (gs:List (List Nat)) (s:List Nat) (T:List (List Nat)):Prop:=T.Nodup/\∀ x,x∈T↔oV A gs s x
def oW (A:List Nat->List Nat->List Nat) (gs:List (List Nat)) (s:List Nat) (dM:Nat):Prop:=∃ L:List (List Nat),L.Nodup/\(∀ x∈L,oV A gs s x)/\L.length=dM+1
structure kb (A:List Nat->List Nat->List Nat) (gs:List (List Nat)) (s:List Nat) (dM:Nat) (T:List (List Nat)) (i j:Nat):Prop where
 nd:T.Nodup
 s0:s∈T
 zx:∀ x∈T,oV A gs s x
 le:T.length<=dM
 il:i<=T.length
 Rn:∀ k (hk:k<T.length),k<i->∀ g∈gs,A g T[k]∈T
 cur:∀ (hi:i<T.length) m (hm:m<gs.length),m<j->A gs[m] T[i]∈T
variable {A:List Nat->List Nat->List Nat} {gs:List (List Nat)} {s:List Nat} {dM i j:Nat} {T:List (List Nat)}
theorem kb.start (h:1<=dM):kb A gs s dM [s] 0 0 :=
 ⟨by simp,by simp,fun x hx=>by rw [List.mem_singleton] at hx; subst hx; exact .base,by simpa using h,Nat.zero_le _,fun k _ h=>absurd h (Nat.not_lt_zero _),fun _ m _ h=>absurd h (Nat.not_lt_zero _)⟩
theorem kb.eN (h:kb A gs s dM T i j) (hj:j<gs.length) (hi:i<T.length) (hx:A gs[j] T[i]∈T):kb A gs s dM T i (j+1) :=
 ⟨h.nd,h.s0,h.zx,h.le,h.il,h.Rn,fun nt m hm hmj=>by
  by_cases e:m=j
  ·subst e; exact hx
  ·exact h.cur nt m hm (by omega)⟩
theorem kb.new (h:kb A gs s dM T i j) (hj:j<gs.length) (hi:i<T.length) (hx:A gs[j] T[i]∉T) (hl:T.length<dM):kb A gs s dM (T++[A gs[j] T[i]]) i (j+1):=by
 have hg:∀ k (hk:k<T.length) (cO:k<(T++[A gs[j] T[i]]).length),(T++[A gs[j] T[i]])[k]=T[k]:=fun k hk cO=>List.getElem_append_left hk;refine ⟨?_,List.mem_append_left _ h.s0,fun x hx=>?_,by simp; omega,by simp; omega,fun k hk AD g Ro=>?_,fun nt m hm hmj=>?_⟩
 ·rw [List.nodup_append]
  exact ⟨h.nd,by simp,fun a ha b hb=>by rw [List.mem_singleton] at hb; subst hb; exact fun e=>hx (e▸ha)⟩
 ·rcases List.mem_append.1 hx with e | e
  ·exact h.zx x e
  ·rw [List.mem_singleton] at e; subst e; exact .step (List.getElem_mem hj) (h.zx _ (List.getElem_mem hi))
 ·rw [hg k (by omega) hk]
  exact List.mem_append_left _ (h.Rn k (by omega) AD g Ro)
 ·rw [hg i hi nt]
  by_cases e:m=j
  ·subst e; simp
  ·exact List.mem_append_left _ (h.cur hi m hm (by omega))
theorem kb.over (h:kb A gs s dM T i j) (hj:j<gs.length) (hi:i<T.length) (hx:A gs[j] T[i]∉T) (hl:T.length=dM):oW A gs s dM :=
 ⟨A gs[j] T[i] :: T,List.nodup_cons.2 ⟨hx,h.nd⟩,fun x hx=>by
  rcases List.mem_cons.1 hx with rfl | e
  ·exact .step (List.getElem_mem hj) (h.zx _ (List.getElem_mem hi))
  ·exact h.zx x e,by simp [hl]⟩
theorem kb.next (h:kb A gs s dM T i j) (hj:gs.length<=j) (hi:i<T.length):kb A gs s dM T (i+1) 0 :=
 ⟨h.nd,h.s0,h.zx,h.le,hi,fun k hk AD g hg=>by
  by_cases e:k=i
  ·subst e
   obtain ⟨m,hm,rfl⟩:=List.getElem_of_mem hg;exact h.cur hi m hm (by omega)
  ·exact h.Rn k hk (by omega) g hg,fun _ m _ hm=>absurd hm (Nat.not_lt_zero _)⟩
theorem kb.done (h:kb A gs s dM T i j) (hi:T.length<=i):ln A gs s T :=
 ⟨h.nd,fun x=>⟨h.zx x,fun hr=>by
  induction hr with
  | base=>exact h.s0
  | step hg _ ih =>
   obtain ⟨k,hk,rfl⟩:=List.getElem_of_mem ih
   exact h.Rn k hk (by omega) _ hg⟩⟩
end
section
open Go.RowKit
open Go.Proofs.Ob
open Go.Proofs.Cm (Gd Gr ak)
attribute [local irreducible] Go.Calls Go.wpList
structure C4 (W:World) (b1 o1 b2 o2 b3 o3 b4 o4:Nat) (v1 v2 v3 v4:Value):Prop where
 c1:W.cell? ⟨b1,o1,none⟩=some v1
 c2:W.cell? ⟨b2,o2,none⟩=some v2
 c3:W.cell? ⟨b3,o3,none⟩=some v3
 c4:W.cell? ⟨b4,o4,none⟩=some v4
theorem lp {b o:Nat} (h:W.cell? ⟨b,o,none⟩=some u) (hb:Below W.heap.size W X):X.cell? ⟨b,o,none⟩=some u:=(Below.cell (p:=⟨b,o,none⟩) hb (eH h)).trans h
theorem C4.jj {b1 o1 b2 o2 b3 o3 b4 o4:Nat} {v3 v4:Value} (h:C4 W b1 o1 b2 o2 b3 o3 b4 o4 v1 v2 v3 v4) (hb:Below W.heap.size W X):C4 X b1 o1 b2 o2 b3 o3 b4 o4 v1 v2 v3 v4 :=
 ⟨lp h.c1 hb,lp h.c2 hb,lp h.c3 hb,lp h.c4 hb⟩
theorem C4.kp {b1 o1 b2 o2 b3 o3 b4 o4:Nat} {v3 v4:Value} (h:C4 W b1 o1 b2 o2 b3 o3 b4 o4 v1 v2 v3 v4) (hk:Rg.Kp M W X) (n1:¬ M b1) (n2:¬ M b2) (n3:¬ M b3) (n4:¬ M b4):C4 X b1 o1 b2 o2 b3 o3 b4 o4 v1 v2 v3 v4 :=
 ⟨rG h.c1 hk n1,rG h.c2 hk n2,rG h.c3 hk n3,rG h.c4 hk n4⟩
structure OQ (w:World) (v:Value) (x:List Nat):Prop where
 np:Rg.NP w v x
theorem OQ.jj {w w':World} {v:Value} {x:List Nat} (h:OQ w v x) (hb:Below w.heap.size w w'):OQ w' v x:=⟨Rg.NP.jj h.np hb⟩
end
section
open Go.RowKit
open Go.Proofs.Ob
open Go.Proofs.Cm (Gd Gr)
attribute [local irreducible] Go.Calls Go.wpList
def GL (D n:Nat) (l:List Nat):Prop:=l.length=n/\∀ x∈l,x<D

theorem Zi (x:List Nat):(Ma.ag x).map Int.toNat=x:=by
 unfold Ma.ag;rw [List.map_map];exact (List.map_congr_left (fun _ _=>rfl)).trans (List.map_id x)
def S2 (T:List (List Nat)):Prop:=(T.map Ma.ag).Pairwise fun a b=>cQ b a=false
theorem ln.perm {A:List Nat->List Nat->List Nat} {s:List Nat} {T':List (List Nat)} (h:ln A gs s T) (hp:T'.Perm T):ln A gs s T' :=
 ⟨hp.nodup_iff.2 h.1,fun x=>hp.mem_iff.trans (h.2 x)⟩
theorem ln.uniq {A:List Nat->List Nat->List Nat} {s:List Nat} {T':List (List Nat)} (h:ln A gs s T) (h':ln A gs s T') (ha:S2 T) (ha':S2 T'):T.map Ma.ag=T'.map Ma.ag:=by
 have hp:T.Perm T':=by
  rw [List.perm_ext_iff_of_nodup h.1 h'.1];exact fun x=>(h.2 x).trans (h'.2 x).symm
 refine List.Perm.eq_of_pairwise (le:=fun a b=>cQ b a=false) ?_ ha ha' (hp.map _);intro a b _ _ h1 h2
 by_cases e:a=b
 ·exact e
 ·have:=ka h2 e
  rw [h1] at this; cases this

def dB (st:Bool) (g l:List Nat):List Nat:=if st then nL (iw g l) else iw g l
theorem OS {l:List Nat} {x:Nat}:x∈nL l↔x∈l:=by
 unfold nL;rw [lM];have hp:((Ma.ag l).mergeSort JU).Perm (Ma.ag l):=List.mergeSort_perm _ _;have h2:=hp.map Int.toNat;rw [Zi] at h2;exact h2.mem_iff
theorem OT {g l:List Nat} (h:Gd D g) (hl:∀ x∈l,x<D):∀ x∈iw g l,x<D:=by
 intro x hx;unfold iw at hx;obtain ⟨y,hy,rfl⟩:=List.mem_map.1 hx
 have vB:y<g.length:=by rw [h.2]; exact hl y hy
 rw [Ma.getD_lt vB];have:=Ma.qI h.1 vB
 rwa [h.2] at this
theorem Rq {st:Bool} {g l:List Nat} (h:Gd D g) (hl:GL D n l):GL D n (dB st g l):=by
 unfold dB
 cases st with
 | true=>exact ⟨by rw [if_pos rfl,NK,rH]; exact hl.1,fun x hx=>by rw [if_pos rfl,OS] at hx; exact OT h hl.2 x hx⟩
 | false=>exact ⟨by rw [if_neg (by decide),rH]; exact hl.1,fun x hx=>by rw [if_neg (by decide)] at hx; exact OT h hl.2 x hx⟩

structure RowK (B:Nat) (F M:Nat->Prop) (W:World) (v:Value) (l:List (List Nat)):Prop where
 size:B<=W.heap.size
 own:∃ us,W.ownsRow B 26 1 v l.length us/\Rg.bx F W us (l.map Ma.ag)
 off:∀ k,v.ownBlock=some k->¬ F k/\¬ M k
theorem RowK.lt {B:Nat} {F M:Nat->Prop} {W:World} {v:Value} {l:List (List Nat)} (h:RowK B F M W v l):∀ k,v.ownBlock=some k->B<=k/\k<W.heap.size:=fun k e=>by
 obtain ⟨us,h1,h2⟩:=h.own;exact h1.lt k e
theorem RowK.shape {l:List (List Nat)} (h:RowK B F M W v l):∃ a c,v=.slice a l.length c:=by
 obtain ⟨us,h1,h2⟩:=h.own;exact Rg.cn h1
theorem RowK.nil (B:Nat) (F M:Nat->Prop) (W:World) (hB:B<=W.heap.size):RowK B F M W (.slice none 0 0) [] :=
 ⟨hB,⟨[],World.ownsRow_nil _ _ _ _,Rg.bx.nil _ _⟩,fun k e=>by simp [Value.ownBlock] at e⟩
theorem RowK.rows {l:List (List Nat)} (h:RowK B F M W v l) (hl:l.length<=1000000000):Rg.Rows W v (l.map Ma.ag):=by
 obtain ⟨us,h1,h2⟩:=h.own;exact Rg.Rows.cR h1 hl h2.1 (fun i a b=>(h2.2 i a b).ints)
theorem RowK.kp {B:Nat} {F M N:Nat->Prop} {W W':World} {v:Value} {l:List (List Nat)} (h:RowK B F M W v l) (hk:Rg.Kp N W W') (hF:∀ k,F k->¬ N k) (hN:∀ k,v.ownBlock=some k->¬ N k):RowK B F M W' v l:=by
 obtain ⟨us,h1,h2⟩:=h.own;exact ⟨Nat.le_trans h.size hk.size,⟨us,fD h1 hk (fun k hn e=>hN k e hn),h2.kp hk hF⟩,h.off⟩
theorem RowK.QO {N:Nat->Prop} {l:List (List Nat)} (h:RowK B F M W v l) (hk:Rg.Kp N W W') (hF:∀ k,F k->¬ N k) (hN:∀ k,N k->M k):RowK B (c_ F W W') M W' v l:=by
 obtain ⟨us,h1,h2⟩:=h.own;refine ⟨Nat.le_trans h.size hk.size,⟨us,fD h1 hk (fun k hn e=>(h.off k e).2 (hN k hn)),(h2.kp hk hF).mono fun k=>.inl⟩,fun k e=>⟨fun g=>?_,(h.off k e).2⟩⟩;have:=(h.lt k e).2
 rcases g with g | g
 ·exact (h.off k e).1 g
 ·omega
theorem RowK.push {l:List (List Nat)} (h:RowK B F M W v l) {x:List Nat} (hu:FP F W u x) (hs:∃ a m c,u=.slice a m c) (hF:∀ k,F k->k<W.heap.size) (hM:∀ k,M k->k<W.heap.size) (hn:l.length<1000000) (ty:TypeId) :
  ∃ a c X,(Builtin.append_ #[22,22] ty #[v,.slice (some ⟨W.heap.size,0,none⟩) 1 1]).run Tryz.prog (W.alloc (.cells #[u] 26))=.ok (.slice a (l.length+1) c) X/\RowK B F M X (.slice a (l.length+1) c) (l++[x])/\Rg.Kp (fun k=>v.ownBlock=some k) W X:=by
 obtain ⟨us,h1,h2⟩:=h.own;obtain ⟨a0,m0,c0,rfl⟩:=hs;have hb:Below W.heap.size W (W.alloc (.cells #[.slice a0 m0 c0] 26)):=(Below.refl _ _).alloc (Nat.le_refl _) _;obtain ⟨v',X,r1,r2,r3,r4,a,c,rfl⟩:=eE (P:=Tryz.prog) bU ty (Rg.bE h1 hb) (Nat.le_trans h.size hb.size) W.heap.size 1 (u:=.slice a0 m0 c0) (by rw [Rg.aI]; rfl) rfl hn;have hk:Rg.Kp (fun k=>v.ownBlock=some k) W X:=Rg.Kp.trans (M:=fun k=>v.ownBlock=some k) ((Rg.Kp.az hb).iR fun _=>False.elim) (Rg.Kp.cE r3 fun _ e=>e) (fun _ _ e=>e);have hg:∀ k,F k->¬ v.ownBlock=some k:=fun k g e=>(h.off k e).1 g;refine ⟨a,c,X,r1,⟨Nat.le_trans h.size hk.size,⟨us++[.slice a0 m0 c0],by rw [List.length_append]; exact r2,by rw [List.map_append]; exact bx.snoc (h2.kp hk hg) (Rg.FI.kp hu hk hg)⟩,fun k e=>?_⟩,hk⟩
 rcases r4 with r4 | r4
 ·exact h.off k (by rw [<- r4]; exact e)
 ·rw [r4] at e
  injection e with e
  have e2:(W.alloc (.cells #[.slice a0 m0 c0] 26)).heap.size=W.heap.size+1:=by simp
  exact ⟨fun g=>by have:=hF _ g; omega,fun g=>by have:=hM _ g; omega⟩
theorem RowK.at {l:List (List Nat)} (h:RowK B F M W v l) {i:Nat} (hi:i<l.length):∃ b c u,v=.slice (some ⟨b,0,none⟩) l.length c/\l.length<=c/\b<W.heap.size/\W.cell? ⟨b,i,none⟩=some u/\FP F W u l[i]:=by
 obtain ⟨us,h1,h2⟩:=h.own;obtain ⟨-,a,c,rfl,h3,h4,h5⟩:=Rg.zK h1 h2;rw [List.length_map] at h3;obtain ⟨g,rfl,hg,hx⟩:=h5 (by rw [List.length_map]; omega);obtain ⟨u,Ho,tN⟩:=hx i (by simpa using hi);exact ⟨g,c,u,congrArg (fun n=>Value.slice _ n c) (List.length_map ..),h3,hg,Ho,by rw [List.getElem_map] at tN; exact tN⟩
theorem RowK.Yh {l:List (List Nat)} (h:RowK B F (fun _=>False) W v l) (hb:Below W.heap.size W W'):RowK B (c_ F W W') (fun _=>False) W' v l :=
 h.QO (N:=fun _=>False) (Rg.Kp.az hb) (fun _ _=>id) (fun _=>id)
theorem RowK.one {B:Nat} {F M:Nat->Prop} {W:World} {u:Value} {x:List Nat} (hB:B<=W.heap.size) (hu:FP F W u x) (hs:∃ a m c,u=.slice a m c) (hF:∀ k,F k->k<W.heap.size) (hM:∀ k,M k->k<W.heap.size) :
  RowK B F M (W.alloc (.cells #[u] 26)) (.slice (some ⟨W.heap.size,0,none⟩) 1 1) [x]:=by
 have hb:Below W.heap.size W (W.alloc (.cells #[u] 26)):=(Below.refl _ _).alloc (Nat.le_refl _) _;refine ⟨Nat.le_trans hB hb.size,⟨[u],⟨rfl,.inr ⟨W.heap.size,1,#[u],rfl,hB,by show (W.heap.push _)[W.heap.size]?=_; simp,Nat.le_refl _,by decide,rfl,rfl⟩⟩,?_⟩,fun k e=>?_⟩
 ·exact Rg.bx.one (Rg.FI.kp hu (Rg.Kp.az hb) (fun _ _=>id))
 ·simp only [Value.ownBlock,Option.some.injEq] at e
  subst e;exact ⟨fun h=>Nat.lt_irrefl _ (hF _ h),fun h=>Nat.lt_irrefl _ (hM _ h)⟩

structure jy (B:Nat) (W:World) (v:Value) (l:List Nat):Prop where
 row:W.ownsRow B 3 1 v l.length ((Ma.ag l).map (Value.int .i64))
theorem jy.jj {l:List Nat} (h:jy B W v l) (hb:Below W.heap.size W W'):jy B W' v l:=⟨Rg.bE h.row hb⟩
theorem jy.nil (B:Nat) (W:World):jy B W (.slice none 0 0) []:=⟨World.ownsRow_nil _ _ _ _⟩
theorem jy.sh {l:List Nat} (h:jy B W v l) (hn:l.length=n):∃ a c,v=.slice a n c:=by subst hn; exact Rg.cn h.row
theorem jy.app {B0:Nat} {l:List Nat} {z:Nat} (h:jy B W v l) (hB:B<=W.heap.size) (hn:l.length=n) (hl:n<1000000) (hp:Rg.gO B0 [.int .i64 ((z:Nat):Int)] u W) (ty:TypeId) :
  ∃ a c X,(Builtin.append_ #[26,26] ty #[v,u]).run Tryz.prog W=.ok (.slice a (n+1) c) X/\jy B X (.slice a (n+1) c) (l++[z])/\W.grownBy X v.ownBlock:=by
 subst hn;obtain ⟨v',X,r1,r2,r3⟩:=Rg.sO (P:=Tryz.prog) bK ty h.row hB (hp.zJ (show 1<=1000000 by decide)) (by intro u hu; rw [List.mem_singleton] at hu; subst hu; rfl) (by show l.length+1<_; omega);obtain ⟨a,c,rfl⟩:=Rg.cn r2;refine ⟨a,c,X,r1,⟨?_⟩,r3⟩
 have e:((Ma.ag (l++[z])).map (Value.int .i64))=(Ma.ag l).map (Value.int .i64)++[.int .i64 ((z:Nat):Int)]:=by simp [Ma.ag]
 rw [e,List.length_append];exact r2
theorem E7 {g x:List Nat} (h:j<x.length):iw g (x.take (j+1))=iw g (x.take j)++[g.getD x[j] 0]:=by
 unfold iw;rw [List.take_succ_eq_append_getElem h,List.map_append]; rfl
theorem Jq {st:Bool} {s y:List Nat} (hg:∀ g∈gs,Gd D g) (hs:GL D n s) (h:oV (dB st) gs s y):GL D n y:=by
 induction h with
 | base=>exact hs
 | step h1 _ ih=>exact Rq (hg _ h1) ih
end
section
open Go.Proofs.Ob
theorem x3 (l:List Int):(eK l).Pairwise (·<=·):=(o6 l [] .nil).2
theorem pq (l:List Int):(eK l).Perm l:=by
 have h:=(o6 l [] .nil).1;rw [List.append_nil] at h;exact h
theorem Rs {l:List Nat} (h:l.Nodup):(eK (Ma.ag l)).Pairwise (· < ·):=by
 have hn:(eK (Ma.ag l)).Nodup:=by
  rw [(pq _).nodup_iff];unfold Ma.ag;rw [List.Nodup,List.pairwise_map];exact h.imp fun eX e=>eX (by omega)
 exact ((x3 _).and hn).imp fun {a b} h=>by have h1:=h.1; have h2:a≠b:=h.2; omega
end
section
open Go.RowKit
open Go.Proofs.Ob
open Go.Proofs.Cm (Gd Gr ak ap lexLt bT St)
attribute [local irreducible] Go.Calls Go.wpList
theorem t_ {x g:List Nat} (gx:Gd N x) (gg:Gd N g) {i:Nat} (hi:i<N):ap (eG x g) (ap g i)=ap g (ap x i):=by
 have h1:=Cm.cy gg hi;unfold eG;rw [Cm.br (Cm.aV (Cm.aN gg) gx) h1,Cm.br (Cm.aN gg) h1,Cm.ee gg hi]
theorem VC {x y g:List Nat} (gx:Gd N x) (gy:Gd N y) (gg:Gd N g):decide (eG x g=y)=Vz N g x y:=by
 unfold Vz;refine decide_eq_decide.2 ⟨fun h i hi=>?_,fun h=>?_⟩
 ·subst h
  exact t_ gx gg hi
 ·refine Cm.gT (Cm.aV (Cm.aV (Cm.aN gg) gx) gg).2 gy.2 fun j hj=>?_
  have hi:=Cm.cy (Cm.aN gg) hj;have e:=t_ gx gg hi;rw [Cm.fC gg hj] at e;have h2:=h _ hi;rw [Cm.fC gg hj] at h2;exact e.trans h2.symm
theorem x4:∀ {l l':List Int},l.Pairwise (· < ·)->l'.Pairwise (· < ·)->(∀ x,x∈l↔x∈l')->l=l'
 | [],[],_,_,_=>rfl
 | [],y :: l',_,_,h=>by have:=(h y).2 (List.mem_cons_self ..); simp at this
 | x :: l,[],_,_,h=>by have:=(h x).1 (List.mem_cons_self ..); simp at this
 | x :: l,y :: l',h1,h2,h=>by
  rw [List.pairwise_cons] at h1 h2;have hx:=(h x).1 (List.mem_cons_self ..);have hy:=(h y).2 (List.mem_cons_self ..)
  have e:x=y:=by
   rcases List.mem_cons.1 hx with e | e
   ·exact e
   ·rcases List.mem_cons.1 hy with e' | e'
    ·exact e'.symm
    ·have:=h1.1 y e'; have:=h2.1 x e; omega
  subst e
  rw [x4 h1.2 h2.2 fun z=>⟨fun hz=>by
   rcases List.mem_cons.1 ((h z).1 (List.mem_cons_of_mem _ hz)) with e | e
   ·subst e; have:=h1.1 z hz; omega
   ·exact e,fun hz=>by
   rcases List.mem_cons.1 ((h z).2 (List.mem_cons_of_mem _ hz)) with e | e
   ·subst e; have:=h2.1 z hz; omega
   ·exact e⟩]
theorem sf {l:List Int} (h:nj l):l.Pairwise (· < ·):=by
 rw [List.pairwise_iff_getElem]
 have key:∀ d i (h2:i+d+1<l.length),l[i]'(by omega)<l[i+d+1]:=by
  intro d
  induction d with
  | zero=>intro i h2; exact h (i+1) h2 (by omega)
  | succ d ih =>
   intro i h2;have h3:=ih i (by omega);have h4:=h (i+(d+1)+1) h2 (by omega)
   have e:l[i+(d+1)+1 - 1]'(by omega)=l[i+d+1]'(by omega):=by congr 1
   rw [e] at h4;omega
 intro i j hi hj p6;have:=key (j - i - 1) i (by omega)
 have e:l[i+(j - i - 1)+1]'(by omega)=l[j]:=by congr 1; omega
 rw [e] at this;exact this
theorem Ca {s:List Nat} (h:(Ma.ag s).Pairwise (· < ·)):s.Pairwise (· < ·):=by
 unfold Ma.ag at h;rw [List.pairwise_map] at h
 exact h.imp fun h=>by omega
theorem VD {s t g:List Nat} (hs:nj (Ma.ag s)) (ht:nj (Ma.ag t)) (jt:∀ y∈s,y<N) (gg:Gd N g):decide (Ob.eK (Ma.ag (s.map (ap g)))=Ma.ag t)=VA g s t:=by
 have hnd:(s.map (ap g)).Nodup:=by
  rw [List.nodup_iff_pairwise_ne,List.pairwise_map];refine List.Pairwise.imp_of_mem ?_ (Ca (sf hs));intro x y hx hy Hv e;have:=Cm.jz gg (jt x hx) (jt y hy) e;omega
 have jH:t.Nodup:=by
  rw [List.nodup_iff_pairwise_ne]
  exact (Ca (sf ht)).imp fun h=>by omega
 have hp:=pq (Ma.ag (s.map (ap g)));unfold VA;refine decide_eq_decide.2 ⟨fun h=>⟨?_,fun y hy=>?_⟩,fun ⟨hl,hm⟩=>?_⟩
 ·have:=hp.length_eq
  rw [h,Ma.ar,Ma.ar,List.length_map] at this;exact this.symm
 ·rw [<- S1,<- h,hp.mem_iff,S1]
  exact List.mem_map_of_mem hy
 ·refine x4 (Rs hnd) (sf ht) fun x=>?_
  rw [hp.mem_iff]
  have S3:∀ z,z∈s.map (ap g)->z∈t:=fun z hz=>by
   obtain ⟨y,hy,rfl⟩:=List.mem_map.1 hz;exact hm y hy
  unfold Ma.ag;rw [List.mem_map,List.mem_map];refine ⟨fun ⟨z,hz,e⟩=>⟨z,S3 z hz,e⟩,fun ⟨z,hz,e⟩=>⟨z,?_,e⟩⟩;refine Classical.byContradiction fun hc=>?_
  have:=d_ (l:=z :: s.map (ap g)) (m:=t) (List.nodup_cons.2 ⟨hc,hnd⟩) fun a ha=>by
   rcases List.mem_cons.1 ha with rfl | ha
   ·exact hz
   ·exact S3 a ha
  rw [List.length_cons,List.length_map] at this;omega
theorem iX.same {c0:fj} {Pb Ir:List Nat->Bool} {e e':Ending} {w1 w2:World} (h:iX ck c0 Pb w e w1) (h':iX ck c0 Ir W e' w2) (hp:ck=0->∀ N O R,zt c0 N O R->∀ g,Gd N g->Pb g=Ir g) :
  ∃ x y k l,e=.returned (.tuple #[x,.int .i64 k])/\e'=.returned (.tuple #[y,.int .i64 k])/\((x=.slice none 0 0/\y=.slice none 0 0/\l=[])∨(Rg.Ints w1 x l/\Rg.Ints w2 y l)):=by
 obtain ⟨_,(⟨h1,h2⟩ | ⟨h1,N,O,R,hc,hf⟩)⟩:=h
 ·obtain ⟨_,(⟨h3,h4⟩ | ⟨h3,_⟩)⟩:=h'
  ·exact ⟨_,_,_,[],h2,h4,.inl ⟨rfl,rfl,rfl⟩⟩
  ·exact absurd h3 h1
 ·obtain ⟨_,(⟨h3,h4⟩ | ⟨h3,N',O',R',tA,UZ⟩)⟩:=h'
  ·exact absurd h1 h3
  ·have en:N=N':=by have h5:=hc.1; have h6:=tA.1; omega
   subst en;have eo:O=O':=cH (hc.2.2.2.1.symm.trans tA.2.2.2.1);subst eo
   have er:R=R':=by
    have:=congrArg (List.map (List.map l4)) (hc.2.2.2.2.1.symm.trans tA.2.2.2.2.1)
    rwa [fY,fY] at this
   subst er;have eJ:∀ g∈du N O R,Pb g=Ir g:=fun g hg=>hp h1 N O R hc g ((Gr.dC hc.2.2.2.2.2.2).gd _ (((dA hc.2.2.2.2.2.2 hc.2.2.2.2.2.1).2 _).1 hg))
   rcases hf.congr eJ with ⟨g1,g2⟩ | ⟨k,x,g1,g2,g3,g4,g5⟩
   ·rcases UZ with ⟨q1,q2⟩ | ⟨k',x',q1,q2,q3,q4,q5⟩
    ·exact ⟨_,_,_,[],g2,q2,.inl ⟨rfl,rfl,rfl⟩⟩
    ·rw [g1 k' q1] at q2; cases q2
   ·rcases UZ with ⟨q1,q2⟩ | ⟨k',x',q1,q2,q3,q4,q5⟩
    ·rw [q1 k g1] at g2; cases g2
    ·have ek:k=k':=by
      rcases Nat.lt_trichotomy k k' with h | h | h
      ·rw [q3 k h] at g2; cases g2
      ·exact h
      ·rw [g3 k' h] at q2; cases q2
     subst ek;exact ⟨_,_,_,_,g4,q4,.inr ⟨g5,q5⟩⟩
end
section
open Go.RowKit
open Go.Proofs.Ob
open Go.Proofs.Cm (Gd Gr)
attribute [local irreducible] Go.Calls Go.wpList
theorem jy.one {x:Nat} (hB:B<=W.heap.size):jy B (W.alloc (.cells #[.int .i64 ((x:Nat):Int)] 3)) (.slice (some ⟨W.heap.size,0,none⟩) 1 1) [x] :=
 ⟨⟨rfl,.inr ⟨W.heap.size,1,#[.int .i64 ((x:Nat):Int)],rfl,hB,by show (W.heap.push _)[W.heap.size]?=_; simp,Nat.le_refl _,by decide,rfl,rfl⟩⟩⟩
theorem jy.ints {l:List Nat} (h:jy B W v l) (hl:l.length<=1000:=by omega):Rg.Ints W v (Ma.ag l):=Rg.Ints.cR h.row (by omega)
end
section
open Go.Proofs.Ob
open Go.Proofs.Cm (Gr ak bT St Fx ap lu uj)
def uq (gs:List (List Nat)) (D p q:Nat):List Nat:=Tf gs D (wd (tree gs D p) q)
end
section
open Go.RowKit
open Go.Proofs.Ob
open Go.Shelf
open Go.Proofs.Cm (Gd)
attribute [local go_sem] Oper.semAt_some
attribute [local irreducible] Go.Calls Go.wpList Go.wpListIn
structure vC (w:World) (tb:Nat) (n:Int) (ov rv:Value) (W:World) (F:Nat->Prop) (v:Value) (T:List (List Nat)):Prop where
 bX:Below w.heap.size w W
 low:w.heap.size+1<=tb
 a0:CL W w.heap.size 0 (.int .i64 n)
 a1:CL W w.heap.size 1 ov
 a2:CL W w.heap.size 2 rv
 c5:CW W tb v
 row:b_ (tb+1) F (fun _=>False) W v T
 Fr:∀ z,F z->tb+1<=z/\z<W.heap.size
theorem vC.up {w:World} {tb:Nat} {n:Int} {ov rv:Value} {W W':World} {F:Nat->Prop} {v:Value} {T:List (List Nat)} (h:vC w tb n ov rv W F v T) (hb:Below W.heap.size W W'):vC w tb n ov rv W' (c_ F W W') v T :=
 ⟨h.bX.trans (hb.mono h.bX.size),h.low,h.a0.up hb,h.a1.up hb,h.a2.up hb,h.c5.jj hb,h.row.Yh hb,fun z hz=>by
  rcases hz with hz | hz
  ·exact ⟨(h.Fr z hz).1,Nat.lt_of_lt_of_le (h.Fr z hz).2 hb.size⟩
  ·exact ⟨by have:=h.c5.lt; omega,hz.2⟩⟩
theorem b_.nc {l:List (List Nat)} (h:b_ B F (fun _=>False) W v l) {row:Option Nat} (hg:W.grownBy W' row) (hr:∀ r,row=some r->∃ o:Obj,W.heap[r]?=some o/\o.isCells=false):b_ B F (fun _=>False) W' v l:=by
 obtain ⟨us,h1,h2⟩:=h.own;exact ⟨Nat.le_trans h.size hg.size,⟨us,Bv hg hr h1,tL hg hr h2⟩,h.off⟩
theorem vC.keep {tb:Nat} {n:Int} {row:Option Nat} (h:vC w tb n ov rv W F v T) (hB:tb+1<=B) (hg:W.grownBy W' row) (hr:∀ r,row=some r->B<=r/\∃ o:Obj,W.heap[r]?=some o/\o.isCells=false):vC w tb n ov rv W' F v T:=by
 have hk:Rg.Kp (fun k=>row=some k) W W':=Rg.Kp.cE hg fun _ e=>e
 have hM:∀ b,b<B->¬ row=some b:=fun b hb e=>by have:=(hr b e).1; omega
 have lo:=h.low;exact ⟨h.bX.grown hg h.bX.size (fun k e=>by have:=(hr k e).1; omega),h.low,h.a0.kp hk (hM _ (by omega)),h.a1.kp hk (hM _ (by omega)),h.a2.kp hk (hM _ (by omega)),h.c5.kp hk (hM _ (by omega)),h.row.nc hg (fun r e=>(hr r e).2),fun z hz=>⟨(h.Fr z hz).1,Nat.lt_of_lt_of_le (h.Fr z hz).2 hg.size⟩⟩
theorem vC.store {tb:Nat} {n:Int} {v':Value} {T':List (List Nat)} (h:vC w tb n ov rv W F v T) (hk:Rg.Kp (fun k=>v.ownBlock=some k) W X) (hr:b_ (tb+1) F (fun _=>False) X v' T'):vC w tb n ov rv (X.setCell ⟨tb,0,none⟩ v') F v' T':=by
 have cO:Rg.Kp (fun z=>z=tb) X (X.setCell ⟨tb,0,none⟩ v'):=Rg.Kp.aL rfl;have lo:∀ k,v.ownBlock=some k->tb+1<=k:=fun k e=>(h.row.lt k e).1;have low:=h.low
 exact ⟨(Rg.Kp.jj h.bX hk (fun k e=>by have:=lo k e; omega)).setCell (p:=⟨tb,0,none⟩) (by show w.heap.size<=tb; omega) _,h.low,
  (h.a0.kp hk (fun e=>by have:=lo _ e; omega)).kp cO (by omega),(h.a1.kp hk (fun e=>by have:=lo _ e; omega)).kp cO (by omega),(h.a2.kp hk (fun e=>by have:=lo _ e; omega)).kp cO (by omega),
  (h.c5.kp hk (fun e=>by have:=lo _ e; omega)).set _,hr.kp cO (fun z hz e=>by have:=(h.Fr z hz).1; omega) (fun z hz e=>by have:=(hr.lt z hz).1; omega),
  fun z hz=>⟨(h.Fr z hz).1,by have:=(h.Fr z hz).2; have:=hk.size; have:=cO.size; omega⟩⟩
theorem KK.Zj {W1:World} {B2:Nat} (h:KK B n₀ W W1) (hk:Rg.Kp (fun k=>v.ownBlock=some k) W1 X) (hr:b_ B2 F M W1 v gs) (hn:n₀<=B2):KK B n₀ W X:=by
 obtain ⟨us,q1,q2⟩:=hr.own;exact h.row (F:=F) (B2:=B2) (gs:=gs) hk ⟨hr.size,us,q1,q2⟩ hn
theorem Iu {fn:Func} {t u:Go.Tmp} (h:fn.results=#[.tmp t,.tmp u]) (tmps:Array Value) {x y:Value} (hx:tmps.getD t undef=x) (hy:tmps.getD u undef=y):(results fn tmps).run Tryz.prog w=.ok (.tuple #[x,y]) w:=by
 rw [results_tmp2 h,hx,hy]
def Jr (n:Int) (OO:List (List Int)) (RR:List (List (List Int))) (w:World) (e:Ending) (w':World):Prop:=∃ v,e=.returned (.tuple #[v,.int .i64 (bH n OO RR)])/\Rg.Rows w' v (l7 n OO RR)/\Below w.heap.size w w'
theorem Ax {n:Int} {tmps:Array Value} {c:Int} {ds:List Nat} (hb:Below w.heap.size w W) (hv:Rg.Rows W v (l7 n OO RR)) (hc:bH n OO RR=c) (p2:tmps.getD 2 undef=v) (p3:tmps.getD 3 undef=.int .i64 c) (hnd:ds.Nodup) (hD:∀ D,D∈ds->RF.ef D W/\w.heap.size<=D) :
  LeavesInM Fence.wide 0 Tryz.prog Tryz.f45 tmps (Jr n OO RR w) (ds.map RF.mark) .returning W :=
 RF.leaves w.heap.size ds W hnd hD fun W' l1 l2 _=>⟨_,Iu rfl _ p2 p3,_,by rw [hc],Eg l2 l1.size hv,hb.trans l1⟩
theorem Cb (w:World) (b o m c:Nat) (h:m<=c):∃ ca:Addr,(Instr.sliceAt 41 (.slice (some ⟨b,o,none⟩) (m+1) (c+1)) (some (.int .i64 1)) none none).run Tryz.prog w=.ok (.slice (some ca) m c) w/\(0<m->ca=⟨b,o+1,none⟩):=by
 by_cases e:c=0
 ·refine ⟨⟨b,o,none⟩,?_,fun h=>by omega⟩
  obtain rfl:m=0:=by omega
  subst e;simp [Instr.sliceAt,Instr.slice,run_underlying Tryz.underlying41,Instr.sliceBounds,Instr.sliceBound,asIntOf,Addr.add]
 ·refine ⟨⟨b,o+1,none⟩,?_,fun _=>rfl⟩
  simp [Instr.sliceAt,Instr.slice,run_underlying Tryz.underlying41,Instr.sliceBounds,Instr.sliceBound,asIntOf,Addr.add,e];intro hh;omega
theorem zy {o:Oper} {a:Act} {r:Value} (x:Operand) (ho:o.op=.slice 41 x (some (.const (.int .i64 1))) none none) (hx:a.eval x=v) (hr:(Instr.sliceAt 41 v (some (.int .i64 1)) none none).run Tryz.prog w=.ok r w) :
  (execOp a.eval o).run Tryz.prog w=.ok (.value r) w:=by
 unfold execOp;simp only [ho,hx,Sem.run_bind,Sem.run_pure,Option.map]
 first | (rw [hr]; rfl) | (erw [hr]; rfl) | simp [hr]
def oX (RR:List (List (List Int))) (z:Nat):List (List Int):=(RR.getD z []).drop 1
theorem LJ:(dD RR.length RR.length).flatMap (fun z=>oX RR z.1)=RR.flatMap (List.drop 1):=by
 have h:(dD RR.length RR.length).flatMap (fun z=>oX RR z.1)=((dD RR.length RR.length).map (fun z=>RR.getD z.1 [])).flatMap (List.drop 1):=by rw [List.flatMap_map]; rfl
 rw [h,Np (fun x=>RR.getD x [])]
 congr 1
 refine List.ext_getElem (by simp) fun i h1 h2=>?_;rw [List.getElem_map,List.getElem_range,Ac h2]
theorem zz {n:Int} (h:bg w ov rv OO RR) :
  Calls Tryz.prog 45 #[.agg #[.int .i64 n,ov,rv]] w (Jr n OO RR w):=by
 obtain ⟨oa,oc,rfl,-⟩:=h.1.shape;obtain ⟨ra,rc,rfl⟩:=h.2.shape;have HC:=U h;have HR:=U h.2;have K:=U (Below.refl w.heap.size w);clear h;refine RF.fX Tryz.func45 rfl ?_;simp only [Tryz.ntmps45,List.size_toArray,List.length_cons,List.length_nil,Nat.reduceAdd,Nat.reduceSub,Array.replicate_succ,Array.replicate_zero,List.push_toArray,List.append_toArray,List.nil_append,List.cons_append];have AY:w.heap.size=w.heap.size+0:=rfl;go_upto_region 0 with (fail);refine d3 ?_;have aQ:=gR w (.int .i64 n) (.slice oa OO.length oc) (.slice ra RR.length rc)
 have hs:(w.alloc (.cells #[.int .i64 n,.slice oa OO.length oc,.slice ra RR.length rc] 25)).heap.size=w.heap.size+1:=by simp
 refine d4 1 (Rg.bq _ _ rfl rfl) ?_;go_frame;have hb:=(Below.refl w.heap.size w).alloc (Nat.le_refl _) (.cells #[.int .i64 n,.slice oa OO.length oc,.slice ra RR.length rc] 25);generalize w.alloc (.cells #[.int .i64 n,.slice oa OO.length oc,.slice ra RR.length rc] 25)=w1 at *;replace HC:=U (HC.p.jj hb);replace K:=U (Rg.acc K.p hb);clear hb;have A0:=U aQ.1;have A1:=U aQ.2.1;have A2:=U aQ.2.2
 have mq:w1.heap.size=w.heap.size+1:=by omega
 clear hs;clear aQ;refine d6 2 (.slice none 0 0) ?_;go_frame;refine d6 3 (.int .i64 ((0:Nat):Int)) ?_;go_frame;obtain ⟨ck,dU⟩:∃ c,Hid (bH n OO RR=c):=⟨_,U rfl⟩;clear AY;go_upto_region 1 with (fail);refine d3 ?_;refine d4 10 (g8 ((.agg #[.int .i64 n,.slice oa OO.length oc,.slice ra RR.length rc])) ⟨w.heap.size,0,none⟩ (aM A0.p.cell A1.p.cell A2.p.cell)) ?_;go_frame;refine f7 11 (aF 73 _ _ rfl rfl (Bu _ _)) ?_;refine (mL HC.p).mono ?_;rintro e1 w2 ⟨rfl,hb⟩;rw [dU.p];refine ⟨_,rfl,?_⟩;go_frame;replace HC:=U (HC.p.jj hb);replace A0:=U (A0.p.jj hb);replace A1:=U (A1.p.jj hb);replace A2:=U (A2.p.jj hb);replace K:=U (Rg.acc K.p hb);clear hb;refine d6 4 (.int .i64 ck) ?_;go_frame
 by_cases h0:ck=0
 case neg =>
  skip
  go_upto_region 2 with (fail);refine d3 ?_;refine d5 12 (.int .i64 ck) ?_;go_frame;refine d4 13 (g9 (.bool true) .neq (h:=aU _ (decide_eq_true h0))) ?_;go_frame;go_upto_region 3 with (fail);refine d3 ?_;refine d5 14 (.int .i64 ck) ?_;go_frame;refine d6 2 (.slice none 0 0) ?_;go_frame;refine d6 3 (.int .i64 ck) ?_;go_frame;have HV:=U (show l7 n OO RR=[] from if_neg (by rw [dU.p]; exact h0));have HX:=U (show Rg.Rows w2 (.slice none 0 0) (l7 n OO RR) by rw [HV.p]; exact cV _);go_wp2;exact Ax (ds:=[]) K.p HX.p dU.p rfl rfl (by simp) (fun D hD=>by simp at hD)
 case pos =>
  have HZ:=U (dU.p.trans h0);go_upto_region 2 with (fail);refine d3 ?_;refine d5 12 (.int .i64 ck) ?_;go_frame;refine d4 13 (g9 (.bool false) .neq (h:=aU _ (decide_eq_false (fun e=>e h0)))) ?_;go_frame;clear h0;obtain ⟨N,O,R,rfl,eZ,DU,Ga,D_,cK,iO⟩:=fL HZ.p;have Um:=U (fL HZ.p);have rm:=U (show RR.length=N by rw [D_,List.length_map,cK.iq]);have Zk:=U (show R.length=RR.length by rw [D_,List.length_map]);have Uq:=U D_;have ew:=U cK;have tq:=U iO;clear Ga D_ cK iO;obtain ⟨tb,VE⟩:∃ tb,Hid (w2.heap.size=tb):=⟨_,U rfl⟩;have cD:=CW.new w2 (.slice none 0 0) 41;rw [VE.p] at cD;have UE:=U (show w.heap.size+1<=tb by have:=A0.p.lt; rw [VE.p] at this; exact this);go_upto_region 4 with (fail);refine d3 ?_;refine d4 5 (lB rfl) ?_;go_frame;have hb:=(Below.refl w2.heap.size w2).alloc (Nat.le_refl _) (.cells #[.slice none 0 0] 41)
  generalize w2.alloc (.cells #[.slice none 0 0] 41)=w3 at *;replace HC:=U (HC.p.jj hb);replace A0:=U (A0.p.jj hb);replace A1:=U (A1.p.jj hb);replace A2:=U (A2.p.jj hb);replace K:=U (Rg.acc K.p hb);clear hb;rw [VE.p] at *;have C5:=U cD;clear cD;have SG:=U (show vC w tb ((N:Nat):Int) (.slice oa OO.length oc) (.slice ra RR.length rc) w3 (fun _=>False) (.slice none 0 0) [] from ⟨K.p,UE.p,A0.p,A1.p,A2.p,C5.p,b_.nil _ _ _ _ C5.p.lt,fun z hz=>hz.elim⟩);clear A0 A1 A2 C5;go_upto_region 5 with (fail);refine d3 ?_;refine d4 15 (g8 ((.agg #[.int .i64 ((N:Nat):Int),.slice oa OO.length oc,.slice ra RR.length rc])) ⟨w.heap.size,0,none⟩ (aM SG.p.a0.cell SG.p.a1.cell SG.p.a2.cell)) ?_;go_frame;refine f7 16 (aF 74 _ _ rfl rfl (GN _ _)) ?_;refine (tE _ _ _ w3).mono ?_;rintro e1 w4 ⟨fb,rfl,lA,hb⟩
  have dR:=hb.size;have qz:=SG.p.up hb;refine ⟨_,rfl,?_⟩;go_frame;replace HC:=U (HC.p.jj hb);replace K:=U (Rg.acc K.p hb);clear hb;have FB:=U lA;clear SG;have SG:=U qz;generalize c_ (fun _=>False) w3 w4=FA at *;clear lA qz;have lW:=U (show tb+1<=w4.heap.size from SG.p.c5.lt);clear dR;obtain ⟨us,uM,xj,DV⟩:=HR.p;have M8:=U DV
  have DW:Bg w.heap.size w4 ra RR.length (fun k=>us[k]?.getD undef):=by
   obtain ⟨a',c',e,q1,q2,q3,q4⟩:=uM
   injection e with e1 e2 e3
   refine ⟨by have:=rm.p; omega,fun h0=>?_,fun b off e5 j hj=>?_,K.p.size⟩
   ·obtain ⟨b,o,e4,e5,_⟩:=q4 (by omega)
    exact ⟨b,o,e1.trans e4,e5⟩
   ·obtain ⟨b',o',e4,e6,e7⟩:=q4 (by omega)
    rw [e1,e4] at e5;simp only [Option.some.injEq,Addr.mk.injEq,and_true] at e5;obtain ⟨rfl,rfl⟩:=e5;rw [(K.p.cell (p:=⟨b',o'+j,none⟩) e6)];show _=some (us[j]?.getD undef);rw [List.getElem?_eq_getElem (by omega)];exact e7 j (by omega)
  have xk:=U DW;have xn:=U xj;clear uM DW xj DV;go_wp2
  refine uA rfl FB.p xk.p rfl (fun pre W=>∃ F v T,vC w tb ((N:Nat):Int) (.slice oa OO.length oc) (.slice ra RR.length rc) W F v T/\T.map Ma.ag=pre.flatMap (fun z=>oX RR z.1)/\T.length<=64*pre.length)
   (fun c pre W=>False) ?hI ?hIx ⟨_,_,[],SG.p,rfl,Nat.zero_le _⟩ ?a1 ?assign ?body ?done ?stop
  case assign =>
   intro l x W K hK
   gi_wp2
   exact hK
  case hI =>
   rintro pre W W' row ⟨F,v,T,h1,h2⟩ hg hr;exact ⟨F,v,T,h1.keep (by have:=lW.p; omega) hg hr,h2⟩
  case hIx =>
   intro c pre W W' row h hg hr;exact h
  case stop =>
   intro D c pre W hD h hd;exact h.elim
  case body =>
   rintro l pre ⟨X,hX⟩ W ⟨F,v,T,qz,vk,qC⟩ Xz;obtain ⟨B,hB⟩:∃ B,w4.heap.size=B:=⟨_,rfl⟩;rw [hB] at lW ⊢;clear FB xk SG K hB HC
   have pE:X<N:=by have:=rm.p; omega
   have SG:=U qz;have KQ:=U (KK.refl (B:=B) (n₀:=w.heap.size) (W:=W) qz.bX.size);have M9:=U vk
   have rA:=U (show T.length<=64*64 by
    have:pre.length<64:=by have:=rm.p; omega
    omega)
   have Zl:=U qC;have qo:=U hX;have KN:=U pE;clear qz vk qC;have hu:=M8.p X (by rw [xn.p]; exact hX) hX
   have e1:us[X]?.getD undef=us[X]'(by rw [xn.p]; exact hX):=by rw [List.getElem?_eq_getElem (by rw [xn.p]; exact hX)]; rfl
   rw [<- e1] at hu
   dsimp only
   generalize us[X]?.getD undef=u at *;clear e1;obtain ⟨rl,rq⟩:∃ rl:List (List Nat),Hid (R.getD X []=rl):=⟨_,U rfl⟩
   have Bq:X<R.length:=by have:=Zk.p; omega
   have Eb:RR[X]'hX=rl.map Ma.ag:=by
    rw [<- rq.p]
    have:RR[X]'hX=(R.map (List.map Ma.ag))[X]'(by rw [List.length_map]; exact Bq):=by first | (congr 1; done) | (congr 1; exact Uq.p)
    rw [this,List.getElem_map,df Bq]
   have S4:=U (show oX RR X=(rl.drop 1).map Ma.ag by
    unfold oX
    rw [Ac hX,Eb,List.map_drop])
   rw [Eb] at hu;have Uy:=U (show ∀ x∈rl,Gd N x from fun x hx=>tq.p x (List.mem_flatten.2 ⟨_,List.getElem_mem Bq,by rw [<- df Bq,rq.p]; exact hx⟩))
   have VF:rl.length<=N - X:=by
    have h1:=ew.p.len X pE;have h2:=hU (Cm.Gr.dC (n:=N) (gs:=(·∈R.flatten)) tq.p) ew.p pE;rw [rq.p] at h1;omega
   have VG:1<=rl.length:=by
    have h1:=ew.p.len X pE;rw [rq.p] at h1;have hm:X∈O.getD X []:=(ew.p.orb X X pE).2 ⟨Ma.bh N,⟨.one,Cm.Fx.one (by omega)⟩,Cm.cF pE⟩;have:=List.length_pos_of_mem hm;omega
   obtain ⟨ua,uc,rfl,zZ,-,-,DY⟩:=hu.shape;obtain ⟨ub,uo,rfl,vn,DZ⟩:=DY (by rw [List.length_map]; omega);rw [List.length_map] at zZ;obtain ⟨m,hm⟩:∃ m,rl.length=m+1:=⟨rl.length - 1,by omega⟩;obtain ⟨cm,rfl⟩:∃ cm,uc=cm+1:=⟨uc - 1,by omega⟩;rw [List.length_map,hm];have HM:=U hm
   have aao:m<64:=by omega
   have HUC:=U DZ;have HUB:=U vn;obtain ⟨ca,Zm,Zn⟩:=Cb W ub uo m cm (by omega);have HCA:=U Zn;clear DZ DY hu Eb VF VG vn hm Zn zZ
   gi_upto_region 7 with (fail)
   refine wpIn_region_list ?_;refine Rg.ax (some 19) rfl rfl (fun _ hh=>by cases hh) (a7 (.slice (some ⟨ub,uo,none⟩) (m+1) (cm+1)) _ rfl rfl) ?_;go_frame;refine Rg.ax (some 20) rfl rfl (fun _ hh=>by cases hh) (zy _ rfl rfl Zm) ?_;go_frame;refine Rg.ax (some 21) rfl rfl (fun _ hh=>by cases hh) (i3 Tryz.underlying41) ?_;go_frame;refine Rg.ax (some 22) rfl rfl (fun _ hh=>by cases hh) (a7 (.int .i64 ((0:Nat):Int)) _ rfl rfl) ?_;go_frame;clear Zm;have qb:=U (show T.map Ma.ag=T.map Ma.ag++(oX RR X).take 0 by simp);have wL:=U (show T.length<=T.length+0 from Nat.le_refl _)
   gi_wp2
   gi_loopw [22] (fun jv wr=>∃ (j:Nat) (F:Nat->Prop) (v:Value) (T':List (List Nat)),jv=.int .i64 j/\j<=m/\Hid (vC w tb ((N:Nat):Int) (.slice oa OO.length oc) (.slice ra RR.length rc) wr F v T')/\Hid (KK B w.heap.size W wr)/\Hid (T'.map Ma.ag=T.map Ma.ag++(oX RR X).take j)/\Hid (T'.length<=T.length+j)) (fun jv _=>m - (intOf jv).toNat)
   case atStart=>exact ⟨0,_,_,_,rfl,Nat.zero_le _,SG,KQ,qb,wL⟩
   case round =>
    clear SG KQ qb wL;obtain ⟨j,F,v,T',rfl,hj,SG,KQ,qb,wL⟩:=hrel;obtain ⟨va,vc,nG⟩:=SG.p.row.shape;subst nG
    by_cases mJ:j<m
    case neg =>
     obtain rfl:j=m:=by omega
     have Gj:¬ (j:Int)<(j:Int):=by omega
     gi_upto_region 8 with (fail)
     refine wpIn_region_list ?_;refine Rg.ax (some 23) rfl rfl (fun _ hh=>by cases hh) (g9 (.bool false) .lss (h:=aP _ (decide_eq_false Gj))) ?_;go_frame
     have HT9:=U (show T'.map Ma.ag=(pre++[(⟨X,qo.p⟩:Fin RR.length)]).flatMap (fun z=>oX RR z.1) by
      rw [List.flatMap_append,List.flatMap_singleton,qb.p,M9.p,List.take_of_length_le]
      rw [S4.p,List.length_map,List.length_drop,HM.p]; omega)
     have HN9:=U (show T'.length<=64*(pre++[(⟨X,qo.p⟩:Fin RR.length)]).length by
      rw [List.length_append,List.length_singleton]
      have:=wL.p; have:=Zl.p; omega)
     gi_wp2
     exact ⟨KQ.p.keeps,KQ.p.bX,_,_,_,SG.p,HT9.p,HN9.p⟩
    case pos =>
     have Gj:(j:Int)<(m:Int):=by omega
     have lC:=U mJ;obtain rfl:=HCA.p (by omega);obtain ⟨sv,hsc,jW⟩:=HUC.p (1+j) (by rw [List.length_map,HM.p]; omega);obtain ⟨s,hs⟩:∃ s:List Nat,Hid (rl[1+j]'(by rw [HM.p]; omega)=s):=⟨_,U rfl⟩
     have nI:Rg.NP w sv s:=by rw [<- hs.p]; rw [List.getElem_map] at jW; exact jW
     have GS:=U (Uy.p s (by rw [<- hs.p]; exact List.getElem_mem _));obtain ⟨sa,so,sc,rfl⟩:=(FP.tj nI).dQ GS.p eZ;have CS:=U (show CL w ub (uo+1+j) (.slice (some ⟨sa,so,none⟩) N sc) from CL.mk (by rw [Nat.add_assoc]; exact hsc) HUB.p);have NS:=U (show Rg.Ints w _ (Ma.ag s) from nI);have tX:=U (show (Ma.ag s).length=N by rw [Ma.ar,GS.p.2]);have M_:=U (show T'.length<1000000 by have:=wL.p; have:=rA.p; omega);have KW:=U SG.p.bX;clear hsc jW nI
     gi_upto_region 8 with (fail)
     refine wpIn_region_list ?_;refine Rg.ax (some 23) rfl rfl (fun _ hh=>by cases hh) (g9 (.bool true) .lss (h:=aP _ f8)) ?_;go_frame
     gi_upto_region 9 with (fail)
     refine wpIn_region_list ?_;refine Rg.ax (some 24) rfl rfl (fun _ hh=>by cases hh) (aB bP _ _ rfl ub (uo+1) (m) cm (j) rfl rfl lC.p) ?_;go_frame;refine Rg.ax (some 25) rfl rfl (fun _ hh=>by cases hh) (g8 (.slice (some ⟨sa,so,none⟩) N sc) ⟨ub,uo+1+j,none⟩ (Rg.ae _ _ Tryz.underlying27 ((Below.cell (p:=⟨ub,uo+1+j,none⟩) KW.p CS.p.lt).trans CS.p.cell))) ?_;go_frame;refine Rg.ax (some 9) rfl rfl (fun _ hh=>by cases hh) (c6 (.slice (some ⟨sa,so,none⟩) N sc) _ rfl rfl) ?_;go_frame;have NS2:=U (OQ.mk (x:=s) (Rg.NP.jj (show Rg.NP w _ s from NS.p) KW.p));clear KW;have NS3:=U (OQ.jj NS2.p ((Below.refl _ _).drew));have Zo:=U (KQ.p.acc ((Below.refl _ _).drew))
     gi_upto_region 10 with (fail)
     have aq:Below wr.heap.size wr wr.drew:=(Below.refl _ _).drew;replace SG:=U (SG.p.up aq);generalize c_ F wr wr.drew=F1 at *;clear aq;refine Rg.Any.rr (hnd:=by kernel_rfl) (S:=Rg.aG 4 (fun W=>Below wr.drew.heap.size wr.drew W) (fun _=>True)) mix ?_;generalize wr.drew=iE at *;have hS:∀ (l:Array Bool) W,Below iE.heap.size iE W->Rg.aG 4 (fun W=>Below iE.heap.size iE W) (fun _=>True) l W:=fun l W h=>⟨.inr h,trivial⟩;have bW:∀ (l:Array Bool) W,l.getD 4 false=true->Rg.aG 4 (fun W=>Below iE.heap.size iE W) (fun _=>True) l W:=fun l W h=>⟨.inl h,trivial⟩;have hI:Below iE.heap.size iE iE:=Below.refl _ _;refine i7 0 4 (.slice va T'.length vc) 26 rfl rfl (i9 ⟨tb,0,none⟩ (fun W hW=>Rg.ae _ _ Tryz.underlying41 ((Below.cell (p:=⟨tb,0,none⟩) hW SG.p.c5.lt).trans SG.p.c5.c))) (hS _ _ hI) ?_;go_frame
     refine d8 1 4 (.slice (some ⟨sa,so,none⟩) N sc) 27 (hS _ _ hI) ?_;go_frame;refine Rg.Any.one (i:=2) (by kernel_rfl) (Rg.Any.ask (some 28) rfl rfl rfl _ _ (aF 75 _ _ rfl rfl (tB _ _)) ?_);refine (mD _ (Ma.ag s) iE NS3.p.np (by rw [tX.p]; exact eZ) (by rw [tX.p]; omega)).mono ?_;rintro e1 tC ⟨cv,rfl,hcv,hb⟩;have VH:=FP.own (F:=F1) (x:=s) hcv (by rw [tX.p]; omega);obtain ⟨yb,yo,yc,rfl⟩:=FP.dQ VH GS.p eZ;have zU:=Zo.p.acc hb;have gZ:=Rg.acc hI hb;clear hI;replace SG:=U (SG.p.up hb);have YV:=U VH;generalize c_ F1 iE tC=F2 at *;clear hb;refine ⟨_,rfl,(hS _ _ gZ),?_⟩;go_frame;obtain ⟨a9,c9,X9,r1,cr,bZ⟩:=SG.p.row.push YV.p ⟨_,_,_,rfl⟩ (fun k hk=>(SG.p.Fr k hk).2) (fun _ e=>e.elim) M_.p 41;have mA:=Rg.acc gZ ((Below.refl _ _).alloc (Nat.le_refl _) (.cells #[.slice (some ⟨yb,yo,none⟩) N yc] 27))
     refine i8 3 29 rfl rfl (Rg.aC _ _ _ rfl (.slice (some ⟨yb,yo,none⟩) N yc) rfl (cG tC _ ⟨_,_,_,rfl⟩)) (hS _ _ mA) ?_;go_frame;refine i8 4 30 rfl rfl (Rg.bu _ _ _ rfl rfl rfl r1) (bW _ _ rfl) ?_;go_frame;have VI:=SG.p.c5.kp bZ (fun e=>by have:=(SG.p.row.lt _ e).1; omega);refine Rg.Any.one (i:=5) (by kernel_rfl) (Rg.Any.cA none rfl rfl rfl (Rg.ai _ _ _ rfl _ rfl _ rfl (Rg.bn _ dF VI.c VI.f)) (bW _ _ rfl) ?_);go_frame;refine Rg.Any.done (by kernel_rfl) ?_ _;refine Rg.lU ?_;clear bW;clear hS mA;have S5:=SG.p.store bZ cr;have S6:KK B w.heap.size W (X9.setCell ⟨tb,0,none⟩ (.slice a9 (T'.length+1) c9)):=(zU.Zj bZ SG.p.row (by have:=SG.p.low; omega)).set _ (by have:=SG.p.low; omega);generalize X9.setCell ⟨tb,0,none⟩ (.slice a9 (T'.length+1) c9)=XF at *
     have SG2:=U S5;have Ui:=U S6
     have Uj:=U (show (T'++[s]).map Ma.ag=T.map Ma.ag++(oX RR X).take (j+1) by
      have e:(oX RR X).take (j+1)=(oX RR X).take j++[Ma.ag s]:=by
       rw [S4.p,List.take_succ_eq_append_getElem (by rw [List.length_map,List.length_drop,HM.p]; have:=lC.p; omega),List.getElem_map,List.getElem_drop,hs.p]
      rw [List.map_append,qb.p,e,List.append_assoc]; rfl)
     have UF:=U (show (T'++[s]).length<=T.length+(j+1) by rw [List.length_append,List.length_singleton]; have:=wL.p; omega);clear S5 S6 zU r1 cr bZ VI SG KQ Zo hcv VH YV
     gi_wp2
     go_roundw
     case rel=>exact ⟨j+1,_,_,_,by go_num,lC.p,SG2,Ui,Uj,UF⟩
     case measure=>simp [intOf]; have:=lC.p; omega
  case done =>
   rintro D Wd hD ⟨F,v,T,qz,vk,qC⟩ hd;have HD:=U (show w.heap.size<=D by have:=lW.p; have:=SG.p.low; omega);clear FB xk SG K;have SG:=U qz;have DF:=U hd;obtain ⟨va,vc,nG⟩:=qz.row.shape;subst nG
   have HX:=U (show Rg.Rows Wd (.slice va T.length vc) (l7 ((N:Nat):Int) OO RR) by
    have e:T.map Ma.ag=l7 ((N:Nat):Int) OO RR:=by
     unfold l7;rw [if_pos HZ.p,vk,LJ]
    rw [<- e]
    exact qz.row.rows (by
     have:=kD (Nat.le_refl RR.length);have h2:=congrArg List.length this;rw [List.length_map,List.length_range] at h2;have:=rm.p
     omega))
   clear qz vk qC hd;go_upto_region 12 with (fail);refine d3 ?_;refine d4 32 (g8 (.slice va T.length vc) ⟨tb,0,none⟩ (Rg.ae _ _ Tryz.underlying41 SG.p.c5.c)) ?_;go_frame;refine d6 2 (.slice va T.length vc) ?_;go_frame;refine d6 3 (.int .i64 ((0:Nat):Int)) ?_;go_frame;go_wp2;exact Ax (ds:=[D]) SG.p.bX HX.p HZ.p rfl rfl (by simp) (fun D' gH=>by simp at gH; subst gH; exact ⟨DF.p,HD.p⟩)
end
section
open Go.RowKit
open Go.Proofs.Ob
open Go.Proofs.Cm (Gd Gr ak ap lexLt bT St)
attribute [local irreducible] Go.Calls Go.wpList
theorem VJ (args:Array Value) (w:World):(callFunc 45 args).run Tryz.prog w=.ok (.enter 45 args) w:=by kernel_rfl
theorem E8 {n:Int} (h:bg w ov rv OO RR) (hb:∀ i,dL (OO.take i)<=1000000) (hl:OO.length<=100) :
  Calls Tryz.prog 30 #[.agg #[.int .i64 n,ov,rv],.int .i64 0] w fun e w'=>e=.returned (.int .i64 ((dL OO:Nat):Int))/\Below w.heap.size w w':=by
 obtain ⟨oa,oc,rfl,-⟩:=h.1.shape;obtain ⟨ra,rc,rfl⟩:=h.2.shape;have RO:=U (jX.mk h.1);have K:=U (Below.refl w.heap.size w);clear h
 go_enter Tryz.func30,Tryz.ntmps30
 go_upto_region 0 with (fail);refine d3 ?_;have aQ:=gR w (.int .i64 n) (.slice oa OO.length oc) (.slice ra RR.length rc);refine d4 2 (Rg.bq _ _ rfl rfl) ?_;go_frame;have hb:=(Below.refl w.heap.size w).alloc (Nat.le_refl _) (.cells #[.int .i64 n,.slice oa OO.length oc,.slice ra RR.length rc] 25);generalize w.alloc (.cells #[.int .i64 n,.slice oa OO.length oc,.slice ra RR.length rc] 25)=w1 at *;replace RO:=U (RO.p.jj hb);replace K:=U (Rg.acc K.p hb);clear hb;have A0:=U aQ.1;have A1:=U aQ.2.1;have A2:=U aQ.2.2;clear aQ;refine d6 4 (.int .i64 ((0:Nat):Int)) ?_;go_frame;go_upto_region 1 with (fail);refine d3 ?_;refine d5 7 (.int .i64 0) ?_;go_frame;refine d4 8 (g9 (.bool false) .neq (h:=aU _ f9)) ?_;go_frame;go_upto_region 3 with (fail);refine d3 ?_;refine d6 5 (.int .i64 ((1:Nat):Int)) ?_;go_frame;go_upto_region 4 with (fail)
 refine d3 ?_;refine d6 6 (.int .i64 ((0:Nat):Int)) ?_;go_frame;have KL:=U (Below.refl w1.heap.size w1);go_wp2
 go_loopw [5,6] (fun nv iv wr=>∃ k:Nat,iv=.int .i64 ((k:Nat):Int)/\k<=OO.length/\nv=.int .i64 ((dL (OO.take k):Nat):Int)/\Hid (Below w1.heap.size w1 wr)) (fun _ iv _=>OO.length - (intOf iv).toNat)
 case atStart=>exact ⟨0,rfl,Nat.zero_le _,rfl,KL⟩
 case round =>
  clear KL;obtain ⟨k,rfl,hk,rfl,KL⟩:=hrel;generalize wr=wA at *;obtain ⟨P,hP⟩:∃ z,Hid (dL (OO.take k)=z):=⟨_,U rfl⟩;rw [hP.p];replace RO:=U (RO.p.jj KL.p);replace A0:=U (A0.p.jj KL.p);replace A1:=U (A1.p.jj KL.p);replace A2:=U (A2.p.jj KL.p)
  by_cases aE:k<OO.length
  case pos =>
   obtain ⟨lb,lo,_,_,e1,cX,cJ,cY⟩:=kh RO.p.r (i:=k) aE;subst e1;obtain ⟨pm,qa,qc,om,dO,-⟩:=cY.len;rw [dO] at cJ;have CX:=U (CL.mk cJ cX)
   have VK:dL (OO.take (k+1))=P*pm:=by rw [List.take_succ_eq_append_getElem aE,oA,hP.p,om]
   have hq:=hb (k+1);rw [VK] at hq;obtain ⟨Q,hQ⟩:∃ z,P*pm=z:=⟨_,rfl⟩;rw [hQ] at VK hq
   have hmul:((P:Nat):Int)*((pm:Nat):Int)=((Q:Nat):Int):=by rw [<- hQ]; exact (Int.natCast_mul P pm).symm
   clear cX cJ cY dO;go_upto_region 5 with (fail);refine d3 ?_;refine d5 9 (.int .i64 ((k:Nat):Int)) ?_;go_frame;refine d4 10 (af _ rfl rfl (gQ _ _)) ?_;go_frame;refine d4 11 (g8 (.slice (some ⟨lb,lo,none⟩) OO.length oc) ⟨w.heap.size,1,none⟩ (Rg.ae _ _ Tryz.underlying22 A1.p.cell)) ?_;go_frame;refine d4 12 (i3 Tryz.underlying22) ?_;go_frame;refine d4 13 (g9 (.bool true) .lss (h:=aP _ f8)) ?_;go_frame;go_upto_region 7 with (fail);refine d3 ?_;refine d5 16 (.int .i64 ((P:Nat):Int)) ?_;go_frame;refine d4 17 (af _ rfl rfl (gQ _ _)) ?_;go_frame;refine d4 18 (g8 (.slice (some ⟨lb,lo,none⟩) OO.length oc) ⟨w.heap.size,1,none⟩ (Rg.ae _ _ Tryz.underlying22 A1.p.cell)) ?_;go_frame;refine d5 19 (.int .i64 ((k:Nat):Int)) ?_;go_frame;refine d4 20 (aB bU _ _ rfl lb (lo) (OO.length) oc (k) rfl rfl (by omega)) ?_;go_frame
   refine d4 21 (g8 (.slice qa pm qc) ⟨lb,lo+k,none⟩ (Rg.ae _ _ Tryz.underlying26 CX.p.cell)) ?_;go_frame;refine d4 22 (i3 Tryz.underlying26) ?_;go_frame;refine d4 23 (g9 (.int .i64 ((Q:Nat):Int)) .mul (h:=FH _ hmul (by omega))) ?_;go_frame;refine d6 5 (.int .i64 ((Q:Nat):Int)) ?_;go_frame;go_upto_region 6 with (fail);refine d3 ?_;refine d5 14 (.int .i64 ((k:Nat):Int)) ?_;go_frame;refine d4 15 (g9 (.int .i64 (((k+1):Nat):Int)) .add (h:=bA _ (by omega) (by omega))) ?_;go_frame;refine d6 6 (.int .i64 (((k+1):Nat):Int)) ?_;go_frame;clear CX;go_wp2
   go_roundw
   case rel=>exact ⟨k+1,by go_num,aE,by rw [VK],KL⟩
   case measure=>simp [intOf]; omega
  obtain rfl:k=OO.length:=by omega
  have HX:=U (show dL OO=P by rw [<- hP.p,List.take_length]);replace K:=U (K.p.trans (KL.p.mono K.p.size));clear KL;go_upto_region 5 with (fail);refine d3 ?_;refine d5 9 (.int .i64 ((OO.length:Nat):Int)) ?_;go_frame;refine d4 10 (af _ rfl rfl (gQ _ _)) ?_;go_frame;refine d4 11 (g8 (.slice oa OO.length oc) ⟨w.heap.size,1,none⟩ (Rg.ae _ _ Tryz.underlying22 A1.p.cell)) ?_;go_frame;refine d4 12 (i3 Tryz.underlying22) ?_;go_frame;refine d4 13 (g9 (.bool false) .lss (h:=aP _ f9)) ?_;go_frame;go_upto_region 8 with (fail);refine d3 ?_;refine d5 24 (.int .i64 ((P:Nat):Int)) ?_;go_frame;refine d6 4 (.int .i64 ((P:Nat):Int)) ?_;go_frame;go_wp2;go_ret;exact ⟨by rw [HX.p]; rfl,K.p⟩
theorem pU {n:Int} (h:bg w ov rv OO RR) :
  Calls Tryz.prog 71 #[.agg #[.int .i64 n,ov,rv]] w fun e w'=>∃ v,e=.returned v/\Rg.Rows w' v (l7 n OO RR)/\Below w.heap.size w w':=by
 obtain ⟨oa,oc,rfl,-⟩:=h.1.shape;obtain ⟨ra,rc,rfl⟩:=h.2.shape;have CE:=U h;have K:=U (Below.refl w.heap.size w);clear h
 go_enter Tryz.func71,Tryz.ntmps71
 go_upto_region 0 with (fail);refine d3 ?_;have aQ:=gR w (.int .i64 n) (.slice oa OO.length oc) (.slice ra RR.length rc);refine d4 1 (Rg.bq _ _ rfl rfl) ?_;go_frame;have hb:=(Below.refl w.heap.size w).alloc (Nat.le_refl _) (.cells #[.int .i64 n,.slice oa OO.length oc,.slice ra RR.length rc] 25);generalize w.alloc (.cells #[.int .i64 n,.slice oa OO.length oc,.slice ra RR.length rc] 25)=w1 at *;replace CE:=U (CE.p.jj hb);replace K:=U (Rg.acc K.p hb);clear hb;have A0:=U aQ.1;have A1:=U aQ.2.1;have A2:=U aQ.2.2;clear aQ;refine d6 2 (.slice none 0 0) ?_;go_frame;go_upto_region 1 with (fail);refine d3 ?_;refine d4 6 (g8 ((.agg #[.int .i64 n,.slice oa OO.length oc,.slice ra RR.length rc])) ⟨w.heap.size,0,none⟩ (aM A0.p.cell A1.p.cell A2.p.cell)) ?_;go_frame;refine f7 7 (aF 45 _ _ rfl rfl (VJ _ _)) ?_;refine (zz (n:=n) CE.p).mono ?_
 rintro e1 w2 ⟨sv,rfl,nG,hb⟩;have rO:=jX.mk nG;obtain ⟨sa,sc,rfl,-⟩:=nG.shape;refine ⟨_,rfl,?_⟩;go_frame;replace CE:=U (CE.p.jj hb);replace A0:=U (A0.p.jj hb);replace A1:=U (A1.p.jj hb);replace A2:=U (A2.p.jj hb);replace K:=U (Rg.acc K.p hb);clear hb;have RS9:=U rO;refine d5 5 ((.tuple #[.slice sa (l7 n OO RR).length sc,.int .i64 (bH n OO RR)])) ?_;go_frame;refine d4 8 (i6 (.slice sa (l7 n OO RR).length sc)) ?_;go_frame;refine d4 9 (i6 (.int .i64 (bH n OO RR))) ?_;go_frame;refine d6 3 (.slice sa (l7 n OO RR).length sc) ?_;go_frame;refine d6 4 (.int .i64 (bH n OO RR)) ?_;go_frame;clear nG rO;go_upto_region 2 with (fail);refine d3 ?_;refine d5 10 (.slice sa (l7 n OO RR).length sc) ?_;go_frame;refine d6 2 (.slice sa (l7 n OO RR).length sc) ?_;go_frame;go_wp2;go_ret;exact ⟨_,rfl,RS9.p.r,K.p⟩

theorem Js (h:Rg.Rows w v ll) {Zp:List (List Int)} (e:ll=Zp):Rg.Rows w v Zp:=e▸h
theorem mV {s:List Nat} (h:Ma.bB (Ma.ag s)=0/\s.length=N):Gd N s:=by
 obtain ⟨p,e,hp⟩:=Ma.kn (Ma.gW h.1).2.2;rw [<- Ma.fl e] at hp;exact ⟨hp,h.2⟩
theorem Iv (w:World) :
  Calls Tryz.prog 47 #[] w fun e w'=>∃ (oa:Option Addr) (on oc:Nat) (ra:Option Addr) (rn rc:Nat) (O:List (List Nat)) (R:List (List (List Nat))),e=.returned (.agg #[.int .i64 ((4:Nat):Int),.slice oa on oc,.slice ra rn rc])/\(bg w' (.slice oa on oc) (.slice ra rn rc) (O.map Ma.ag) (R.map (List.map Ma.ag))/\ak 4 (Gr 4 (·∈([[1,2,3,0],[1,0,2,3]]:List (List Nat)))) O R)/\Below w.heap.size w w':=by
 have K:=U (Below.refl w.heap.size w)
 go_enter Tryz.func47,Tryz.ntmps47
 go_upto_region 0 with (fail);refine d3 ?_;have cD:=cq.new w (.int .i64 0) (.slice none 0 0) (.slice none 0 0);refine d4 0 (bw rfl) ?_;go_frame;have hb:=(Below.refl w.heap.size w).alloc (Nat.le_refl _) (.cells #[.int .i64 0,.slice none 0 0,.slice none 0 0] 25);generalize w.alloc (.cells #[.int .i64 0,.slice none 0 0,.slice none 0 0] 25)=w1 at *;replace K:=U (Rg.acc K.p hb);clear hb;have C0:=U cD;clear cD;have HB:=U (show w.heap.size<w1.heap.size from C0.p.lt);go_upto_region 1 with (fail);refine d3 ?_;have bY:=fS w1 3 [1,2,3,0] (by decide);refine d4 4 (ft _ _ 4 _ rfl [1,2,3,0] Tryz.underlying27 nW ui rfl (by decide) (by decide) rfl) ?_;go_frame;have hb:=(Below.refl w1.heap.size w1).alloc (Nat.le_refl _) (.cells (([1,2,3,0]:List Int).map (Value.int .i64)).toArray 3);generalize w1.alloc (.cells (([1,2,3,0]:List Int).map (Value.int .i64)).toArray 3)=w2 at *
 replace C0:=U (C0.p.jj hb);replace K:=U (Rg.acc K.p hb);clear hb;have I0:=U bY;clear bY;have bY:=fS w2 3 [1,0,2,3] (by decide);refine d4 5 (ft _ _ 4 _ rfl [1,0,2,3] Tryz.underlying27 nW ui rfl (by decide) (by decide) rfl) ?_;go_frame;have hb:=(Below.refl w2.heap.size w2).alloc (Nat.le_refl _) (.cells (([1,0,2,3]:List Int).map (Value.int .i64)).toArray 3);generalize w2.alloc (.cells (([1,0,2,3]:List Int).map (Value.int .i64)).toArray 3)=w3 at *;replace C0:=U (C0.p.jj hb);replace I0:=U (I0.p.jj hb);replace K:=U (Rg.acc K.p hb);clear hb;have I1:=U bY;clear bY;have hro:=jX.mk (Js (xT I0.p I1.p 27) (show _=([[1,2,3,0],[1,0,2,3]]:List (List Nat)).map Ma.ag from rfl));refine d4 6 (po _ _ _ rfl rfl rfl (EY w3 ..)) ?_;go_frame;have hb:=(Below.refl w3.heap.size w3).alloc (Nat.le_refl _) (.cells #[.slice (some ⟨w1.heap.size,0,none⟩) 4 4,.slice (some ⟨w2.heap.size,0,none⟩) 4 4] 27)
 generalize w3.alloc (.cells #[.slice (some ⟨w1.heap.size,0,none⟩) 4 4,.slice (some ⟨w2.heap.size,0,none⟩) 4 4] 27)=w4 at *;replace C0:=U (C0.p.jj hb);replace I0:=U (I0.p.jj hb);replace I1:=U (I1.p.jj hb);replace K:=U (Rg.acc K.p hb);clear hb;have RO:=U hro;clear hro;refine f7 7 (aw 42 _ _ _ rfl rfl rfl (B8 _ _)) ?_;refine (rX (N:=4) (by decide) (by decide) (gs:=[[1,2,3,0],[1,0,2,3]]) (by decide) (fun s hs=>mV ((by decide +kernel:∀ s∈([[1,2,3,0],[1,0,2,3]]:List (List Nat)),Ma.bB (Ma.ag s)=0/\s.length=4) s hs)) _ w4 RO.p.r).mono ?_;rintro e1 w5 ⟨ma,mn,mc,na,nn,nc,O0,R0,rfl,gB,hb⟩;have OG:=U gB;clear gB;have OU:=U C0.p.lt;have EX:LD w5 w5:=⟨Below.refl _ _⟩;refine ⟨_,rfl,?_⟩;go_frame;replace C0:=U (C0.p.jj hb);replace I0:=U (I0.p.jj hb);replace I1:=U (I1.p.jj hb)
 replace RO:=U (RO.p.jj hb);replace K:=U (Rg.acc K.p hb);clear hb;have KY:=U EX;refine d5 3 ((.tuple #[.agg #[.int .i64 ((4:Nat):Int),.slice ma mn mc,.slice na nn nc],.int .i64 0])) ?_;go_frame;refine d4 8 (i6 (.agg #[.int .i64 ((4:Nat):Int),.slice ma mn mc,.slice na nn nc])) ?_;go_frame;refine d4 9 (i6 (.int .i64 0)) ?_;go_frame;refine d4 1 (bw rfl) ?_;go_frame;refine Rg.aD none rfl rfl (Rg.ai _ _ _ rfl _ rfl _ rfl (aW _ _ _ _ _ _ _ (cq.new w5 (.int .i64 0) (.slice none 0 0) (.slice none 0 0)))) ?_;go_frame;have jH:=(cq.new w5 (.int .i64 0) (.slice none 0 0) (.slice none 0 0)).set (.int .i64 ((4:Nat):Int)) (.slice ma mn mc) (.slice na nn nc);have hb:=((((Below.refl w5.heap.size w5).alloc (Nat.le_refl _) (.cells #[.int .i64 0,.slice none 0 0,.slice none 0 0] 25)).setCell (p:=⟨w5.heap.size,0,none⟩) (Nat.le_refl _) (.int .i64 ((4:Nat):Int))).setCell (p:=⟨w5.heap.size,1,none⟩) (Nat.le_refl _) (.slice ma mn mc)).setCell (p:=⟨w5.heap.size,2,none⟩) (Nat.le_refl _) (.slice na nn nc)
 generalize (((w5.alloc (.cells #[.int .i64 0,.slice none 0 0,.slice none 0 0] 25)).setCell ⟨w5.heap.size,0,none⟩ (.int .i64 ((4:Nat):Int))).setCell ⟨w5.heap.size,1,none⟩ (.slice ma mn mc)).setCell ⟨w5.heap.size,2,none⟩ (.slice na nn nc)=w6 at *;replace C0:=U (C0.p.jj hb);replace I0:=U (I0.p.jj hb);replace I1:=U (I1.p.jj hb);replace RO:=U (RO.p.jj hb);replace KY:=U (KY.p.jj hb);replace K:=U (Rg.acc K.p hb);clear hb;have T1:=U jH;clear jH;refine d6 2 (.int .i64 0) ?_;go_frame;go_upto_region 2 with (fail);refine d3 ?_;refine d4 10 (g8 ((.agg #[.int .i64 ((4:Nat):Int),.slice ma mn mc,.slice na nn nc])) ⟨w5.heap.size,0,none⟩ (aM T1.p.c0 T1.p.c1 T1.p.c2)) ?_;go_frame;refine Rg.aD none rfl rfl (Rg.ai _ _ _ rfl _ rfl _ rfl (aW _ _ _ _ _ _ _ C0.p)) ?_;go_frame;have y4:=C0.p.set (.int .i64 ((4:Nat):Int)) (.slice ma mn mc) (.slice na nn nc)
 have hk:=fQ w6 w.heap.size (.int .i64 ((4:Nat):Int)) (.slice ma mn mc) (.slice na nn nc);generalize ((w6.setCell ⟨w.heap.size,0,none⟩ (.int .i64 ((4:Nat):Int))).setCell ⟨w.heap.size,1,none⟩ (.slice ma mn mc)).setCell ⟨w.heap.size,2,none⟩ (.slice na nn nc)=w7 at *;clear EX;obtain ⟨g1,g2,g3⟩:=OG.p;have mK:=Rg.Kp.jj K.p hk (fun z hz=>by omega);have q1:=(g1.kp (M:=fun _=>False) (Rg.Kp.az KY.p.h) (fun _ _=>id)).kp hk (fun z hz e=>by have:=HB.p; have:=OU.p; omega);have q2:=(g2.kp (M:=fun _=>False) (Rg.Kp.az KY.p.h) (fun _ _=>id)).kp hk (fun z hz e=>by have:=HB.p; have:=OU.p; omega);go_wp2;exact bodyPost_ret (kz (p:=0) rfl _ rfl y4) rfl ⟨_,_,_,_,_,_,O0,R0,rfl,⟨⟨aH.rows q1,bf.rows q2⟩,g3⟩,mK⟩
theorem Iw (w:World) :
  Calls Tryz.prog 50 #[] w fun e w'=>∃ (oa:Option Addr) (on oc:Nat) (ra:Option Addr) (rn rc:Nat) (O:List (List Nat)) (R:List (List (List Nat))),e=.returned (.agg #[.int .i64 ((4:Nat):Int),.slice oa on oc,.slice ra rn rc])/\(bg w' (.slice oa on oc) (.slice ra rn rc) (O.map Ma.ag) (R.map (List.map Ma.ag))/\ak 4 (Gr 4 (·∈([[0,1,3,2]]:List (List Nat)))) O R)/\Below w.heap.size w w':=by
 have K:=U (Below.refl w.heap.size w)
 go_enter Tryz.func50,Tryz.ntmps50
 go_upto_region 0 with (fail);refine d3 ?_;have cD:=cq.new w (.int .i64 0) (.slice none 0 0) (.slice none 0 0);refine d4 0 (bw rfl) ?_;go_frame;have hb:=(Below.refl w.heap.size w).alloc (Nat.le_refl _) (.cells #[.int .i64 0,.slice none 0 0,.slice none 0 0] 25);generalize w.alloc (.cells #[.int .i64 0,.slice none 0 0,.slice none 0 0] 25)=w1 at *;replace K:=U (Rg.acc K.p hb);clear hb;have C0:=U cD;clear cD;have HB:=U (show w.heap.size<w1.heap.size from C0.p.lt);go_upto_region 1 with (fail);refine d3 ?_;have bY:=fS w1 3 [0,1,3,2] (by decide);refine d4 4 (ft _ _ 4 _ rfl [0,1,3,2] Tryz.underlying27 nW ui rfl (by decide) (by decide) rfl) ?_;go_frame;have hb:=(Below.refl w1.heap.size w1).alloc (Nat.le_refl _) (.cells (([0,1,3,2]:List Int).map (Value.int .i64)).toArray 3);generalize w1.alloc (.cells (([0,1,3,2]:List Int).map (Value.int .i64)).toArray 3)=w2 at *
 replace C0:=U (C0.p.jj hb);replace K:=U (Rg.acc K.p hb);clear hb;have I0:=U bY;clear bY;have hro:=jX.mk (Js (mU I0.p 27) (show _=([[0,1,3,2]]:List (List Nat)).map Ma.ag from rfl));refine d4 5 (Rg.aC _ _ _ rfl (.slice (some ⟨w1.heap.size,0,none⟩) 4 4) rfl (cG w2 _ ⟨_,_,_,rfl⟩)) ?_;go_frame;have hb:=(Below.refl w2.heap.size w2).alloc (Nat.le_refl _) (.cells #[.slice (some ⟨w1.heap.size,0,none⟩) 4 4] 27);generalize w2.alloc (.cells #[.slice (some ⟨w1.heap.size,0,none⟩) 4 4] 27)=w3 at *;replace C0:=U (C0.p.jj hb);replace I0:=U (I0.p.jj hb);replace K:=U (Rg.acc K.p hb);clear hb;have RO:=U hro;clear hro;refine f7 6 (aw 42 _ _ _ rfl rfl rfl (B8 _ _)) ?_;refine (rX (N:=4) (by decide) (by decide) (gs:=[[0,1,3,2]]) (by decide) (fun s hs=>mV ((by decide +kernel:∀ s∈([[0,1,3,2]]:List (List Nat)),Ma.bB (Ma.ag s)=0/\s.length=4) s hs)) _ w3 RO.p.r).mono ?_
 rintro e1 w4 ⟨ma,mn,mc,na,nn,nc,O0,R0,rfl,gB,hb⟩;have OG:=U gB;clear gB;have OU:=U C0.p.lt;have EX:LD w4 w4:=⟨Below.refl _ _⟩;refine ⟨_,rfl,?_⟩;go_frame;replace C0:=U (C0.p.jj hb);replace I0:=U (I0.p.jj hb);replace RO:=U (RO.p.jj hb);replace K:=U (Rg.acc K.p hb);clear hb;have KY:=U EX;refine d5 3 ((.tuple #[.agg #[.int .i64 ((4:Nat):Int),.slice ma mn mc,.slice na nn nc],.int .i64 0])) ?_;go_frame;refine d4 7 (i6 (.agg #[.int .i64 ((4:Nat):Int),.slice ma mn mc,.slice na nn nc])) ?_;go_frame;refine d4 8 (i6 (.int .i64 0)) ?_;go_frame;refine d4 1 (bw rfl) ?_;go_frame;refine Rg.aD none rfl rfl (Rg.ai _ _ _ rfl _ rfl _ rfl (aW _ _ _ _ _ _ _ (cq.new w4 (.int .i64 0) (.slice none 0 0) (.slice none 0 0)))) ?_;go_frame;have jH:=(cq.new w4 (.int .i64 0) (.slice none 0 0) (.slice none 0 0)).set (.int .i64 ((4:Nat):Int)) (.slice ma mn mc) (.slice na nn nc)
 have hb:=((((Below.refl w4.heap.size w4).alloc (Nat.le_refl _) (.cells #[.int .i64 0,.slice none 0 0,.slice none 0 0] 25)).setCell (p:=⟨w4.heap.size,0,none⟩) (Nat.le_refl _) (.int .i64 ((4:Nat):Int))).setCell (p:=⟨w4.heap.size,1,none⟩) (Nat.le_refl _) (.slice ma mn mc)).setCell (p:=⟨w4.heap.size,2,none⟩) (Nat.le_refl _) (.slice na nn nc);generalize (((w4.alloc (.cells #[.int .i64 0,.slice none 0 0,.slice none 0 0] 25)).setCell ⟨w4.heap.size,0,none⟩ (.int .i64 ((4:Nat):Int))).setCell ⟨w4.heap.size,1,none⟩ (.slice ma mn mc)).setCell ⟨w4.heap.size,2,none⟩ (.slice na nn nc)=w5 at *;replace C0:=U (C0.p.jj hb);replace I0:=U (I0.p.jj hb);replace RO:=U (RO.p.jj hb);replace KY:=U (KY.p.jj hb);replace K:=U (Rg.acc K.p hb);clear hb;have T1:=U jH;clear jH;refine d6 2 (.int .i64 0) ?_;go_frame;go_upto_region 2 with (fail);refine d3 ?_
 refine d4 9 (g8 ((.agg #[.int .i64 ((4:Nat):Int),.slice ma mn mc,.slice na nn nc])) ⟨w4.heap.size,0,none⟩ (aM T1.p.c0 T1.p.c1 T1.p.c2)) ?_;go_frame;refine Rg.aD none rfl rfl (Rg.ai _ _ _ rfl _ rfl _ rfl (aW _ _ _ _ _ _ _ C0.p)) ?_;go_frame;have y4:=C0.p.set (.int .i64 ((4:Nat):Int)) (.slice ma mn mc) (.slice na nn nc);have hk:=fQ w5 w.heap.size (.int .i64 ((4:Nat):Int)) (.slice ma mn mc) (.slice na nn nc);generalize ((w5.setCell ⟨w.heap.size,0,none⟩ (.int .i64 ((4:Nat):Int))).setCell ⟨w.heap.size,1,none⟩ (.slice ma mn mc)).setCell ⟨w.heap.size,2,none⟩ (.slice na nn nc)=w6 at *;clear EX;obtain ⟨g1,g2,g3⟩:=OG.p;have mK:=Rg.Kp.jj K.p hk (fun z hz=>by omega);have q1:=(g1.kp (M:=fun _=>False) (Rg.Kp.az KY.p.h) (fun _ _=>id)).kp hk (fun z hz e=>by have:=HB.p; have:=OU.p; omega)
 have q2:=(g2.kp (M:=fun _=>False) (Rg.Kp.az KY.p.h) (fun _ _=>id)).kp hk (fun z hz e=>by have:=HB.p; have:=OU.p; omega);go_wp2;exact bodyPost_ret (kz (p:=0) rfl _ rfl y4) rfl ⟨_,_,_,_,_,_,O0,R0,rfl,⟨⟨aH.rows q1,bf.rows q2⟩,g3⟩,mK⟩

theorem x7 {OV LL:List (List Nat)} {Pb:List Nat->Bool} (hL:eU N OV LL) (hG:bT N (fun z=>Gr N (·∈OV) z/\Pb z=true)) (h1:∀ s∈gs,s∈LL/\Pb s=true) (h2:∀ x,x∈LL->Pb x=true->Gr N (·∈gs) x):(∀ s∈gs,Gd N s)/\eU N gs (LL.filter Pb):=by
 refine ⟨fun s hs=>hG.gd s ⟨(hL.2 s).1 (h1 s hs).1,(h1 s hs).2⟩,?_,fun y=>?_⟩
 ·have:=(iI _).1 hL.1
  rw [List.pairwise_map] at this;rw [iI,List.pairwise_map];exact this.filter _
 ·rw [List.mem_filter]
  constructor
  ·rintro ⟨ha,hb⟩
   exact h2 y ha hb
  ·intro hy
   have:=Gr.sub hG (fun s hs=>⟨(hL.2 s).1 (h1 s hs).1,(h1 s hs).2⟩) hy;exact ⟨(hL.2 y).2 this.1,this.2⟩
theorem E9 {OV LL:List (List Nat)} {Pb:List Nat->Bool} (hL:eU N OV LL) (hG:bT N (fun z=>Gr N (·∈OV) z/\Pb z=true)) (h1:∀ s∈gs,s∈LL/\Pb s=true) (h2:∀ x,x∈LL->Pb x=true->Gr N (·∈gs) x) (hc:ak N (Gr N (·∈gs)) O R):dL (O.map Ma.ag)=(LL.filter Pb).length:=by
 obtain ⟨a,b⟩:=x7 hL hG h1 h2;exact xR a hc b
theorem x8 {K:List Nat->Prop} (h:bT N H) (h1:K (Ma.bh N)) (h2:∀ x y,Gd N x->Gd N y->K x->K y->K (Ma.aj x y)) (h3:∀ x,Gd N x->K x->K (Ma.aS x)):bT N (fun z=>H z/\K z) :=
 ⟨fun x hx=>h.gd x hx.1,⟨h.one,h1⟩,fun x y hx hy=>⟨h.mul x y hx.1 hy.1,h2 x y (h.gd x hx.1) (h.gd y hy.1) hx.2 hy.2⟩,fun x hx=>⟨h.inv x hx.1,h3 x (h.gd x hx.1) hx.2⟩⟩
theorem Jt (h:bT N H) {x:List Nat} (gx:Gd N x):bT N (fun z=>H z/\decide (eG x z=x)=true):=by
 have key:∀ g,Gd N g->(decide (eG x g=x)=true↔∀ i,i<N->ap x (ap g i)=ap g (ap x i)):=fun g gg=>by
  rw [VC gx gx gg];unfold Vz;exact decide_eq_true_iff
 refine x8 h ((key _ (h.gd _ h.one)).2 fun i hi=>?_) (fun a b ga gb ha hb=>(key _ (Cm.aV ga gb)).2 fun i hi=>?_) fun a ga ha=>(key _ (Cm.aN ga)).2 fun i hi=>?_
 ·rw [Cm.cF hi,Cm.cF (Cm.cy gx hi)]
 ·rw [Cm.br ga hi,Cm.br ga (Cm.cy gx hi),(key b gb).1 hb _ (Cm.cy ga hi),(key a ga).1 ha i hi]
 ·have hj:=Cm.cy (Cm.aN ga) hi
  have e:=(key a ga).1 ha _ hj;rw [Cm.fC ga hi] at e;rw [e,Cm.ee ga (Cm.cy gx hj)]
theorem Rt (h:bT N H) {s:List Nat} (hs:∀ y∈s,y<N):bT N (fun z=>H z/\decide (s.map (ap z)=s)=true):=by
 have key:∀ g,(decide (s.map (ap g)=s)=true↔∀ y∈s,ap g y=y):=fun g=>by
  rw [decide_eq_true_iff]
  constructor
  ·intro h y hy
   obtain ⟨i,hi,rfl⟩:=List.getElem_of_mem hy;have:=congrArg (fun l=>l[i]?) h;simp only [List.getElem?_map,List.getElem?_eq_getElem hi,Option.map_some,Option.some.injEq] at this;exact this
  ·intro h
   exact (List.map_congr_left h).trans (List.map_id' s)
 refine x8 h ((key _).2 fun y hy=>Cm.cF (hs y hy)) (fun a b ga gb ha hb=>(key _).2 fun y hy=>?_) fun a ga ha=>(key _).2 fun y hy=>?_
 ·rw [Cm.br ga (hs y hy),(key a).1 ha y hy,(key b).1 hb y hy]
 ·have:=Cm.ee ga (hs y hy)
  rw [(key a).1 ha y hy] at this;exact this
theorem Ju (h:bT N H) {s:List Nat} (hs:nj (Ma.ag s)) (jt:∀ y∈s,y<N):bT N (fun z=>H z/\decide (Ob.eK (Ma.ag (s.map (ap z)))=Ma.ag s)=true):=by
 have nI:s.Nodup:=by
  rw [List.nodup_iff_pairwise_ne]
  exact (Ca (sf hs)).imp fun h=>by omega
 have key:∀ g,Gd N g->(decide (Ob.eK (Ma.ag (s.map (ap g)))=Ma.ag s)=true↔∀ y∈s,ap g y∈s):=fun g gg=>by
  rw [VD hs hs jt gg];unfold VA;rw [decide_eq_true_iff];exact ⟨fun h=>h.2,fun h=>⟨rfl,h⟩⟩
 refine x8 h ((key _ (h.gd _ h.one)).2 fun y hy=>by rw [Cm.cF (jt y hy)]; exact hy) (fun a b ga gb ha hb=>(key _ (Cm.aV ga gb)).2 fun y hy=>?_) fun a ga ha=>(key _ (Cm.aN ga)).2 fun y hy=>?_
 ·rw [Cm.br ga (jt y hy)]
  exact (key b gb).1 hb _ ((key a ga).1 ha y hy)
 ·refine Classical.byContradiction fun hc=>?_
  have hm:=(key a ga).1 ha
  have hnd:(s.map (ap a)).Nodup:=by
   rw [List.nodup_iff_pairwise_ne,List.pairwise_map];refine List.Pairwise.imp_of_mem ?_ (List.nodup_iff_pairwise_ne.1 nI);intro u v hu hv huv e;exact huv (Cm.jz ga (jt u hu) (jt v hv) e)
  have:=d_ (l:=y :: s.map (ap a)) (m:=s) (List.nodup_cons.2 ⟨fun hy2=>by
   obtain ⟨z,hz,e⟩:=List.mem_map.1 hy2
   apply hc
   rw [<- e,Cm.ee ga (jt z hz)]
   exact hz,hnd⟩) fun z hz=>by
    rcases List.mem_cons.1 hz with rfl | hz
    ·exact hy
    ·obtain ⟨u,hu,rfl⟩:=List.mem_map.1 hz
     exact hm u hu
  rw [List.length_cons,List.length_map] at this;omega

theorem qE {L W:List (List Nat)} (h1:W.map (evalW N gs)=L) (h2:(gs.all fun s=>L.contains s)=true) (h3:(L.all fun x=>Un N x && L.contains (Ma.aS x) && L.all fun y=>L.contains (Ma.aj x y))=true) (h4:L.contains (Ma.bh N)=true) (h5:K7 (L.map Ma.ag)):eU N gs L:=by
 rw [List.all_eq_true] at h2 h3
 have hh:∀ x∈L,Gd N x/\Ma.aS x∈L/\∀ y∈L,Ma.aj x y∈L:=fun x hx=>by
  have:=h3 x hx;rw [Bool.and_eq_true,Bool.and_eq_true,List.all_eq_true] at this;exact ⟨Qw this.1.1,by simpa using this.1.2,fun y hy=>by simpa using this.2 y hy⟩
 have hG:bT N (·∈L):=⟨fun x hx=>(hh x hx).1,by simpa using h4,fun x y hx hy=>(hh x hx).2.2 y hy,fun x hx=>(hh x hx).2.1⟩;refine ⟨h5,fun y=>⟨fun hy=>?_,fun hy=>Gr.sub hG (fun s hs=>by simpa using h2 s hs) hy⟩⟩;rw [<- h1] at hy;obtain ⟨w,_,rfl⟩:=List.mem_map.1 hy;exact Kv w
def lH:List (List Nat):=[[0,1,2,3],[0,1,3,2],[0,2,1,3],[0,2,3,1],[0,3,1,2],[0,3,2,1],[1,0,2,3],[1,0,3,2],[1,2,0,3],[1,2,3,0],[1,3,0,2],[1,3,2,0],[2,0,1,3],[2,0,3,1],[2,1,0,3],[2,1,3,0],[2,3,0,1],[2,3,1,0],[3,0,1,2],[3,0,2,1],[3,1,0,2],[3,1,2,0],[3,2,0,1],[3,2,1,0]]
theorem sm:eU 4 [[1,2,3,0],[1,0,2,3]] lH:=qE (W:=[[],[0,0,1,0,0],[0,0,0,1,0],[0,1],[0,1,0,1],[1,0,0,1,0],[1],[0,0,1,0,0,1],[0,0,0,1,0,1],[0],[0,1,0],[0,0,0,1,0,0],[0,1,0,0],[1,0,1],[0,1,0,0,1],[1,0],[0,0],[0,0,1],[0,0,0],[0,0,1,0],[0,0,0,1],[0,0,1,0,1],[1,0,0],[1,0,0,1]]) (by decide +kernel) (by decide +kernel) (by decide +kernel) (by decide +kernel) ((iI _).2 (by decide +kernel))
def OY:List (List Nat):=[[0,1,2,3],[0,1,3,2]]
theorem Cc:eU 4 [[0,1,3,2]] OY:=qE (W:=[[],[0]]) (by decide +kernel) (by decide +kernel) (by decide +kernel) (by decide +kernel) ((iI _).2 (by decide +kernel))
theorem Iy {L:List (List Int)} (h:K7 L):L.Pairwise (fun a b=>cQ b a=false):=((iI _).1 h).imp fun {a b} eX=>by
 cases e:cQ b a with
 | false=>rfl
 | true=>have:=rE eX e; rw [mP] at this; cases this
theorem VL {B:List (List Nat)} (hA:eU N gs A) (hB:eU N gs B):A=B:=by
 have h1:=(iI _).1 hA.1;have h2:=(iI _).1 hB.1;refine Ld (List.perm_iff_count.2 fun a=>?_) (Iy hA.1) (Iy hB.1);rw [(dN hA.1).count,(dN hB.1).count];have:=(hA.2 a).trans (hB.2 a).symm
 by_cases h:a∈A
 ·rw [if_pos h,if_pos (this.1 h)]
 ·rw [if_neg h,if_neg (fun h'=>h (this.2 h'))]
theorem Ay (hc:ak 4 (Gr 4 (·∈([[1,2,3,0],[1,0,2,3]]:List (List Nat)))) O R):du 4 O R=lH :=
 VL (dA (fun s hs=>mV ((by decide +kernel:∀ s∈([[1,2,3,0],[1,0,2,3]]:List (List Nat)),Ma.bB (Ma.ag s)=0/\s.length=4) s hs)) hc) sm
theorem VM:(lH.filter (uI [1,0,2,3] [1,0,2,3])).length=4:=by decide +kernel
theorem VN:(lH.filter (Aw [0,1] [0,1])).length=4:=by decide +kernel
theorem Ap.at {LL:List (List Nat)} {Pb:List Nat->Bool} {e:Ending} {k0:Nat} (h:Ap LL Pb e w) (h1:LL.findIdx Pb=k0) (h2:k0<LL.length):∃ x,e=.returned (.tuple #[x,.int .i64 0])/\Rg.NP w x (LL.getD k0 []):=by
 have ht:Pb (LL.getD k0 [])=true:=by
  subst h1;rw [List.getD_eq_getElem?_getD,List.getElem?_eq_getElem h2];exact List.findIdx_getElem
 have hf:∀ i,i<k0->Pb (LL.getD i [])=false:=fun i hi=>by
  have h3:i<LL.findIdx Pb:=by omega
  have h4:i<LL.length:=by omega
  rw [List.getD_eq_getElem?_getD,List.getElem?_eq_getElem h4]
  simpa using List.not_of_lt_findIdx h3
 rcases h with ⟨g1,_⟩ | ⟨k,x,g1,g2,g3,g4,g5⟩
 ·rw [g1 k0 h2] at ht; cases ht
 ·have e1:k=k0:=by
   rcases Nat.lt_trichotomy k k0 with h | h | h
   ·rw [hf k h] at g2; cases g2
   ·exact h
   ·rw [g3 k0 h] at ht; cases ht
  subst e1;exact ⟨x,g4,g5⟩
theorem VO:lH.findIdx (uI [1,0,2,3] [0,1,3,2])=16:=by decide +kernel

structure VP (Fk:Nat->Prop) (lv ov rv:Value) (gens:List (List Nat)) (OO:List (List Int)) (RR:List (List (List Int))) (W:World):Prop where
 l:Rg.aH Fk W lv (gens.map Ma.ag)
 o:Rg.aH Fk W ov OO
 r:bf Fk W rv RR
noncomputable def uJ (n:Int) (OO:List (List Int)) (RR:List (List (List Int))) (gens:List (List Nat)) (g:List Nat):Bool:=gens.all fun x=>pF n OO RR (Ma.ag (eG x g))
theorem VQ (h1:1<=N) (h2:N<=64) {lv:Value} {gens:List (List Nat)} {n:Int} (eJ:∀ x∈gens,Gd N x) (h:VP Fk lv ov rv gens OO RR W):kH N (.iface 99 (.agg #[lv,.int .i64 n,ov,rv])) (fun g=>gens.all fun x=>pF n OO RR (Ma.ag (eG x g))) Fk (VP Fk lv ov rv gens OO RR) W :=
 ⟨⟨⟨207,.agg #[lv,.int .i64 n,ov,rv],fun gv W=>by kernel_rfl,fun W gv g hA hg gg=>EM h1 h2 lv ov rv gv gens n OO RR g W (aH.rows hA.l) eJ ⟨aH.rows hA.o,bf.rows hA.r⟩ hg gg⟩,fun W W' hA hs=>⟨lh hA.l hs,lh hA.o hs,rZ hA.r hs⟩,fun C W W' hA hk hC=>⟨hA.l.kp hk hC,hA.o.kp hk hC,hA.r.kp hk hC⟩⟩,h⟩
theorem Ru (h1:1<=N) (h2:N<=64) {gens:List (List Nat)} (hg:∀ s∈gs,Gd N s) (hc:ak N (Gr N (·∈gs)) O R) (eJ:∀ x∈gens,Gd N x) {g:List Nat} (gg:Gd N g):uJ ((N:Nat):Int) (O.map Ma.ag) (R.map (List.map Ma.ag)) gens g=true↔∀ x∈gens,Gr N (·∈gs) (eG x g):=by
 unfold uJ;rw [List.all_eq_true];have hj:∀ x∈gens,Gd N (eG x g):=fun x hx=>Cm.aV (Cm.aV (Cm.aN gg) (eJ x hx)) gg;exact ⟨fun h x hx=>(ph h1 h2 hg hc (hj x hx)).1 (h x hx),fun h x hx=>(ph h1 h2 hg hc (hj x hx)).2 (h x hx)⟩
end
section
open Go.RowKit
open Go.Proofs.Ob
open Go.Proofs.Cm (Gr Gd ak bT St Fx ap lu lexLt)
attribute [local irreducible] Go.Calls Go.wpList
def zA (R:List (List (List Nat))):List (List Nat):=R.flatMap (List.drop 1)
theorem Jv (hH:bT n H) (h:ak n H O R):∀ s∈zA R,Gd n s:=fun s hs=>by
 obtain ⟨r,hr,hs⟩:=List.mem_flatMap.1 hs;exact hH.gd s (rh h (List.mem_flatten.2 ⟨r,hr,List.mem_of_mem_drop hs⟩))
theorem OZ (R:List (List (List Nat))):(R.map (List.map Ma.ag)).flatMap (List.drop 1)=(zA R).map Ma.ag:=by
 unfold zA;rw [List.flatMap_map,List.map_flatMap]
 congr 1
 funext r
 rw [List.map_drop]
end
section
open Go.RowKit
open Go.Proofs.Ob
open Go.Proofs.Cm (Gd Gr ak ap lexLt bT St)
attribute [local irreducible] Go.Calls Go.wpList
theorem x9:∀ {b a:List (List Int)},(∀ l∈b,0<l.length)->dL a<=dL (a++b)
 | [],a,_=>by simp
 | l :: b,a,h=>by
  have h1:=x9 (b:=b) (a:=a++[l]) fun x hx=>h x (List.mem_cons_of_mem _ hx);have h2:=h l (List.mem_cons_self ..);rw [oA,List.append_assoc,List.singleton_append] at h1;exact Nat.le_trans (Nat.le_mul_of_pos_right _ h2) h1
theorem oY {a:List (List Int)} (h:∀ l∈a,0<l.length) (i:Nat):dL (a.take i)<=dL a:=by
 have:=x9 (b:=a.drop i) (a:=a.take i) fun l hl=>h l (List.mem_of_mem_drop hl)
 rwa [List.take_append_drop] at this
theorem qF (hH:bT N H) (h:ak N H O R):∀ l∈O.map Ma.ag,0<l.length:=fun l hl=>by
 obtain ⟨o,ho,rfl⟩:=List.mem_map.1 hl;obtain ⟨i,hi,rfl⟩:=List.getElem_of_mem ho
 have nt:i<N:=by rw [h.gK] at hi; exact hi
 have h1:1<=(O.getD i []).length:=List.length_pos_of_mem ((h.orb i i nt).2 ⟨Ma.bh N,⟨hH.one,Cm.Fx.one (by omega)⟩,Cm.cF nt⟩);rw [Cm.getD_in hi] at h1;have Wx:0<O[i].length:=h1
 simpa [Ma.ag] using Wx
theorem Cd {n:Int} {CS:List fj} {SS TS:List (List Int)} {c0:fj} (h1:jY CS=0) (h2:Ma.dn PS=0) (h3:∀ c∈CS,c.1=n) (h4:∀ x∈PS,(x.length:Int)=n) (h5:jw n SS=0) (h6:jZ n TS=0) (h7:rT c0=0):f_ n CS PS SS TS c0=0:=by
 unfold f_;rw [if_neg (by simp [h1]),if_neg (by simp [h2]),if_neg,if_neg (by simp [h5]),if_neg (by simp [h6]),h7]
 rintro (h | h)
 ·obtain ⟨c,hc,h⟩:=List.any_eq_true.1 h
  exact of_decide_eq_true h (h3 c hc)
 ·obtain ⟨c,hc,h⟩:=List.any_eq_true.1 h
  exact of_decide_eq_true h (h4 c hc)
theorem E_ {n:Int} {s:List Int} (h:s.any (gS n)=false) (h2:nj s):jw n [s]=0:=by
 have:j5 n s=0:=by
  unfold j5;rw [if_neg (by simp [h]),if_pos h2]
 rw [jw,if_pos this,jw]
theorem Jw (h:(du N O R).length<=5040):rT (((N:Nat):Int),O.map Ma.ag,R.map (List.map Ma.ag))=0:=by
 rw [OP];unfold du at h;rw [List.length_map,List.length_range] at h;exact if_pos h
theorem sq:∀ s∈([[1,2,3,0],[1,0,2,3]]:List (List Nat)),Gd 4 s:=fun s hs=>mV ((by decide +kernel:∀ s∈([[1,2,3,0],[1,0,2,3]]:List (List Nat)),Ma.bB (Ma.ag s)=0/\s.length=4) s hs)
theorem vK:∀ s∈([[0,1,3,2]]:List (List Nat)),Gd 4 s:=fun s hs=>mV ((by decide +kernel:∀ s∈([[0,1,3,2]]:List (List Nat)),Ma.bB (Ma.ag s)=0/\s.length=4) s hs)
def O3:List (List Nat):=[[0,1,2,3],[0,1,3,2],[1,0,2,3],[1,0,3,2]]
theorem Rv:eU 4 [[0,1,3,2],[1,0,2,3]] O3:=qE (W:=[[],[0],[1],[0,1]]) (by decide +kernel) (by decide +kernel) (by decide +kernel) (by decide +kernel) ((iI _).2 (by decide +kernel))
theorem Rw:∀ s∈([[0,1,3,2],[1,0,2,3]]:List (List Nat)),Gd 4 s:=fun s hs=>mV ((by decide +kernel:∀ s∈([[0,1,3,2],[1,0,2,3]]:List (List Nat)),Ma.bB (Ma.ag s)=0/\s.length=4) s hs)
section
variable {O:List (List Nat)} {R:List (List (List Nat))} (hc:ak 4 (Gr 4 (·∈([[0,1,3,2]]:List (List Nat)))) O R)
include hc
theorem Rx:zA R=[[0,1,3,2]]:=by
 have h:=B7 vK Cc;rw [(hc.uniq h).2]
 decide +kernel
theorem Ry {g:List Nat} (gg:Gd 4 g):uJ ((4:Nat):Int) (O.map Ma.ag) (R.map (List.map Ma.ag)) (zA R) g=OY.contains (eG [0,1,3,2] g):=by
 rw [Bool.eq_iff_iff,Ru (by decide) (by decide) vK hc (Jv (Gr.dC vK) hc) gg,Rx hc];exact ⟨fun h=>List.contains_iff_mem.2 ((Cc.2 _).2 (h _ (List.mem_singleton.2 rfl))),fun h x hx=>by rw [List.mem_singleton.1 hx]; exact (Cc.2 _).1 (List.contains_iff_mem.1 h)⟩
theorem O4:lH.filter (uJ ((4:Nat):Int) (O.map Ma.ag) (R.map (List.map Ma.ag)) (zA R))=O3:=by
 rw [List.filter_congr (fun g hg=>Ry hc ((Gr.dC sq).gd g ((sm.2 g).1 hg)))]
 decide +kernel
theorem O5:bT 4 (fun z=>Gr 4 (·∈([[1,2,3,0],[1,0,2,3]]:List (List Nat))) z/\uJ ((4:Nat):Int) (O.map Ma.ag) (R.map (List.map Ma.ag)) (zA R) z=true):=by
 have e:(fun z=>Gr 4 (·∈([[1,2,3,0],[1,0,2,3]]:List (List Nat))) z/\uJ ((4:Nat):Int) (O.map Ma.ag) (R.map (List.map Ma.ag)) (zA R) z=true)=Gr 4 (·∈([[0,1,3,2],[1,0,2,3]]:List (List Nat))):=by
  funext z
  refine propext ?_;rw [<- Rv.2,<- O4 hc,List.mem_filter,sm.2]
 rw [e];exact Gr.dC Rw
end
section
variable {O:List (List Nat)} {R:List (List (List Nat))} (hc:ak 4 (Gr 4 (·∈([[1,2,3,0],[1,0,2,3]]:List (List Nat)))) O R)
include hc
theorem O6:rT (((4:Nat):Int),O.map Ma.ag,R.map (List.map Ma.ag))=0:=Jw (by rw [Ay hc]; decide)
theorem Jy {O':List (List Nat)} {R':List (List (List Nat))} (h:zt (((4:Nat):Int),O.map Ma.ag,R.map (List.map Ma.ag)) N O' R'):N=4/\du N O' R'=lH:=by
 obtain ⟨e1,_,_,e2,e3,_⟩:=h
 have O7:N=4:=by simp only at e1; omega
 subst O7;have Ku:=cH e2;subst Ku
 have O8:R=R':=by
  have:=e3;simp only at this
  exact List.map_inj_right (fun a b eX=>cH eX) |>.1 this
 subst O8;exact ⟨rfl,Ay hc⟩
theorem fe.Fa {Pb:List Nat->Bool} {e:Ending} (h:fe ck (((4:Nat):Int),O.map Ma.ag,R.map (List.map Ma.ag)) Pb w e w') (h0:ck=0) (hG:bT 4 (fun z=>Gr 4 (·∈([[1,2,3,0],[1,0,2,3]]:List (List Nat))) z/\Pb z=true)) {m:Nat} (hm:(lH.filter Pb).length=m) (CD:m<=1000) :
  ∃ oa on oc ra rn rc OO RR,e=.returned (.tuple #[.agg #[.int .i64 ((4:Nat):Int),.slice oa on oc,.slice ra rn rc],.int .i64 0])/\(bg w' (.slice oa on oc) (.slice ra rn rc) OO RR/\dL OO=m/\(∀ i,dL (OO.take i)<=1000000)/\OO.length<=100)/\Below w.heap.size w w':=by
 obtain ⟨hb,⟨h1,_⟩ | ⟨_,N,O',R',hN,gs,oa,on,oc,ra,rn,rc,O2,R2,rfl,g1,g2,g3,g4,g5⟩⟩:=h
 ·exact absurd h0 h1
 ·obtain ⟨rfl,hu⟩:=Jy hc hN
  rw [hu] at g4 g5;have hl:=E9 sm hG g4 g5 g3;have eJ:=(x7 sm hG g4 g5).1;refine ⟨oa,on,oc,ra,rn,rc,_,_,rfl,⟨⟨aH.rows g1,bf.rows g2⟩,hl.trans hm,fun i=>?_,?_⟩,hb⟩
  ·have:=oY (qF (Gr.dC eJ) g3) i
   rw [hl,hm] at this;omega
  ·rw [List.length_map,g3.gK]; decide
end

theorem zt.uniq {c:fj} {N':Nat} {O':List (List Nat)} {R':List (List (List Nat))} (h:zt c N O R) (h':zt c N' O' R'):N=N'/\O=O'/\R=R':=by
 have en:N=N':=by have h5:=h.1; have h6:=h'.1; omega
 subst en;have eo:O=O':=cH (h.2.2.2.1.symm.trans h'.2.2.2.1);subst eo;refine ⟨rfl,rfl,?_⟩;have:=congrArg (List.map (List.map l4)) (h.2.2.2.2.1.symm.trans h'.2.2.2.2.1)
 rwa [fY,fY] at this

theorem O9 (args:Array Value) (w:World):(callFunc 71 args).run Tryz.prog w=.ok (.enter 71 args) w:=by kernel_rfl
theorem Fb (X:World) (n:Int) (a:Option Addr) (m c:Nat) (a':Option Addr) (m' c':Nat) (q:Int) (d:Option Addr) (e f:Nat) (d':Option Addr) (e' f':Nat):(Instr.buildSlice 71 2 #[(0,.agg #[.int .i64 n,.slice a m c,.slice a' m' c']),(1,.agg #[.int .i64 q,.slice d e f,.slice d' e' f'])]).run Tryz.prog X=.ok (.slice (some ⟨X.heap.size,0,none⟩) 2 2) (X.alloc (.cells #[.int .i64 n,.slice a m c,.slice a' m' c',.int .i64 q,.slice d e f,.slice d' e' f'] 25)):=by
 obtain ⟨i0,hi,cN,bs,dI⟩:=info_parts fH;refine run_buildSlice X 71 25 2 _ _ i0 _ Tryz.underlying71 hi cN (by rw [bs]; decide) (by rw [bs]; decide) ?_;generalize (fun x=>((Value.agg #[.int .i64 0,.slice none 0 0,.slice none 0 0]).cells)[x % (Value.agg #[.int .i64 0,.slice none 0 0,.slice none 0 0]).cells.size]!)=f;rw [bs];have h1:Array.range (2*3)=#[0,1,2,3,4,5]:=rfl;simp [Instr.fill,Value.cells,h1]
theorem nN.two {n:Int} {oa:Option Addr} {on oc:Nat} {ra:Option Addr} {rn rc:Nat} (h:bg w (.slice oa on oc) (.slice ra rn rc) OO RR) {m:Int} {pa:Option Addr} {pn pc:Nat} {qa:Option Addr} {qn qc:Nat} {O2:List (List Int)} {R2:List (List (List Int))} (h':bg w (.slice pa pn pc) (.slice qa qn qc) O2 R2):nN w.heap.size [(n,OO,RR),(m,O2,R2)] (w.alloc (.cells #[.int .i64 n,.slice oa on oc,.slice ra rn rc,.int .i64 m,.slice pa pn pc,.slice qa qn qc] 25)) :=
 ⟨by simp,fun i hi=>by
  have hb:=(Below.refl w.heap.size w).alloc (Nat.le_refl _) (.cells #[.int .i64 n,.slice oa on oc,.slice ra rn rc,.int .i64 m,.slice pa pn pc,.slice qa qn qc] 25)
  match i,hi with
  | 0,_=>exact ⟨oa,on,oc,ra,rn,rc,by rw [Rg.aI]; rfl,by rw [Rg.aI]; rfl,by rw [Rg.aI]; rfl,h.jj hb⟩
  | 1,_=>exact ⟨pa,pn,pc,qa,qn,qc,by rw [Rg.aI]; rfl,by rw [Rg.aI]; rfl,by rw [Rg.aI]; rfl,h'.jj hb⟩⟩
theorem Jz {a:Option Addr} {c:Nat} (m:Int) {d:Option Addr} {e f:Nat} {d':Option Addr} {e' f':Nat} (w:World):(Instr.build 99 #[(0,.slice a n c),(1,.agg #[.int .i64 m,.slice d e f,.slice d' e' f'])]).run Tryz.prog w=.ok (.agg #[.slice a n c,.int .i64 m,.slice d e f,.slice d' e' f']) w:=by kernel_rfl
noncomputable def O_ (m:Int) (OO:List (List Int)) (RR:List (List (List Int))):List Nat->Bool:=uJ m OO RR ((l7 m OO RR).map l4)
theorem JA (h:bH ((N:Nat):Int) (O.map Ma.ag) (R.map (List.map Ma.ag))=0):l7 ((N:Nat):Int) (O.map Ma.ag) (R.map (List.map Ma.ag))=(zA R).map Ma.ag:=by unfold l7; rw [if_pos h,OZ]
theorem Pa {n m:Int} {O2:List (List Int)} {R2:List (List (List Int))} {c0:fj} (h:f_ n [(n,OO,RR),(m,O2,R2)] [] [] [] c0=0) {lv:Value} (hl:Rg.aH Fk W lv (l7 m O2 R2)) (ho:Rg.aH Fk W ov O2) (hr:bf Fk W rv R2) :
  kH n.toNat (.iface 99 (.agg #[lv,.int .i64 m,ov,rv])) (O_ m O2 R2) Fk (VP Fk lv ov rv ((l7 m O2 R2).map l4) O2 R2) W:=by
 obtain ⟨h1,_,h3,_⟩:=gl h;have hc:=l_ h1 (m,O2,R2) (by simp);have hm:m=n:=Classical.byContradiction fun e=>h3 (.inl (List.any_eq_true.2 ⟨(m,O2,R2),by simp,decide_eq_true e⟩));subst hm;have tA:=hc;obtain ⟨N,O,R,en,g1,g2,e2,e3,cK,eJ⟩:=fL tA;simp only at en e2 e3 hc;subst en e2 e3;have e:=JA hc;have hg:=Jv (Gr.dC eJ) cK;unfold O_;rw [e,kF];rw [e] at hl;rw [Int.toNat_natCast];exact VQ g1 g2 hg ⟨hl,ho,hr⟩
theorem vD {n m:Int} {O2:List (List Int)} {R2:List (List (List Int))} {pv qv:Value} (h:bg w ov rv OO RR) (h':bg w pv qv O2 R2) (hn:n<=12) :
  Calls Tryz.prog 43 #[.agg #[.int .i64 n,ov,rv],.agg #[.int .i64 m,pv,qv]] w (fe (f_ n [(n,OO,RR),(m,O2,R2)] [] [] [] (n,OO,RR)) (n,OO,RR) (O_ m O2 R2) w):=by
 obtain ⟨oa,oc,rfl,-⟩:=h.1.shape;obtain ⟨ra,rc,rfl⟩:=h.2.shape;obtain ⟨pa,pc,rfl,-⟩:=h'.1.shape;obtain ⟨qa,qc,rfl⟩:=h'.2.shape;obtain ⟨on,jT⟩:∃ n,Hid (OO.length=n):=⟨_,U rfl⟩;obtain ⟨rn,ks⟩:∃ n,Hid (RR.length=n):=⟨_,U rfl⟩;obtain ⟨pn,Qh⟩:∃ n,Hid (O2.length=n):=⟨_,U rfl⟩;obtain ⟨qn,yL⟩:∃ n,Hid (R2.length=n):=⟨_,U rfl⟩;rw [jT.p,ks.p] at h;rw [Qh.p,yL.p] at h';rw [jT.p,ks.p,Qh.p,yL.p];have CE:=U h;have CF:=U h';clear h h';have K:=U (Below.refl w.heap.size w)
 go_enter Tryz.func43,Tryz.ntmps43
 go_upto_region 0 with (fail);refine d3 ?_;have aQ:=gR w (.int .i64 n) (.slice oa on oc) (.slice ra rn rc);refine d4 2 (Rg.bq _ _ rfl rfl) ?_;go_frame;have hb:=(Below.refl w.heap.size w).alloc (Nat.le_refl _) (.cells #[.int .i64 n,.slice oa on oc,.slice ra rn rc] 25);generalize w.alloc (.cells #[.int .i64 n,.slice oa on oc,.slice ra rn rc] 25)=w1 at *;replace CE:=U (CE.p.jj hb);replace CF:=U (CF.p.jj hb);replace K:=U (Rg.acc K.p hb);clear hb;have A0:=U aQ.1;have A1:=U aQ.2.1;have A2:=U aQ.2.2;clear aQ;have aQ:=gR w1 (.int .i64 m) (.slice pa pn pc) (.slice qa qn qc);refine d4 3 (Rg.bq _ _ rfl rfl) ?_;go_frame;have hb:=(Below.refl w1.heap.size w1).alloc (Nat.le_refl _) (.cells #[.int .i64 m,.slice pa pn pc,.slice qa qn qc] 25);generalize w1.alloc (.cells #[.int .i64 m,.slice pa pn pc,.slice qa qn qc] 25)=w2 at *;replace CE:=U (CE.p.jj hb)
 replace CF:=U (CF.p.jj hb);replace A0:=U (A0.p.jj hb);replace A1:=U (A1.p.jj hb);replace A2:=U (A2.p.jj hb);replace K:=U (Rg.acc K.p hb);clear hb;have B0:=U aQ.1;have B1:=U aQ.2.1;have B2:=U aQ.2.2;clear aQ;have lj:=U K.p.size;have cD:=cq.new w2 (.int .i64 0) (.slice none 0 0) (.slice none 0 0);refine d4 4 (bw rfl) ?_;go_frame;have hb:=(Below.refl w2.heap.size w2).alloc (Nat.le_refl _) (.cells #[.int .i64 0,.slice none 0 0,.slice none 0 0] 25);generalize w2.alloc (.cells #[.int .i64 0,.slice none 0 0,.slice none 0 0] 25)=w3 at *;replace CE:=U (CE.p.jj hb);replace CF:=U (CF.p.jj hb);replace A0:=U (A0.p.jj hb);replace A1:=U (A1.p.jj hb);replace A2:=U (A2.p.jj hb);replace B0:=U (B0.p.jj hb);replace B1:=U (B1.p.jj hb);replace B2:=U (B2.p.jj hb);replace K:=U (Rg.acc K.p hb)
 clear hb;have C4:=U cD;clear cD;refine d6 5 (.int .i64 ((0:Nat):Int)) ?_;go_frame;go_upto_region 1 with (fail);have aq:Below w3.heap.size w3 w3.drew:=(Below.refl _ _).drew;replace CE:=U (CE.p.jj aq);replace CF:=U (CF.p.jj aq);replace A0:=U (A0.p.jj aq);replace A1:=U (A1.p.jj aq);replace A2:=U (A2.p.jj aq);replace B0:=U (B0.p.jj aq);replace B1:=U (B1.p.jj aq);replace B2:=U (B2.p.jj aq);replace C4:=U (C4.p.jj aq);replace K:=U (Rg.acc K.p aq);clear aq;refine Rg.Any.begin (S:=Rg.aG 12 (fun W=>Below w3.drew.heap.size w3.drew W) (fun W=>Below w.heap.size w W)) mix ?_;generalize w3.drew=w4 at *;have hS:∀ (l:Array Bool) W,Below w4.heap.size w4 W->Below w.heap.size w W->Rg.aG 12 (fun W=>Below w4.heap.size w4 W) (fun W=>Below w.heap.size w W) l W:=fun l W h h2=>⟨.inr h,h2⟩;have bW:∀ (l:Array Bool) W,l.getD 12 false=true->Below w.heap.size w W->Rg.aG 12 (fun W=>Below w4.heap.size w4 W) (fun W=>Below w.heap.size w W) l W:=fun l W h h2=>⟨.inl h,h2⟩
 have hI:=K.p;refine i7 0 12 ((.agg #[.int .i64 n,.slice oa on oc,.slice ra rn rc])) 6 rfl rfl (i9 ⟨w.heap.size,0,none⟩ (fun W hW=>aM ((Below.cell (p:=⟨w.heap.size,0,none⟩) hW A0.p.lt).trans A0.p.cell) ((Below.cell (p:=⟨w.heap.size,1,none⟩) hW A1.p.lt).trans A1.p.cell) ((Below.cell (p:=⟨w.heap.size,2,none⟩) hW A2.p.lt).trans A2.p.cell))) (hS _ _ (Below.refl _ _) hI) ?_;go_frame;refine i7 1 12 ((.agg #[.int .i64 m,.slice pa pn pc,.slice qa qn qc])) 7 rfl rfl (i9 ⟨w1.heap.size,0,none⟩ (fun W hW=>aM ((Below.cell (p:=⟨w1.heap.size,0,none⟩) hW B0.p.lt).trans B0.p.cell) ((Below.cell (p:=⟨w1.heap.size,1,none⟩) hW B1.p.lt).trans B1.p.cell) ((Below.cell (p:=⟨w1.heap.size,2,none⟩) hW B2.p.lt).trans B2.p.cell))) (hS _ _ (Below.refl _ _) hI) ?_;go_frame;refine i7 4 12 ((.agg #[.int .i64 m,.slice pa pn pc,.slice qa qn qc])) 10 rfl rfl (i9 ⟨w1.heap.size,0,none⟩ (fun W hW=>aM ((Below.cell (p:=⟨w1.heap.size,0,none⟩) hW B0.p.lt).trans B0.p.cell) ((Below.cell (p:=⟨w1.heap.size,1,none⟩) hW B1.p.lt).trans B1.p.cell) ((Below.cell (p:=⟨w1.heap.size,2,none⟩) hW B2.p.lt).trans B2.p.cell))) (hS _ _ (Below.refl _ _) hI) ?_;go_frame
 refine i7 6 12 ((.agg #[.int .i64 m,.slice pa pn pc,.slice qa qn qc])) 12 rfl rfl (i9 ⟨w1.heap.size,0,none⟩ (fun W hW=>aM ((Below.cell (p:=⟨w1.heap.size,0,none⟩) hW B0.p.lt).trans B0.p.cell) ((Below.cell (p:=⟨w1.heap.size,1,none⟩) hW B1.p.lt).trans B1.p.cell) ((Below.cell (p:=⟨w1.heap.size,2,none⟩) hW B2.p.lt).trans B2.p.cell))) (hS _ _ (Below.refl _ _) hI) ?_;go_frame;refine Rg.Any.two (i:=2) (j:=5) (by kernel_rfl) ?_ ?_
 ·have ku:=nN.two (n:=n) (m:=m) CE.p CF.p
  have hb:=(Below.refl w4.heap.size w4).alloc (Nat.le_refl _) (.cells #[.int .i64 n,.slice oa on oc,.slice ra rn rc,.int .i64 m,.slice pa pn pc,.slice qa qn qc] 25);have aJ:=Rg.acc hI hb;have cL:=hb;clear hb hI;refine Rg.Any.run (some 8) rfl rfl rfl (po _ _ _ rfl rfl rfl (Fb w4 ..)) (hS _ _ cL aJ) ?_;go_frame;generalize w4.alloc (.cells #[.int .i64 n,.slice oa on oc,.slice ra rn rc,.int .i64 m,.slice pa pn pc,.slice qa qn qc] 25)=w5 at *;have CS:=U ku;refine d7 3 12 ((.agg #[.slice (some ⟨w4.heap.size,0,none⟩) 2 2,.slice none 0 0,.slice none 0 0,.slice none 0 0])) 9 rfl rfl (.inl ⟨rfl,fun w _=>Av _ rfl rfl⟩) (hS _ _ cL aJ) ?_;go_frame;refine Rg.Any.one (i:=5) (by kernel_rfl) (Rg.Any.ask (some 11) rfl rfl rfl _ _ (aF 71 _ _ rfl rfl (O9 _ _)) ?_);refine ((pU (n:=m) (CF.p.jj cL))).mono ?_;rintro e1 w6 ⟨sv,rfl,nG,hb⟩
  have rO:=jX.mk nG;obtain ⟨sa,sc,rfl,-⟩:=nG.shape;obtain ⟨sn,nI⟩:∃ n,Hid ((l7 m O2 R2).length=n):=⟨_,U rfl⟩;rw [nI.p] at rO ⊢;have a_:=Rg.acc cL hb;have bL:=Rg.acc aJ hb;have qG:=hb;clear hb cL aJ;refine ⟨_,rfl,(hS _ _ a_ bL),?_⟩;go_frame;have SG:=U rO;refine d7 7 12 ((.agg #[.slice sa sn sc,.int .i64 m,.slice pa pn pc,.slice qa qn qc])) 13 rfl rfl (.inl ⟨rfl,fun w _=>kl _ _ rfl rfl rfl (Jz _ _)⟩) (hS _ _ a_ bL) ?_;go_frame;refine d7 8 12 ((.iface 99 (.agg #[.slice sa sn sc,.int .i64 m,.slice pa pn pc,.slice qa qn qc]))) 14 rfl rfl (.inl ⟨rfl,fun w _=>ki _ _ rfl rfl (OK _ _)⟩) (hS _ _ a_ bL) ?_;go_frame;have B9:=U (C4.p.jj a_).lt;have B_:=U bL;refine Rg.Any.one (i:=9) (by kernel_rfl) (Rg.Any.ask (some 15) rfl rfl rfl _ _ (aw 52 _ _ _ rfl rfl rfl (xX _ _)) ?_)
  refine ((fe.calls (jK (CS:=[(n,OO,RR),(m,O2,R2)]) (cc:=2) (CS.p.jj qG) (by simp) (by simp) (cV _) (by simp) (cV _) (by simp) (by simp) (cV _) (by simp) (by simp) hn (Fk:=fun z=>z<w6.heap.size) (fun h0=>⟨Pa h0 (Rg.aH.pz SG.p.r) (Rg.aH.pz (CF.p.jj a_).1) (lg (CF.p.jj a_).2),fun z hz=>hz⟩)))).mono ?_;rintro e1 w7 ⟨jL,jM,jN,ju,iL,jO,h_,lG,rfl,nK,hb⟩;have xY:=U nK;clear nK;have dE:=Rg.acc qG hb;have aZ:=Rg.acc a_ hb;have dt:=Rg.acc bL hb;have Iz:=hb;clear hb qG a_ bL;refine ⟨_,rfl,(hS _ _ aZ dt),?_⟩;go_frame;refine d7 10 12 ((.agg #[.int .i64 jL,.slice jM jN ju,.slice iL jO h_])) 16 rfl rfl (.inl ⟨rfl,fun w _=>aX (v:=.agg #[.int .i64 jL,.slice jM jN ju,.slice iL jO h_]) _ _ rfl rfl rfl⟩) (hS _ _ aZ dt) ?_;go_frame
  refine d7 11 12 (.int .i64 lG) 17 rfl rfl (.inl ⟨rfl,fun w _=>aX (v:=.int .i64 lG) _ _ rfl rfl rfl⟩) (hS _ _ aZ dt) ?_;go_frame;have Pc:=U (C4.p.jj aZ);have mW:=((dt.setCell (p:=⟨w2.heap.size,0,none⟩) lj.p (.int .i64 jL)).setCell (p:=⟨w2.heap.size,1,none⟩) lj.p (.slice jM jN ju)).setCell (p:=⟨w2.heap.size,2,none⟩) lj.p (.slice iL jO h_);refine Rg.Any.one (i:=12) (by kernel_rfl) (Rg.Any.cA none rfl rfl rfl (Rg.ai _ _ _ rfl _ rfl _ rfl (aW _ _ _ _ _ _ _ Pc.p)) (bW _ _ rfl mW) ?_);go_frame;have y4:=Pc.p.set (.int .i64 jL) (.slice jM jN ju) (.slice iL jO h_);have hk:=fQ w7 w2.heap.size (.int .i64 jL) (.slice jM jN ju) (.slice iL jO h_);clear dE aZ dt Iz;clear CE;clear CF;clear A0;clear A1;clear A2;clear B0;clear B1;clear B2;clear C4;clear CS;clear SG
  refine d7 13 12 (.int .i64 lG) 5 rfl rfl (.inl ⟨rfl,fun w _=>Rg.cw (v:=.int .i64 lG) _ rfl rfl⟩) (bW _ _ rfl mW) ?_;go_frame;refine Rg.Any.done (by kernel_rfl) ?_ _;replace K:=U mW;clear bW;clear hS mW;go_wp2;exact bodyPost_ret (bz (p:=4) (u:=5) rfl _ rfl rfl y4) rfl (xY.p.kp B_.p hk lj.p B9.p)
 ·refine Rg.Any.ask (some 11) rfl rfl rfl _ _ (aF 71 _ _ rfl rfl (O9 _ _)) ?_
  refine ((pU (n:=m) CF.p)).mono ?_;rintro e1 w5 ⟨sv,rfl,nG,hb⟩;have rO:=jX.mk nG;obtain ⟨sa,sc,rfl,-⟩:=nG.shape;obtain ⟨sn,nI⟩:∃ n,Hid ((l7 m O2 R2).length=n):=⟨_,U rfl⟩;rw [nI.p] at rO ⊢;have aJ:=Rg.acc hI hb;have cL:=hb;clear hb hI;refine ⟨_,rfl,(hS _ _ cL aJ),?_⟩;go_frame;have SG:=U rO;refine d7 7 12 ((.agg #[.slice sa sn sc,.int .i64 m,.slice pa pn pc,.slice qa qn qc])) 13 rfl rfl (.inl ⟨rfl,fun w _=>kl _ _ rfl rfl rfl (Jz _ _)⟩) (hS _ _ cL aJ) ?_;go_frame;refine d7 8 12 ((.iface 99 (.agg #[.slice sa sn sc,.int .i64 m,.slice pa pn pc,.slice qa qn qc]))) 14 rfl rfl (.inl ⟨rfl,fun w _=>ki _ _ rfl rfl (OK _ _)⟩) (hS _ _ cL aJ) ?_;go_frame;have ku:=nN.two (n:=n) (m:=m) (CE.p.jj cL) (CF.p.jj cL);have hb:=(Below.refl w5.heap.size w5).alloc (Nat.le_refl _) (.cells #[.int .i64 n,.slice oa on oc,.slice ra rn rc,.int .i64 m,.slice pa pn pc,.slice qa qn qc] 25)
  have a_:=Rg.acc cL hb;have bL:=Rg.acc aJ hb;have qG:=hb;clear hb cL aJ;refine i8 2 8 rfl rfl (po _ _ _ rfl rfl rfl (Fb w5 ..)) (hS _ _ a_ bL) ?_;go_frame;generalize w5.alloc (.cells #[.int .i64 n,.slice oa on oc,.slice ra rn rc,.int .i64 m,.slice pa pn pc,.slice qa qn qc] 25)=w6 at *;have CS:=U ku;refine d7 3 12 ((.agg #[.slice (some ⟨w5.heap.size,0,none⟩) 2 2,.slice none 0 0,.slice none 0 0,.slice none 0 0])) 9 rfl rfl (.inl ⟨rfl,fun w _=>Av _ rfl rfl⟩) (hS _ _ a_ bL) ?_;go_frame;have B9:=U (C4.p.jj a_).lt;have B_:=U bL;refine Rg.Any.one (i:=9) (by kernel_rfl) (Rg.Any.ask (some 15) rfl rfl rfl _ _ (aw 52 _ _ _ rfl rfl rfl (xX _ _)) ?_);refine ((fe.calls (jK (CS:=[(n,OO,RR),(m,O2,R2)]) (cc:=2) CS.p (by simp) (by simp) (cV _) (by simp) (cV _) (by simp) (by simp) (cV _) (by simp) (by simp) hn (Fk:=fun z=>z<w6.heap.size) (fun h0=>⟨Pa h0 (Rg.aH.pz (SG.p.jj qG).r) (Rg.aH.pz (CF.p.jj a_).1) (lg (CF.p.jj a_).2),fun z hz=>hz⟩)))).mono ?_
  rintro e1 w7 ⟨jL,jM,jN,ju,iL,jO,h_,lG,rfl,nK,hb⟩;have xY:=U nK;clear nK;have dE:=Rg.acc qG hb;have aZ:=Rg.acc a_ hb;have dt:=Rg.acc bL hb;have Iz:=hb;clear hb qG a_ bL;refine ⟨_,rfl,(hS _ _ aZ dt),?_⟩;go_frame;refine d7 10 12 ((.agg #[.int .i64 jL,.slice jM jN ju,.slice iL jO h_])) 16 rfl rfl (.inl ⟨rfl,fun w _=>aX (v:=.agg #[.int .i64 jL,.slice jM jN ju,.slice iL jO h_]) _ _ rfl rfl rfl⟩) (hS _ _ aZ dt) ?_;go_frame;refine d7 11 12 (.int .i64 lG) 17 rfl rfl (.inl ⟨rfl,fun w _=>aX (v:=.int .i64 lG) _ _ rfl rfl rfl⟩) (hS _ _ aZ dt) ?_;go_frame;have Pc:=U (C4.p.jj aZ);have mW:=((dt.setCell (p:=⟨w2.heap.size,0,none⟩) lj.p (.int .i64 jL)).setCell (p:=⟨w2.heap.size,1,none⟩) lj.p (.slice jM jN ju)).setCell (p:=⟨w2.heap.size,2,none⟩) lj.p (.slice iL jO h_)
  refine Rg.Any.one (i:=12) (by kernel_rfl) (Rg.Any.cA none rfl rfl rfl (Rg.ai _ _ _ rfl _ rfl _ rfl (aW _ _ _ _ _ _ _ Pc.p)) (bW _ _ rfl mW) ?_);go_frame;have y4:=Pc.p.set (.int .i64 jL) (.slice jM jN ju) (.slice iL jO h_);have hk:=fQ w7 w2.heap.size (.int .i64 jL) (.slice jM jN ju) (.slice iL jO h_);clear dE aZ dt Iz;clear CE;clear CF;clear A0;clear A1;clear A2;clear B0;clear B1;clear B2;clear C4;clear SG;clear CS;refine d7 13 12 (.int .i64 lG) 5 rfl rfl (.inl ⟨rfl,fun w _=>Rg.cw (v:=.int .i64 lG) _ rfl rfl⟩) (bW _ _ rfl mW) ?_;go_frame;refine Rg.Any.done (by kernel_rfl) ?_ _;replace K:=U mW;clear bW;clear hS mW;go_wp2;exact bodyPost_ret (bz (p:=4) (u:=5) rfl _ rfl rfl y4) rfl (xY.p.kp B_.p hk lj.p B9.p)

def vE (m:Nat) (ov rv:Value) (W:World):Prop:=∃ OO RR,bg W ov rv OO RR/\dL OO=m/\(∀ i,dL (OO.take i)<=1000000)/\OO.length<=100
theorem vE.jj {m:Nat} {ov rv:Value} {W W':World} (h:vE m ov rv W) (hb:Below W.heap.size W W'):vE m ov rv W':=by
 obtain ⟨OO,RR,h1,h2⟩:=h;exact ⟨OO,RR,h1.jj hb,h2⟩
theorem ik {m:Nat} {n:Int} (h:vE m ov rv w) :
  Calls Tryz.prog 30 #[.agg #[.int .i64 n,ov,rv],.int .i64 0] w fun e w'=>e=.returned (.int .i64 ((m:Nat):Int))/\Below w.heap.size w w':=by
 obtain ⟨OO,RR,h1,h2,h3,h4⟩:=h;subst h2;exact E8 h1 h3 h4
section
variable {O:List (List Nat)} {R:List (List (List Nat))} (hc:ak 4 (Gr 4 (·∈([[1,2,3,0],[1,0,2,3]]:List (List Nat)))) O R)
include hc
theorem Pd {SS TS:List (List Int)} (h2:Ma.dn PS=0) (h4:∀ x∈PS,(x.length:Int)=((4:Nat):Int)) (h5:jw ((4:Nat):Int) SS=0) (h6:jZ ((4:Nat):Int) TS=0):f_ ((4:Nat):Int) [(((4:Nat):Int),O.map Ma.ag,R.map (List.map Ma.ag))] PS SS TS (((4:Nat):Int),O.map Ma.ag,R.map (List.map Ma.ag))=0 :=
 Cd (by rw [jY,if_pos (rV.xS (by decide) (by decide) sq hc)]; rfl) h2 (by simp) h4 h5 h6 (O6 hc)
theorem iX.Fa {Pb:List Nat->Bool} {e:Ending} (h:iX ck (((4:Nat):Int),O.map Ma.ag,R.map (List.map Ma.ag)) Pb w e w') (h0:ck=0) {k0:Nat} (hk:lH.findIdx Pb=k0) (cO:k0<24) :
  ∃ a m c,e=.returned (.tuple #[.slice a m c,.int .i64 0])/\Rg.Ints w' (.slice a m c) (Ma.ag (lH.getD k0 []))/\Below w.heap.size w w':=by
 obtain ⟨hb,⟨h1,_⟩ | ⟨_,N,O',R',hN,hf⟩⟩:=h
 ·exact absurd h0 h1
 ·obtain ⟨rfl,hu⟩:=Jy hc hN
  rw [hu] at hf;obtain ⟨x,rfl,hx⟩:=hf.at hk cO;obtain ⟨m,a,c,_,rfl,_⟩:=hx.len;exact ⟨a,m,c,rfl,hx,hb⟩
theorem IA (h:bg w ov rv (O.map Ma.ag) (R.map (List.map Ma.ag))) (hx:Rg.Ints w xv [1,0,2,3]) (hy:Rg.Ints w yv [0,1,3,2]) :
  Calls Tryz.prog 18 #[.agg #[.int .i64 ((4:Nat):Int),ov,rv],xv,yv] w fun e w'=>∃ a m c,e=.returned (.tuple #[.slice a m c,.int .i64 0])/\Rg.Ints w' (.slice a m c) [2,3,0,1]/\Below w.heap.size w w' :=
 (vA h (by decide) hx hy).mono fun _ _ hr=>hr.Fa hc (Pd hc (by decide) (by decide) rfl rfl) VO (by decide)
theorem IC (h:bg w ov rv (O.map Ma.ag) (R.map (List.map Ma.ag))) (hx:Rg.Ints w xv [1,0,2,3]) :
  Calls Tryz.prog 11 #[.agg #[.int .i64 ((4:Nat):Int),ov,rv],xv] w fun e w'=>∃ oa on oc ra rn rc,e=.returned (.tuple #[.agg #[.int .i64 ((4:Nat):Int),.slice oa on oc,.slice ra rn rc],.int .i64 0])/\vE 4 (.slice oa on oc) (.slice ra rn rc) w'/\Below w.heap.size w w' :=
 (mg h (by decide) hx).mono fun _ _ hr=>by
  obtain ⟨oa,on,oc,ra,rn,rc,OO,RR,h1,h2,h3⟩:=hr.Fa hc (Pd hc (by decide) (by decide) rfl rfl) (Jt (x:=[1,0,2,3]) (Gr.dC sq) (mV (by decide +kernel))) VM (by decide);exact ⟨oa,on,oc,ra,rn,rc,h1,⟨OO,RR,h2⟩,h3⟩
theorem ID (h:bg w ov rv (O.map Ma.ag) (R.map (List.map Ma.ag))) (hx:Rg.Ints w xv [0,1]) :
  Calls Tryz.prog 14 #[.agg #[.int .i64 ((4:Nat):Int),ov,rv],xv] w fun e w'=>∃ oa on oc ra rn rc,e=.returned (.tuple #[.agg #[.int .i64 ((4:Nat):Int),.slice oa on oc,.slice ra rn rc],.int .i64 0])/\vE 4 (.slice oa on oc) (.slice ra rn rc) w'/\Below w.heap.size w w' :=
 (se h (by decide) hx (by decide)).mono fun _ _ hr=>by
  have ha:nj (Ma.ag [0,1]):=fun j hj h1=>by
   have:j=1:=by simp [Ma.ag] at hj; omega
   subst this;show (0:Int)<1
   decide
  obtain ⟨oa,on,oc,ra,rn,rc,OO,RR,h1,h2,h3⟩:=hr.Fa hc (Pd hc (by decide) (by decide) (E_ (by decide) ha) rfl) (Ju (s:=[0,1]) (Gr.dC sq) ha (by decide)) VN (by decide);exact ⟨oa,on,oc,ra,rn,rc,h1,⟨OO,RR,h2⟩,h3⟩
theorem IE {O2:List (List Nat)} {R2:List (List (List Nat))} (eD:ak 4 (Gr 4 (·∈([[0,1,3,2]]:List (List Nat)))) O2 R2) {pv qv:Value} (h:bg w ov rv (O.map Ma.ag) (R.map (List.map Ma.ag))) (h':bg w pv qv (O2.map Ma.ag) (R2.map (List.map Ma.ag))) :
  Calls Tryz.prog 43 #[.agg #[.int .i64 ((4:Nat):Int),ov,rv],.agg #[.int .i64 ((4:Nat):Int),pv,qv]] w fun e w'=>∃ oa on oc ra rn rc,e=.returned (.tuple #[.agg #[.int .i64 ((4:Nat):Int),.slice oa on oc,.slice ra rn rc],.int .i64 0])/\vE 4 (.slice oa on oc) (.slice ra rn rc) w'/\Below w.heap.size w w' :=
 (vD h h' (by decide)).mono fun _ _ hr=>by
  have g2:=rV.xS (N:=4) (by decide) (by decide) vK eD
  have dU:f_ ((4:Nat):Int) [(((4:Nat):Int),O.map Ma.ag,R.map (List.map Ma.ag)),(((4:Nat):Int),O2.map Ma.ag,R2.map (List.map Ma.ag))] [] [] [] (((4:Nat):Int),O.map Ma.ag,R.map (List.map Ma.ag))=0 :=
   Cd (by rw [jY,if_pos (rV.xS (by decide) (by decide) sq hc),jY,if_pos g2]; rfl) rfl (by simp) (by simp) rfl rfl (O6 hc)
  have rS:O_ ((4:Nat):Int) (O2.map Ma.ag) (R2.map (List.map Ma.ag))=uJ ((4:Nat):Int) (O2.map Ma.ag) (R2.map (List.map Ma.ag)) (zA R2):=by
   unfold O_;rw [JA g2,kF]
  rw [rS] at hr;obtain ⟨oa,on,oc,ra,rn,rc,OO,RR,h1,h2,h3⟩:=hr.Fa hc dU (O5 eD) (m:=4) (by rw [O4 eD]; rfl) (by decide);exact ⟨oa,on,oc,ra,rn,rc,h1,⟨OO,RR,h2⟩,h3⟩
end

theorem VR (args:Array Value) (w:World):(callFunc 47 args).run Tryz.prog w=.ok (.enter 47 args) w:=by kernel_rfl
theorem VS (args:Array Value) (w:World):(callFunc 18 args).run Tryz.prog w=.ok (.enter 18 args) w:=by kernel_rfl
theorem Pe (args:Array Value) (w:World):(callFunc 11 args).run Tryz.prog w=.ok (.enter 11 args) w:=by kernel_rfl
theorem qH (args:Array Value) (w:World):(callFunc 30 args).run Tryz.prog w=.ok (.enter 30 args) w:=by kernel_rfl
theorem Pf (args:Array Value) (w:World):(callFunc 14 args).run Tryz.prog w=.ok (.enter 14 args) w:=by kernel_rfl
theorem VT (args:Array Value) (w:World):(callFunc 50 args).run Tryz.prog w=.ok (.enter 50 args) w:=by kernel_rfl
theorem VU (args:Array Value) (w:World):(callFunc 43 args).run Tryz.prog w=.ok (.enter 43 args) w:=by kernel_rfl
theorem Ce (args:Array Value) (w:World):(callFunc 20 args).run Tryz.prog w=.ok (.enter 20 args) w:=by kernel_rfl
theorem Pg (v1 v2:Value) (l1 l2:List Int) (w:World) (h1:Rg.Ints w v1 l1) (h2:Rg.Ints w v2 l2) :
  Calls Tryz.prog 20 #[v1,v2] w fun e w'=>e=.returned (.bool (decide (l1=l2)))/\∃ k,w'=w.drewN k:=by
 obtain ⟨a1,c1,rfl,n1,m1,_,k1⟩:=h1.shape;obtain ⟨a2,c2,rfl,n2,m2,_,k2⟩:=h2.shape;clear h1 h2;have K1:=U k1;have K2:=U k2;clear k1 k2;generalize hD:decide (l1=l2)=D;have HD:=U hD;clear hD
 by_cases hl:l1.length=l2.length
 ·have hb:((l1.length:Int) != (l2.length:Int))=false:=by rw [hl]; simp
  have Hl:=U hl;clear hl
  go_enter Tryz.func20,Tryz.ntmps20
  go_wp2;clear hb
  go_loopw [5] (fun v wr=>∃ i:Nat,v=.int .i64 i/\i<=l1.length/\(∃ k,wr=w.drewN k)/\Hid (l1.take i=l2.take i)) (fun v _=>l1.length - (intOf v).toNat)
  case atStart=>exact ⟨0,rfl,by omega,⟨0,rfl⟩,by show _=_; simp⟩
  case round =>
   obtain ⟨i,rfl,hi,⟨k,rfl⟩,hs⟩:=hrel
   by_cases aE:i<l1.length
   ·have jQ:i<l2.length:=by have:=Hl.p; omega
    obtain ⟨b1,o1,rfl,cX,d1⟩:=K1.p (by omega);obtain ⟨b2,o2,rfl,dG,d2⟩:=K2.p (by omega);have x1:w.cell? ⟨b1,o1+i,none⟩=_:=d1 i aE;have x2:w.cell? ⟨b2,o2+i,none⟩=_:=d2 i jQ
    have pJ:(i:Int)<(l2.length:Int):=by omega
    generalize hx:l1[i]=x at x1;generalize hy:l2[i]=y at x2;have Hx:=U hx;have Hy:=U hy;clear d1 d2 hx hy
    by_cases he:x=y
    ·have hb:(x != y)=false:=by rw [he]; simp
     have He:=U he;clear he;go_wp2
     go_quiet (fail)
     go_wp2
     go_roundw
     case rel=>exact ⟨i+1,by go_num,by omega,⟨_,rfl⟩,by show _=_; rw [List.take_succ_eq_append_getElem aE,List.take_succ_eq_append_getElem jQ,hs.p,Hx.p,Hy.p,He.p]⟩
     case measure=>simp [intOf]; omega
    ·have hb:(x != y)=true:=by rw [bne_iff_ne]; exact he
     have He:=U he;clear he;go_wp2
     go_quiet (fail)
     go_wp2;go_ret;exact ⟨Rg.ja (by rw [<- HD.p]; symm; rw [decide_eq_false_iff_not]; intro hc; subst hc; exact He.p (Hx.p.symm.trans Hy.p)),_,World.drewN_drewN _ _ _⟩
   ·go_wp2
    go_ret;refine ⟨Rg.ja ?_,_,rfl⟩;rw [<- HD.p]; symm;rw [decide_eq_true_eq];have h1:=hs.p
    rwa [List.take_of_length_le (by omega),List.take_of_length_le (by have:=Hl.p; omega)] at h1
 ·have hb:((l1.length:Int) != (l2.length:Int))=true:=by rw [bne_iff_ne]; omega
  have Hl:=U hl;clear hl
  go_enter Tryz.func20,Tryz.ntmps20
  go_wp2;go_ret;exact ⟨Rg.ja (by rw [<- HD.p]; symm; rw [decide_eq_false_iff_not]; intro hc; subst hc; exact Hl.p rfl),0,rfl⟩
theorem mX {l1 l2:List Int} {b:Bool} (h1:Rg.Ints w v1 l1) (h2:Rg.Ints w v2 l2) (hd:Hid (decide (l1=l2)=b)) (hb:Below w0.heap.size w0 w) :
  Calls Tryz.prog 20 #[v1,v2] w fun e w'=>e=.returned (.bool b)/\Below w0.heap.size w0 w' :=
 (Pg v1 v2 l1 l2 w h1 h2).mono fun _ _ ⟨a,_,c⟩=>⟨by rw [a,hd.p],by rw [c]; exact Rg.drewN hb _⟩
theorem Cf (w:World):Calls Tryz.prog 10 #[] w fun e w'=>e=.returned (.bool true)/\Below w.heap.size w w':=by
 have K:=U (Below.refl w.heap.size w)
 go_enter Tryz.func10,Tryz.ntmps10
 go_upto_region 0 with (fail);refine d3 ?_;refine d6 0 (.bool false) ?_;go_frame;go_upto_region 1 with (fail);refine d3 ?_;refine f7 4 (sT 47 _ rfl (VR _ _)) ?_;refine (Iv w).mono ?_;rintro e1 w1 ⟨oa,on,oc,ra,rn,rc,O1,R1,rfl,hce,hb⟩;have ew:=U hce.2;have cJ:=hce.1;clear hce;refine ⟨_,rfl,?_⟩;go_frame;replace K:=U (Rg.acc K.p hb);clear hb;have E1:=U cJ;refine d4 1 (bw rfl) ?_;go_frame;refine Rg.aD none rfl rfl (Rg.ai _ _ _ rfl _ rfl _ rfl (aW _ _ _ _ _ _ _ (cq.new w1 (.int .i64 0) (.slice none 0 0) (.slice none 0 0)))) ?_;go_frame;have jH:=(cq.new w1 (.int .i64 0) (.slice none 0 0) (.slice none 0 0)).set (.int .i64 ((4:Nat):Int)) (.slice oa on oc) (.slice ra rn rc);have hb:=((((Below.refl w1.heap.size w1).alloc (Nat.le_refl _) (.cells #[.int .i64 0,.slice none 0 0,.slice none 0 0] 25)).setCell (p:=⟨w1.heap.size,0,none⟩) (Nat.le_refl _) (.int .i64 ((4:Nat):Int))).setCell (p:=⟨w1.heap.size,1,none⟩) (Nat.le_refl _) (.slice oa on oc)).setCell (p:=⟨w1.heap.size,2,none⟩) (Nat.le_refl _) (.slice ra rn rc)
 generalize (((w1.alloc (.cells #[.int .i64 0,.slice none 0 0,.slice none 0 0] 25)).setCell ⟨w1.heap.size,0,none⟩ (.int .i64 ((4:Nat):Int))).setCell ⟨w1.heap.size,1,none⟩ (.slice oa on oc)).setCell ⟨w1.heap.size,2,none⟩ (.slice ra rn rc)=w2 at *;replace E1:=U (E1.p.jj hb);replace K:=U (Rg.acc K.p hb);clear hb;have T1:=U jH;clear jH;clear cJ;go_upto_region 2 with (fail);refine d3 ?_;refine d4 6 (g8 ((.agg #[.int .i64 ((4:Nat):Int),.slice oa on oc,.slice ra rn rc])) ⟨w1.heap.size,0,none⟩ (aM T1.p.c0 T1.p.c1 T1.p.c2)) ?_;go_frame;have bY:=fS w2 3 [1,0,2,3] (by decide);refine d4 7 (ft _ _ 4 _ rfl [1,0,2,3] Tryz.underlying27 nW ui rfl (by decide) (by decide) rfl) ?_;go_frame;have hb:=(Below.refl w2.heap.size w2).alloc (Nat.le_refl _) (.cells (([1,0,2,3]:List Int).map (Value.int .i64)).toArray 3)
 generalize w2.alloc (.cells (([1,0,2,3]:List Int).map (Value.int .i64)).toArray 3)=w3 at *;replace E1:=U (E1.p.jj hb);replace T1:=U (T1.p.jj hb);replace K:=U (Rg.acc K.p hb);clear hb;have I7:=U bY;clear bY;have bY:=fS w3 3 [0,1,3,2] (by decide);refine d4 8 (ft _ _ 4 _ rfl [0,1,3,2] Tryz.underlying27 nW ui rfl (by decide) (by decide) rfl) ?_;go_frame;have hb:=(Below.refl w3.heap.size w3).alloc (Nat.le_refl _) (.cells (([0,1,3,2]:List Int).map (Value.int .i64)).toArray 3);generalize w3.alloc (.cells (([0,1,3,2]:List Int).map (Value.int .i64)).toArray 3)=w4 at *;replace E1:=U (E1.p.jj hb);replace T1:=U (T1.p.jj hb);replace I7:=U (I7.p.jj hb);replace K:=U (Rg.acc K.p hb);clear hb;have I8:=U bY;clear bY;refine f7 9 (dH 18 _ _ _ _ rfl rfl rfl rfl (VS _ _)) ?_;refine (IA ew.p E1.p I7.p I8.p).mono ?_
 rintro e1 w5 ⟨xa,xm,xc,rfl,Bk,hb⟩;refine ⟨_,rfl,?_⟩;go_frame;replace E1:=U (E1.p.jj hb);replace T1:=U (T1.p.jj hb);replace I7:=U (I7.p.jj hb);replace I8:=U (I8.p.jj hb);replace K:=U (Rg.acc K.p hb);clear hb;have X1:=U Bk;refine d5 5 (.tuple #[.slice xa xm xc,.int .i64 0]) ?_;go_frame;refine d4 10 (i6 (.slice xa xm xc)) ?_;go_frame;refine d4 11 (i6 (.int .i64 0)) ?_;go_frame;refine d6 2 (.slice xa xm xc) ?_;go_frame;refine d6 3 (.int .i64 0) ?_;go_frame;clear Bk;clear I7 I8;go_upto_region 3 with (fail);have aq:Below w5.heap.size w5 w5.drew:=(Below.refl _ _).drew;replace E1:=U (E1.p.jj aq);replace T1:=U (T1.p.jj aq);replace X1:=U (X1.p.jj aq);replace K:=U (Rg.acc K.p aq);clear aq;refine Rg.Any.begin (S:=Rg.aG 34 (fun _=>True) (fun W=>Below w5.drew.heap.size w5.drew W)) mix ?_;generalize w5.drew=w6 at *
 have hS:∀ (l:Array Bool) W,Below w6.heap.size w6 W->Rg.aG 34 (fun _=>True) (fun W=>Below w6.heap.size w6 W) l W:=fun l W h=>⟨.inr trivial,h⟩;have hI:Below w6.heap.size w6 w6:=Below.refl _ _;refine d7 0 34 ((.agg #[.int .i64 ((4:Nat):Int),.slice oa on oc,.slice ra rn rc])) 12 rfl rfl (i9 ⟨w1.heap.size,0,none⟩ (fun W hW=>aM ((Below.cell (p:=⟨w1.heap.size,0,none⟩) hW T1.p.lt).trans T1.p.c0) ((Below.cell (p:=⟨w1.heap.size,1,none⟩) hW T1.p.lt).trans T1.p.c1) ((Below.cell (p:=⟨w1.heap.size,2,none⟩) hW T1.p.lt).trans T1.p.c2))) (hS _ _ hI) ?_;go_frame;have bY:=fS w6 3 [1,0,2,3] (by decide);have hb:=(Below.refl w6.heap.size w6).alloc (Nat.le_refl _) (.cells (([1,0,2,3]:List Int).map (Value.int .i64)).toArray 3);have aJ:=Rg.acc hI hb;clear hb hI;refine i8 1 13 rfl rfl (ft _ _ 4 _ rfl [1,0,2,3] Tryz.underlying27 nW ui rfl (by decide) (by decide) rfl) (hS _ _ aJ) ?_;go_frame
 generalize w6.alloc (.cells (([1,0,2,3]:List Int).map (Value.int .i64)).toArray 3)=w7 at *;have VV:=U bY;refine Rg.Any.one (i:=2) (by kernel_rfl) (Rg.Any.ask (some 14) rfl rfl rfl _ _ (aw 11 _ _ _ rfl rfl rfl (Pe _ _)) ?_);refine (IC ew.p (E1.p.jj aJ) VV.p).mono ?_;rintro e1 w8 ⟨Ph,Pj,Pk,Pl,Pm,Pn,rfl,Qo,hb⟩;have a_:=Rg.acc aJ hb;have bL:=hb;clear hb aJ;refine ⟨_,rfl,(hS _ _ a_),?_⟩;go_frame;have Q1:=U Qo;refine d7 3 34 ((.agg #[.int .i64 ((4:Nat):Int),.slice Ph Pj Pk,.slice Pl Pm Pn])) 15 rfl rfl (.inl ⟨rfl,fun w _=>aX (v:=(.agg #[.int .i64 ((4:Nat):Int),.slice Ph Pj Pk,.slice Pl Pm Pn])) _ _ rfl rfl rfl⟩) (hS _ _ a_) ?_;go_frame;refine d7 4 34 (.int .i64 0) 16 rfl rfl (.inl ⟨rfl,fun w _=>aX (v:=.int .i64 0) _ _ rfl rfl rfl⟩) (hS _ _ a_) ?_;go_frame
 refine Rg.Any.one (i:=5) (by kernel_rfl) (Rg.Any.ask (some 17) rfl rfl rfl _ _ (aw 30 _ _ _ rfl rfl rfl (qH _ _)) ?_);refine (ik Q1.p).mono ?_;rintro e1 w9 ⟨rfl,hb⟩;have dE:=Rg.acc bL hb;have aZ:=Rg.acc a_ hb;have dt:=hb;clear hb bL a_;refine ⟨_,rfl,(hS _ _ aZ),?_⟩;go_frame;refine d7 6 34 (.bool true) 18 rfl rfl (.inl ⟨rfl,fun w _=>aT (R:=.bool true) .eql _ _ _ rfl rfl rfl (fA _ f8)⟩) (hS _ _ aZ) ?_;go_frame;refine d8 7 34 (.bool true) 19 (hS _ _ aZ) ?_;go_frame;refine d7 8 34 ((.agg #[.int .i64 ((4:Nat):Int),.slice oa on oc,.slice ra rn rc])) 20 rfl rfl (i9 ⟨w1.heap.size,0,none⟩ (fun W hW=>aM ((Below.cell (p:=⟨w1.heap.size,0,none⟩) hW T1.p.lt).trans T1.p.c0) ((Below.cell (p:=⟨w1.heap.size,1,none⟩) hW T1.p.lt).trans T1.p.c1) ((Below.cell (p:=⟨w1.heap.size,2,none⟩) hW T1.p.lt).trans T1.p.c2))) (hS _ _ aZ) ?_;go_frame
 have bY:=fS w9 3 [0,1] (by decide);have hb:=(Below.refl w9.heap.size w9).alloc (Nat.le_refl _) (.cells (([0,1]:List Int).map (Value.int .i64)).toArray 3);have jq:=Rg.acc dt hb;have kE:=Rg.acc dE hb;have dW:=Rg.acc aZ hb;have qB:=hb;clear hb dt dE aZ;refine i8 9 21 rfl rfl (ft _ _ 2 _ rfl [0,1] Tryz.underlying26 nW ui rfl (by decide) (by decide) rfl) (hS _ _ dW) ?_;go_frame;generalize w9.alloc (.cells (([0,1]:List Int).map (Value.int .i64)).toArray 3)=Ks at *;have VW:=U bY;refine Rg.Any.one (i:=10) (by kernel_rfl) (Rg.Any.ask (some 22) rfl rfl rfl _ _ (aw 14 _ _ _ rfl rfl rfl (Pf _ _)) ?_);refine (ID ew.p (E1.p.jj dW) VW.p).mono ?_;rintro e1 nB ⟨Po,Pp,DB,Pq,Pr,Ps,rfl,wR,hb⟩;have mR:=Rg.acc qB hb;have x_:=Rg.acc jq hb;have yd:=Rg.acc kE hb
 have kJ:=Rg.acc dW hb;have ye:=hb;clear hb qB jq kE dW;refine ⟨_,rfl,(hS _ _ kJ),?_⟩;go_frame;have Q2:=U wR;refine d7 11 34 ((.agg #[.int .i64 ((4:Nat):Int),.slice Po Pp DB,.slice Pq Pr Ps])) 23 rfl rfl (.inl ⟨rfl,fun w _=>aX (v:=(.agg #[.int .i64 ((4:Nat):Int),.slice Po Pp DB,.slice Pq Pr Ps])) _ _ rfl rfl rfl⟩) (hS _ _ kJ) ?_;go_frame;refine d7 12 34 (.int .i64 0) 24 rfl rfl (.inl ⟨rfl,fun w _=>aX (v:=.int .i64 0) _ _ rfl rfl rfl⟩) (hS _ _ kJ) ?_;go_frame;refine Rg.Any.one (i:=13) (by kernel_rfl) (Rg.Any.ask (some 25) rfl rfl rfl _ _ (aw 30 _ _ _ rfl rfl rfl (qH _ _)) ?_);refine (ik Q2.p).mono ?_;rintro e1 kA ⟨rfl,hb⟩;have mS:=Rg.acc ye hb;have mT:=Rg.acc mR hb;have yf:=Rg.acc x_ hb;have yg:=Rg.acc yd hb;have dP:=Rg.acc kJ hb;have yh:=hb
 clear hb ye mR x_ yd kJ;refine ⟨_,rfl,(hS _ _ dP),?_⟩;go_frame;refine d7 14 34 (.bool true) 26 rfl rfl (.inl ⟨rfl,fun w _=>aT (R:=.bool true) .eql _ _ _ rfl rfl rfl (fA _ f8)⟩) (hS _ _ dP) ?_;go_frame;refine d7 15 34 (.bool true) 27 rfl rfl (.inl ⟨rfl,fun w _=>ec (v:=.bool true) _ _ _ rfl rfl rfl⟩) (hS _ _ dP) ?_;go_frame;refine d8 16 34 (.bool true) 28 (hS _ _ dP) ?_;go_frame;refine d7 17 34 ((.agg #[.int .i64 ((4:Nat):Int),.slice oa on oc,.slice ra rn rc])) 29 rfl rfl (i9 ⟨w1.heap.size,0,none⟩ (fun W hW=>aM ((Below.cell (p:=⟨w1.heap.size,0,none⟩) hW T1.p.lt).trans T1.p.c0) ((Below.cell (p:=⟨w1.heap.size,1,none⟩) hW T1.p.lt).trans T1.p.c1) ((Below.cell (p:=⟨w1.heap.size,2,none⟩) hW T1.p.lt).trans T1.p.c2))) (hS _ _ dP) ?_;go_frame;refine Rg.Any.one (i:=18) (by kernel_rfl) (Rg.Any.ask (some 30) rfl rfl rfl _ _ (sT 50 _ rfl (VT _ _)) ?_)
 refine (Iw kA).mono ?_;rintro e1 Y2 ⟨pa,pn,pc,qa,qn,qc,O2,R2,rfl,Pt,hb⟩;have HCI:=U Pt.2;have eD:=Pt.1;clear Pt;have oN:=Rg.acc yh hb;have lF:=Rg.acc mS hb;have oO:=Rg.acc mT hb;have yi:=Rg.acc yf hb;have yj:=Rg.acc yg hb;have lI:=Rg.acc dP hb;have yk:=hb;clear hb yh mS mT yf yg dP;refine ⟨_,rfl,(hS _ _ lI),?_⟩;go_frame;have E2:=U eD;refine Rg.Any.one (i:=19) (by kernel_rfl) (Rg.Any.ask (some 31) rfl rfl rfl _ _ (aw 43 _ _ _ rfl rfl rfl (VU _ _)) ?_);refine (IE ew.p HCI.p (E1.p.jj lI) E2.p).mono ?_;rintro e1 IG ⟨Pu,Pv,H_,Pw,Px,Py,rfl,hq3,hb⟩;have oP:=Rg.acc yk hb;have oQ:=Rg.acc oN hb;have ig:=Rg.acc lF hb;have oR:=Rg.acc oO hb;have ym:=Rg.acc yi hb;have yp:=Rg.acc yj hb;have kK:=Rg.acc lI hb
 have yr:=hb;clear hb yk oN lF oO yi yj lI;refine ⟨_,rfl,(hS _ _ kK),?_⟩;go_frame;have Q3:=U hq3;refine d7 20 34 ((.agg #[.int .i64 ((4:Nat):Int),.slice Pu Pv H_,.slice Pw Px Py])) 32 rfl rfl (.inl ⟨rfl,fun w _=>aX (v:=(.agg #[.int .i64 ((4:Nat):Int),.slice Pu Pv H_,.slice Pw Px Py])) _ _ rfl rfl rfl⟩) (hS _ _ kK) ?_;go_frame;refine d7 21 34 (.int .i64 0) 33 rfl rfl (.inl ⟨rfl,fun w _=>aX (v:=.int .i64 0) _ _ rfl rfl rfl⟩) (hS _ _ kK) ?_;go_frame;refine Rg.Any.one (i:=22) (by kernel_rfl) (Rg.Any.ask (some 34) rfl rfl rfl _ _ (aw 30 _ _ _ rfl rfl rfl (qH _ _)) ?_);refine (ik Q3.p).mono ?_;rintro e1 eV ⟨rfl,hb⟩;have sr:=Rg.acc yr hb;have ss:=Rg.acc oP hb;have sw:=Rg.acc oQ hb;have sx:=Rg.acc ig hb;have sy:=Rg.acc oR hb;have sA:=Rg.acc ym hb
 have sB:=Rg.acc yp hb;have eP:=Rg.acc kK hb;have sC:=hb;clear hb yr oP oQ ig oR ym yp kK;refine ⟨_,rfl,(hS _ _ eP),?_⟩;go_frame;refine d7 23 34 (.bool true) 35 rfl rfl (.inl ⟨rfl,fun w _=>aT (R:=.bool true) .eql _ _ _ rfl rfl rfl (fA _ f8)⟩) (hS _ _ eP) ?_;go_frame;refine d7 24 34 (.bool true) 36 rfl rfl (.inl ⟨rfl,fun w _=>ec (v:=.bool true) _ _ _ rfl rfl rfl⟩) (hS _ _ eP) ?_;go_frame;refine d8 25 34 (.bool true) 37 (hS _ _ eP) ?_;go_frame;refine d8 26 34 (.slice xa xm xc) 38 (hS _ _ eP) ?_;go_frame;have bY:=fS eV 3 [2,3,0,1] (by decide);have hb:=(Below.refl eV.heap.size eV).alloc (Nat.le_refl _) (.cells (([2,3,0,1]:List Int).map (Value.int .i64)).toArray 3);have vL:=Rg.acc sC hb;have sD:=Rg.acc sr hb;have vM:=Rg.acc ss hb
 have vN:=Rg.acc sw hb;have sF:=Rg.acc sx hb;have vO:=Rg.acc sy hb;have vP:=Rg.acc sA hb;have sG:=Rg.acc sB hb;have dv:=Rg.acc eP hb;have vQ:=hb;clear hb sC sr ss sw sx sy sA sB eP;refine i8 27 39 rfl rfl (ft _ _ 4 _ rfl [2,3,0,1] Tryz.underlying26 nW ui rfl (by decide) (by decide) rfl) (hS _ _ dv) ?_;go_frame;generalize eV.alloc (.cells (([2,3,0,1]:List Int).map (Value.int .i64)).toArray 3)=vz at *;have VX:=U bY;refine Rg.Any.one (i:=28) (by kernel_rfl) (Rg.Any.ask (some 40) rfl rfl rfl _ _ (aw 20 _ _ _ rfl rfl rfl (Ce _ _)) ?_);refine (mX (w0:=vz) (X1.p.jj dv) VX.p (U (decide_eq_true rfl)) (Below.refl _ _)).mono ?_;rintro e1 fk ⟨rfl,hb⟩;have Rz:=Rg.acc vQ hb;have JB:=Rg.acc vL hb;have JC:=Rg.acc sD hb
 have RB:=Rg.acc vM hb;have JD:=Rg.acc vN hb;have JE:=Rg.acc sF hb;have RC:=Rg.acc vO hb;have JF:=Rg.acc vP hb;have JG:=Rg.acc sG hb;have gV:=Rg.acc dv hb;have Fc:=hb;clear hb vQ vL sD vM vN sF vO vP sG dv;refine ⟨_,rfl,(hS _ _ gV),?_⟩;go_frame;refine d7 29 34 (.bool true) 41 rfl rfl (.inl ⟨rfl,fun w _=>ec (v:=.bool true) _ _ _ rfl rfl rfl⟩) (hS _ _ gV) ?_;go_frame;refine d8 30 34 (.bool true) 42 (hS _ _ gV) ?_;go_frame;refine d8 31 34 (.int .i64 0) 43 (hS _ _ gV) ?_;go_frame;refine d7 32 34 (.bool true) 44 rfl rfl (.inl ⟨rfl,fun w _=>JS _ _ rfl rfl rfl rfl⟩) (hS _ _ gV) ?_;go_frame;refine d7 33 34 (.bool true) 45 rfl rfl (.inl ⟨rfl,fun w _=>ec (v:=.bool true) _ _ _ rfl rfl rfl⟩) (hS _ _ gV) ?_;go_frame
 refine i8 34 0 rfl rfl (c6 (.bool true) _ rfl rfl) (hS _ _ gV) ?_;go_frame;refine Rg.Any.done (by kernel_rfl) ?_ _;replace E1:=U (E1.p.jj gV);replace T1:=U (T1.p.jj gV);replace X1:=U (X1.p.jj gV);replace VV:=U (VV.p.jj JG);replace Q1:=U (Q1.p.jj JF);replace VW:=U (VW.p.jj JE);replace Q2:=U (Q2.p.jj JD);replace E2:=U (E2.p.jj JC);replace Q3:=U (Q3.p.jj JB);replace VX:=U (VX.p.jj Fc);replace K:=U (Rg.acc K.p gV);clear hS Rz JB Fc JC RB JD JE RC JF JG gV;go_wp2;go_ret;exact ⟨rfl,K.p⟩

theorem yt (args:Array Value) (w:World):(callFunc 29 args).run Tryz.prog w=.ok (.enter 29 args) w:=by kernel_rfl
theorem yu (args:Array Value) (w:World):(callFunc 28 args).run Tryz.prog w=.ok (.enter 28 args) w:=by kernel_rfl
theorem VY (args:Array Value) (w:World):(callFunc 88 args).run Tryz.prog w=.ok (.enter 88 args) w:=by kernel_rfl
theorem RD (gv:Value) (d:Int) (ll:List (List Int)) (w:World) (h:Rg.Rows w gv ll) :
  Calls Tryz.prog 65 #[.agg #[.int .i64 d,gv]] w fun e w'=>∃ cv,e=.returned (.tuple #[cv,.int .i64 (Ma.fa d ll)])/\dm w.heap.size w' d ll cv (Ma.fa d ll)/\Below w.heap.size w w':=by
 obtain ⟨ga,gc,rfl,yI,Dg⟩:=GI.enter (d) h;have K:=U Dg;have G0:=U yI;clear h yI Dg
 go_enter Tryz.func65,Tryz.ntmps65
 go_upto_region 0 with (fail);refine d3 ?_;refine d4 1 (Rg.bq _ _ rfl rfl) ?_;go_frame;generalize w.alloc (.cells #[.int .i64 d,.slice ga ll.length gc] 43)=w0 at *;have Fe:=U K.p.size;have bY:=cq.new w0 (.int .i64 0) (.slice none 0 0) (.slice none 0 0);refine d4 2 (bw rfl) ?_;go_frame;have hb:=(Below.refl w0.heap.size w0).alloc (Nat.le_refl _) (.cells #[.int .i64 0,.slice none 0 0,.slice none 0 0] 25);generalize w0.alloc (.cells #[.int .i64 0,.slice none 0 0,.slice none 0 0] 25)=w1 at *;replace G0:=U (G0.p.jj hb);replace K:=U (Rg.acc K.p hb);clear hb;have FT:=U bY;clear bY;go_upto_region 1 with (fail);refine d3 ?_;refine d4 5 (g8 (.agg #[.int .i64 d,.slice ga ll.length gc]) ⟨w.heap.size,0,none⟩ (je G0.p.c0 G0.p.c1)) ?_;go_frame;refine f7 6 (aF 88 _ _ rfl rfl (VY _ _)) ?_;refine (uO _ _ _ w1 G0.p.rows).mono ?_
 rintro e1 w2 ⟨rfl,hb⟩;refine ⟨_,rfl,?_⟩;go_frame;replace G0:=U (G0.p.jj hb);replace FT:=U (FT.p.jj hb);replace K:=U (Rg.acc K.p hb);clear hb;refine d6 4 (.int .i64 (Ma.fa d ll)) ?_;go_frame
 by_cases hz:Ma.fa d ll=0
 ·obtain ⟨n,gs,hd,y7,uQ,bQ,cC,gD⟩:=L5 hz
  have eJ:∀ s∈gs,Cm.Gd n s:=fun s hs=>uQ s hs;have y8:=U y7;have nH:=U gD;have kC:=U eJ;subst hd;clear y7 gD uQ eJ;go_upto_region 2 with (fail);refine d3 ?_;refine d5 7 (.int .i64 (Ma.fa ((n:Nat):Int) ll)) ?_;go_frame;refine d4 8 (g9 (.bool false) .neq (h:=aU _ f9)) ?_;go_frame;go_upto_region 4 with (fail);refine d3 ?_;refine d4 11 (dh _ rfl rfl) ?_;go_frame;refine d4 12 (g8 (.int .i64 ((n:Nat):Int)) ⟨w.heap.size,0,none⟩ (ah G0.p.c0)) ?_;go_frame;refine d4 13 (dg _ rfl rfl) ?_;go_frame;refine d4 14 (g8 (.slice ga ll.length gc) ⟨w.heap.size,1,none⟩ (Rg.ae _ _ Tryz.underlying41 G0.p.c1)) ?_;go_frame;have Qz:=U FT.p.lt;refine f7 15 (aw 69 _ _ _ rfl rfl rfl (GP _ _)) ?_;refine (wU bQ cC (by have:=G0.p.rows; rw [show gs.map Ma.ag=ll from y8.p.symm]; exact this) kC.p (by have:=nH.p; omega)).mono ?_
  rintro e1 w3 ⟨tb,L,F1,T1,V1,rfl,n_,od,oh,D1,hb⟩;have HB:=U D1;have Bl:=U (Nat.lt_of_lt_of_le Qz.p hb.size);refine ⟨_,rfl,?_⟩;go_frame;replace G0:=U (G0.p.jj hb);replace FT:=U (FT.p.jj hb);replace K:=U (Rg.acc K.p hb);clear hb;have HT:=U n_;have C0:=U od;have C1:=U oh;clear n_ od oh D1;refine f7 16 (aF 70 _ _ rfl rfl (GW _ _)) ?_;refine (qh bQ cC HT.p C0.p C1.p (Cm.Gr.dC kC.p) (HB.p.Db (by omega) kC.p) (fun j hj=>(HB.p.full j hj).1)).mono ?_;rintro e1 w4 ⟨ov,rv,O,R,rfl,hO,hR,D2,hb⟩;obtain ⟨oa,oc,rfl,_⟩:=hO.rows.shape;obtain ⟨ra,rc,rfl⟩:=hR.rows.shape;have HO:=U hO;have HR:=U hR;have ew:=U D2;clear hO hR D2;refine ⟨_,rfl,?_⟩;go_frame;replace G0:=U (G0.p.jj hb);replace FT:=U (FT.p.jj hb);replace HT:=U (HT.p.jj hb);replace C0:=U (C0.p.jj hb)
  replace C1:=U (C1.p.jj hb);replace K:=U (Rg.acc K.p hb);clear hb;refine Rg.aD none rfl rfl (Rg.ai _ _ _ rfl _ rfl _ rfl (aW _ _ _ _ _ _ _ FT.p)) ?_;go_frame;refine d6 3 (.int .i64 ((0:Nat):Int)) ?_;go_frame;have yV:=FT.p.set (.int .i64 ((n:Nat):Int)) (.slice oa (O.map Ma.ag).length oc) (.slice ra (R.map (List.map Ma.ag)).length rc);have A9:=Rg.Kp.trans (Rg.Kp.trans (Rg.Kp.aL (M:=fun z=>z=w0.heap.size) (w:=w4) (a:=⟨w0.heap.size,0,none⟩) (v:=.int .i64 ((n:Nat):Int)) rfl) (Rg.Kp.aL (M:=fun z=>z=w0.heap.size) (a:=⟨w0.heap.size,1,none⟩) (v:=(.slice oa (O.map Ma.ag).length oc)) rfl) (fun _ _ e=>e)) (Rg.Kp.aL (M:=fun z=>z=w0.heap.size) (a:=⟨w0.heap.size,2,none⟩) (v:=(.slice ra (R.map (List.map Ma.ag)).length rc)) rfl) (fun _ _ e=>e);have hro:=(aH.kp HO.p A9 (fun z g e=>by have:=Bl.p; omega)).mono (fun z hz=>by have:=Bl.p; have:=Fe.p; omega:∀ z,_->w.heap.size<=z)
  have Na:=bf.mono (HR.p.kp A9 (fun z g e=>by have:=Bl.p; omega)) (fun z hz=>by have:=Bl.p; have:=Fe.p; omega:∀ z,_->w.heap.size<=z);have yX:=((K.p.setCell (p:=⟨w0.heap.size,0,none⟩) Fe.p (.int .i64 ((n:Nat):Int))).setCell (p:=⟨w0.heap.size,1,none⟩) Fe.p (.slice oa (O.map Ma.ag).length oc)).setCell (p:=⟨w0.heap.size,2,none⟩) Fe.p (.slice ra (R.map (List.map Ma.ag)).length rc);generalize ((w4.setCell ⟨w0.heap.size,0,none⟩ (.int .i64 ((n:Nat):Int))).setCell ⟨w0.heap.size,1,none⟩ (.slice oa (O.map Ma.ag).length oc)).setCell ⟨w0.heap.size,2,none⟩ (.slice ra (R.map (List.map Ma.ag)).length rc)=dT at *;have qq:=U yV
  have lY:=U (show ∃ cv,Ending.returned (.tuple #[.agg #[.int .i64 ((n:Nat):Int),(.slice oa (O.map Ma.ag).length oc),(.slice ra (R.map (List.map Ma.ag)).length rc)],.int .i64 0])=.returned (.tuple #[cv,.int .i64 (Ma.fa ((n:Nat):Int) ll)])/\dm w.heap.size dT ((n:Nat):Int) ll cv (Ma.fa ((n:Nat):Int) ll)/\Below w.heap.size w dT from
   ⟨_,by rw [hz],.inr ⟨hz,n,gs,rfl,y8.p,bQ,cC,_,_,O,R,rfl,hro,Na,ew.p⟩,yX⟩)
  clear yV A9 hro Na yX;go_wp2;exact bodyPost_ret (bz (p:=2) (u:=3) rfl _ rfl rfl qq.p) rfl lY.p
 ·skip
  go_upto_region 2 with (fail);refine d3 ?_;refine d5 7 (.int .i64 (Ma.fa d ll)) ?_;go_frame;refine d4 8 (g9 (.bool true) .neq (h:=aU _ f8)) ?_;go_frame;go_upto_region 3 with (fail);refine d3 ?_;refine d4 9 (ep rfl) ?_;go_frame;refine d5 10 (.int .i64 (Ma.fa d ll)) ?_;go_frame;refine Rg.aD none rfl rfl (Rg.ai _ _ _ rfl _ rfl _ rfl (aW _ _ _ _ _ _ _ FT.p)) ?_;go_frame;refine d6 3 (.int .i64 (Ma.fa d ll)) ?_;go_frame;have yV:=FT.p.set (.int .i64 0) (.slice none 0 0) (.slice none 0 0);have yX:=((K.p.setCell (p:=⟨w0.heap.size,0,none⟩) Fe.p (.int .i64 0)).setCell (p:=⟨w0.heap.size,1,none⟩) Fe.p (.slice none 0 0)).setCell (p:=⟨w0.heap.size,2,none⟩) Fe.p (.slice none 0 0);generalize ((w2.setCell ⟨w0.heap.size,0,none⟩ (.int .i64 0)).setCell ⟨w0.heap.size,1,none⟩ (.slice none 0 0)).setCell ⟨w0.heap.size,2,none⟩ (.slice none 0 0)=dT at *
  have qq:=U yV
  have lY:=U (show ∃ cv,Ending.returned (.tuple #[qi,.int .i64 (Ma.fa d ll)])=.returned (.tuple #[cv,.int .i64 (Ma.fa d ll)])/\dm w.heap.size dT d ll cv (Ma.fa d ll)/\Below w.heap.size w dT from
   ⟨_,rfl,.inl ⟨hz,rfl⟩,yX⟩)
  clear yV yX;go_wp2;exact bodyPost_ret (bz (p:=2) (u:=3) rfl _ rfl rfl qq.p) rfl lY.p
theorem jP (x:Int) (k:Nat) (w:World) (h0:1<=k) (h1:k<=1000):Calls Tryz.prog 28 #[.int .i64 x,.int .i64 ((k:Nat):Int)] w fun e w'=>∃ r:Nat,e=.returned (.int .i64 ((r:Nat):Int))/\r<k/\Below w.heap.size w w':=by
 have qK:¬ ((k:Nat):Int)=0:=by omega
 have bQ:¬ ((k:Nat):Int)<1:=by omega
 have L1:(0:Int)<k:=by omega
 have h2:=Int.tmod_lt_of_pos x L1
 have h3:-((k:Nat):Int)<x.tmod k:=by
  have:=Int.lt_tmod_of_pos x L1;omega
 by_cases aE:x.tmod k<0
 ·obtain ⟨r,hr⟩:∃ r:Nat,x.tmod k+k=((r:Nat):Int):=⟨(x.tmod k+k).toNat,by omega⟩
  have HR:=U hr;clear hr
  go_enter Tryz.func28,Tryz.ntmps28
  go_wp2;go_ret;exact ⟨r,by rw [<- HR.p]; rfl,by have:=HR.p; omega,Below.refl _ _⟩
 ·obtain ⟨r,hr⟩:∃ r:Nat,x.tmod k=((r:Nat):Int):=⟨(x.tmod k).toNat,by omega⟩
  have HR:=U hr;clear hr
  go_enter Tryz.func28,Tryz.ntmps28
  go_wp2;go_ret;exact ⟨r,by rw [<- HR.p]; rfl,by have:=HR.p; omega,Below.refl _ _⟩
theorem iM (v:Value) (l:List Int) (i:Nat) (w:World) (h:Rg.cZ maxLen w v l) (hi:i<=1000):Calls Tryz.prog 29 #[v,.int .i64 ((i:Nat):Int)] w fun e w'=>∃ z,e=.returned (.int .i64 z)/\Below w.heap.size w w':=by
 obtain ⟨la,lc,rfl,n1,n2,n3,k1⟩:=h.shape;have K1:=U k1;clear h k1
 have h0:¬ ((i:Nat):Int)<0:=by omega
 by_cases aE:i<l.length
 ·obtain ⟨b,o,rfl,hb,d⟩:=K1.p (by omega)
  have x1:w.cell? ⟨b,o+i,none⟩=_:=d i aE;generalize l[i]=x at x1;clear d K1
  have hg:¬ ((l.length:Nat):Int)<=((i:Nat):Int):=by omega
  go_enter Tryz.func29,Tryz.ntmps29
  go_wp2;go_ret;exact ⟨⟨x,rfl⟩,Below.refl _ _⟩
 ·have hg:((l.length:Nat):Int)<=((i:Nat):Int):=by omega
  go_enter Tryz.func29,Tryz.ntmps29
  go_wp2;go_ret;exact ⟨⟨0,rfl⟩,Below.refl _ _⟩
theorem LK (bQ:1<=n) (cC:n<=64) (lv:Value) (l:List Int) (w:World) (h:Rg.cZ maxLen w lv l) :
  Calls Tryz.prog 26 #[.int .i64 ((n:Nat):Int),lv] w fun e w'=>∃ v y,e=.returned v/\Gd n y/\Rg.NP w' v y/\Below w.heap.size w w':=by
 obtain ⟨la,lc,rfl,-⟩:=h.shape;have HL:=U (IB.mk h);have K:=U (Below.refl w.heap.size w);clear h
 go_enter Tryz.func26,Tryz.ntmps26
 go_upto_region 0 with (fail);refine d3 ?_;refine d6 4 (.slice none 0 0) ?_;go_frame;go_upto_region 1 with (fail);refine d3 ?_;refine d5 9 (.int .i64 ((n:Nat):Int)) ?_;go_frame;refine d4 10 (nh _ _ _ rfl _ _ rfl rfl (kP n (by omega) w)) ?_;go_frame;refine d6 5 (.slice (some ⟨w.heap.size,0,none⟩) n n) ?_;go_frame;have gY:=xx w n;have Lb:Below w.heap.size w (w.alloc (.cells (madeCells #[.int .i64 0] n) 3)):=(Below.refl _ _).alloc (Nat.le_refl _) _;obtain ⟨gb,tH⟩:∃ b,w.heap.size=b:=⟨_,rfl⟩;have Hw:=U (show w.heap.size<=gb from Nat.le_of_eq tH);rw [tH] at gY ⊢;generalize w.alloc (.cells (madeCells #[.int .i64 0] n) 3)=wf at *;have RW:=U (show bV wf gb n (fun t=>if t<0 then ((t:Nat):Int) else 0) from gY.congr (fun i _=>by rw [if_neg (Nat.not_lt_zero _)]));clear K;have K:=U (show Below w.heap.size w wf by rw [tH]; rw [tH] at Lb; exact Lb)
 clear gY Lb tH;go_upto_region 2 with (fail);refine d3 ?_;refine d6 6 (.int .i64 ((0:Nat):Int)) ?_;go_frame;go_wp2
 go_loopw [6] (fun iv wr=>∃ t:Nat,iv=.int .i64 ((t:Nat):Int)/\t<=n/\Hid (bV wr gb n (fun s=>if s<t then ((s:Nat):Int) else 0))/\Hid (Below w.heap.size w wr)) (fun iv _=>n - (intOf iv).toNat)
 case atStart=>exact ⟨0,rfl,Nat.zero_le _,RW,K⟩
 case round =>
  clear RW K;obtain ⟨t,rfl,ht,RW,K⟩:=hrel;generalize wr=wg at *
  by_cases htm:t<n
  case pos =>
   have Pz:=U htm;go_upto_region 3 with (fail);refine d3 ?_;refine d5 11 (.int .i64 ((t:Nat):Int)) ?_;go_frame;refine d5 12 (.int .i64 ((n:Nat):Int)) ?_;go_frame;refine d4 13 (g9 (.bool true) .lss (h:=aP _ f8)) ?_;go_frame;go_upto_region 5 with (fail);refine d3 ?_;refine d5 16 (.slice (some ⟨gb,0,none⟩) n n) ?_;go_frame;refine d5 17 (.int .i64 ((t:Nat):Int)) ?_;go_frame;refine d5 18 (.int .i64 ((t:Nat):Int)) ?_;go_frame;refine d4 19 (aB cj _ _ rfl gb (0) (n) n (t) rfl rfl Pz.p) ?_;go_frame;refine Rg.aD none rfl rfl (Rg.ai _ _ _ rfl _ rfl _ rfl (bI ((t:Nat):Int) (by rw [Nat.zero_add]; exact RW.p.2.1 t Pz.p) (by rw [Nat.zero_add]; exact RW.p.2.2 t))) ?_;go_frame
   have gY:bV (wg.setCell ⟨gb,0+t,none⟩ (.int .i64 ((t:Nat):Int))) gb n (fun s=>if s<t+1 then ((s:Nat):Int) else 0):=by
    rw [Nat.zero_add];refine (RW.p.set t ((t:Nat):Int) Pz.p).congr fun i hi=>?_
    by_cases e:i=t
    ·subst e; rw [if_pos rfl,if_pos (by omega)]
    ·rw [if_neg e]
     by_cases e2:i<t
     ·rw [if_pos e2,if_pos (by omega)]
     ·rw [if_neg e2,if_neg (by omega)]
   have qy:=K.p.setCell (p:=⟨gb,0+t,none⟩) Hw.p (.int .i64 ((t:Nat):Int));generalize wg.setCell ⟨gb,0+t,none⟩ (.int .i64 ((t:Nat):Int))=wh at *;have UG:=U gY;have K2:=U qy;clear gY qy RW K;go_upto_region 4 with (fail);refine d3 ?_;refine d5 14 (.int .i64 ((t:Nat):Int)) ?_;go_frame;refine d4 15 (g9 (.int .i64 (((t+1):Nat):Int)) .add (h:=bA _ (by omega) (by omega))) ?_;go_frame;refine d6 6 (.int .i64 (((t+1):Nat):Int)) ?_;go_frame;go_wp2
   go_roundw
   case rel=>exact ⟨t+1,by go_num,Pz.p,UG,K2⟩
   case measure=>simp [intOf]; have:=Pz.p; omega
  obtain rfl:t=n:=by omega
  have PR:=U (Ae (RW.p.congr fun i hi=>by rw [if_pos hi]));have GY:=U (Cm.eL t);clear RW;go_upto_region 3 with (fail);refine d3 ?_;refine d5 11 (.int .i64 ((t:Nat):Int)) ?_;go_frame;refine d5 12 (.int .i64 ((t:Nat):Int)) ?_;go_frame;refine d4 13 (g9 (.bool false) .lss (h:=aP _ f9)) ?_;go_frame;go_upto_region 6 with (fail);refine d3 ?_;refine d6 7 (.int .i64 ((0:Nat):Int)) ?_;go_frame;go_wp2
  go_loopw [7] (fun iv wr=>∃ (i:Nat) (y:List Nat),iv=.int .i64 ((i:Nat):Int)/\i<=t/\Hid (fN wr gb t y)/\Hid (Gd t y)/\Hid (Below w.heap.size w wr)) (fun iv _=>t - (intOf iv).toNat)
  case atStart=>exact ⟨0,_,rfl,Nat.zero_le _,PR,GY,K⟩
  case round =>
   clear PR GY K;obtain ⟨i,y,rfl,hi,PR,GY,K⟩:=hrel;generalize wr=wk at *
   by_cases j3:i<t
   case neg =>
    obtain rfl:i=t:=by omega
    go_upto_region 7 with (fail);refine d3 ?_;refine d5 20 (.int .i64 ((i:Nat):Int)) ?_;go_frame;refine d5 21 (.int .i64 ((i:Nat):Int)) ?_;go_frame;refine d4 22 (g9 (.bool false) .lss (h:=aP _ f9)) ?_;go_frame;go_upto_region 11 with (fail);refine d3 ?_;refine d5 48 (.slice (some ⟨gb,0,none⟩) i i) ?_;go_frame;refine d6 4 (.slice (some ⟨gb,0,none⟩) i i) ?_;go_frame;go_wp2;go_ret;exact ⟨_,y,rfl,GY.p,PR.p.np GY.p (Nat.le_refl _) (by unfold maxLen; omega) (by omega),K.p⟩
   case pos =>
    skip
    go_upto_region 7 with (fail);refine d3 ?_;refine d5 20 (.int .i64 ((i:Nat):Int)) ?_;go_frame;refine d5 21 (.int .i64 ((t:Nat):Int)) ?_;go_frame;refine d4 22 (g9 (.bool true) .lss (h:=aP _ f8)) ?_;go_frame;go_upto_region 9 with (fail);refine d3 ?_;refine d5 25 (.int .i64 ((i:Nat):Int)) ?_;go_frame;refine d5 26 (.slice la l.length lc) ?_;go_frame;refine d5 27 (.int .i64 ((i:Nat):Int)) ?_;go_frame;refine f7 28 (aw 29 _ _ _ rfl rfl rfl (yt _ _)) ?_;refine (iM _ l i wk (HL.p.jj K.p).i (by omega)).mono ?_;rintro e1 fG ⟨z,rfl,hb⟩;refine ⟨_,rfl,?_⟩;go_frame;replace PR:=U (PR.p.jj hb);replace K:=U (Rg.acc K.p hb);clear hb;refine d5 29 (.int .i64 ((t:Nat):Int)) ?_;go_frame;refine d5 30 (.int .i64 ((i:Nat):Int)) ?_;go_frame;refine d4 31 (g9 (.int .i64 (((t - i):Nat):Int)) .sub (h:=gC _ (by omega) (by omega))) ?_;go_frame
    refine f7 32 (aw 28 _ _ _ rfl rfl rfl (yu _ _)) ?_;refine (jP z (t - i) fG (by omega) (by omega)).mono ?_;rintro e1 fU ⟨r,rfl,hr,hb⟩
    have tM:i+r<t:=by omega
    clear hr;refine ⟨_,rfl,?_⟩;go_frame;replace PR:=U (PR.p.jj hb);replace K:=U (Rg.acc K.p hb);clear hb;refine d4 33 (g9 (.int .i64 (((i+r):Nat):Int)) .add (h:=bA _ (by omega) (by omega))) ?_;go_frame;refine d6 8 (.int .i64 (((i+r):Nat):Int)) ?_;go_frame;go_upto_region 10 with (fail);have dr:Below fU.heap.size fU fU.drew:=(Below.refl _ _).drew;replace PR:=U (fN.jj PR.p dr);replace K:=U (Rg.acc K.p dr);clear dr;have aq:Below fU.heap.size fU fU.drew:=(Below.refl _ _).drew;generalize c_ (fun _:Nat=>True) fU fU.drew=F1 at *;clear aq;refine Rg.Any.begin (S:=Rg.aG 13 (fun W:World=>W.cell? ⟨gb,i,none⟩=some (.int .i64 ((y.getD i 0:Nat):Int))/\W.cell? ⟨gb,i+r,none⟩=some (.int .i64 ((y.getD (i+r) 0:Nat):Int))) (fun _=>True)) mix ?_;generalize fU.drew=qd at *;have hS:∀ (l:Array Bool) W,(fun W:World=>W.cell? ⟨gb,i,none⟩=some (.int .i64 ((y.getD i 0:Nat):Int))/\W.cell? ⟨gb,i+r,none⟩=some (.int .i64 ((y.getD (i+r) 0:Nat):Int))) W->Rg.aG 13 (fun W:World=>W.cell? ⟨gb,i,none⟩=some (.int .i64 ((y.getD i 0:Nat):Int))/\W.cell? ⟨gb,i+r,none⟩=some (.int .i64 ((y.getD (i+r) 0:Nat):Int))) (fun _=>True) l W:=fun l W h=>⟨.inr h,trivial⟩
    have bW:∀ (l:Array Bool) W,l.getD 13 false=true->Rg.aG 13 (fun W:World=>W.cell? ⟨gb,i,none⟩=some (.int .i64 ((y.getD i 0:Nat):Int))/\W.cell? ⟨gb,i+r,none⟩=some (.int .i64 ((y.getD (i+r) 0:Nat):Int))) (fun _=>True) l W:=fun l W h=>⟨.inl h,trivial⟩;have hI:(fun W:World=>W.cell? ⟨gb,i,none⟩=some (.int .i64 ((y.getD i 0:Nat):Int))/\W.cell? ⟨gb,i+r,none⟩=some (.int .i64 ((y.getD (i+r) 0:Nat):Int))) qd:=⟨PR.p.2.1 i j3,PR.p.2.1 (i+r) tM⟩;refine d8 0 13 (.slice (some ⟨gb,0,none⟩) t t) 34 (hS _ _ hI) ?_;go_frame;refine d8 1 13 (.int .i64 ((i:Nat):Int)) 35 (hS _ _ hI) ?_;go_frame;refine d8 2 13 (.slice (some ⟨gb,0,none⟩) t t) 36 (hS _ _ hI) ?_;go_frame;refine d8 3 13 (.int .i64 (((i+r):Nat):Int)) 37 (hS _ _ hI) ?_;go_frame;refine d8 4 13 (.slice (some ⟨gb,0,none⟩) t t) 38 (hS _ _ hI) ?_;go_frame
    refine d8 5 13 (.int .i64 (((i+r):Nat):Int)) 39 (hS _ _ hI) ?_;go_frame;refine d7 6 13 (.pointer (some ⟨gb,0+(i+r),none⟩)) 40 rfl rfl (Rg.aA cj _ _ rfl rfl gb (0) (t) t ((i+r)) rfl rfl tM) (hS _ _ hI) ?_;go_frame;refine i7 7 13 (.int .i64 (((y.getD (i+r) 0):Nat):Int)) 41 rfl rfl (i9 ⟨gb,0+(i+r),none⟩ (fun W hW=>ah (by rw [Nat.zero_add]; exact hW.2))) (hS _ _ hI) ?_;go_frame;refine d8 8 13 (.slice (some ⟨gb,0,none⟩) t t) 42 (hS _ _ hI) ?_;go_frame;refine d8 9 13 (.int .i64 ((i:Nat):Int)) 43 (hS _ _ hI) ?_;go_frame;refine d7 10 13 (.pointer (some ⟨gb,0+i,none⟩)) 44 rfl rfl (Rg.aA cj _ _ rfl rfl gb (0) (t) t (i) rfl rfl j3) (hS _ _ hI) ?_;go_frame;refine i7 11 13 (.int .i64 (((y.getD i 0):Nat):Int)) 45 rfl rfl (i9 ⟨gb,0+i,none⟩ (fun W hW=>ah (by rw [Nat.zero_add]; exact hW.1))) (hS _ _ hI) ?_;go_frame
    refine d7 12 13 (.pointer (some ⟨gb,0+i,none⟩)) 46 rfl rfl (Rg.aA cj _ _ rfl rfl gb (0) (t) t (i) rfl rfl j3) (hS _ _ hI) ?_;go_frame;refine Rg.Any.one (i:=13) (by kernel_rfl) (Rg.Any.cA none rfl rfl rfl (Rg.ai _ _ _ rfl _ rfl _ rfl (bI _ (by rw [Nat.zero_add]; exact PR.p.2.1 i j3) (PR.p.2.2 _))) (bW _ _ rfl) ?_);go_frame;refine d7 14 13 (.pointer (some ⟨gb,0+(i+r),none⟩)) 47 rfl rfl (Rg.aA cj _ _ rfl rfl gb (0) (t) t ((i+r)) rfl rfl tM) (bW _ _ rfl) ?_;go_frame;obtain ⟨u2,tN⟩:∃ u,(qd.setCell ⟨gb,0+i,none⟩ (.int .i64 ((y.getD (i+r) 0:Nat):Int))).cell? ⟨gb,0+(i+r),none⟩=some u:=⟨_,by rw [Nat.zero_add,Nat.zero_add]; exact (bV.set PR.p i _ j3).2.1 (i+r) tM⟩;refine Rg.Any.one (i:=15) (by kernel_rfl) (Rg.Any.cA none rfl rfl rfl (Rg.ai _ _ _ rfl _ rfl _ rfl (bI _ tN (by rw [World.frozen?_setCell]; exact PR.p.2.2 _))) (bW _ _ rfl) ?_)
    go_frame;refine Rg.Any.done (by kernel_rfl) ?_ _;clear bW;clear hS hI;have Ei:=PR.p.swap j3 tM;have vd:=(K.p.setCell (p:=⟨gb,i,none⟩) Hw.p (.int .i64 ((y.getD (i+r) 0:Nat):Int))).setCell (p:=⟨gb,i+r,none⟩) Hw.p (.int .i64 ((y.getD i 0:Nat):Int));have e0:0+i=i:=Nat.zero_add i;have e1:0+(i+r)=i+r:=Nat.zero_add _;rw [e0,e1];generalize (qd.setCell ⟨gb,i,none⟩ (.int .i64 ((y.getD (i+r) 0:Nat):Int))).setCell ⟨gb,i+r,none⟩ (.int .i64 ((y.getD i 0:Nat):Int))=dT at *;have UB:=U Ei;have Mg:=U (Jd GY.p j3 tM);have K3:=U vd;clear Ei vd e0 e1 PR K;go_upto_region 8 with (fail);refine d3 ?_;refine d5 23 (.int .i64 ((i:Nat):Int)) ?_;go_frame;refine d4 24 (g9 (.int .i64 (((i+1):Nat):Int)) .add (h:=bA _ (by omega) (by omega))) ?_;go_frame;refine d6 7 (.int .i64 (((i+1):Nat):Int)) ?_;go_frame
    go_wp2
    go_roundw
    case rel=>exact ⟨i+1,_,by go_num,j3,UB,Mg,K3⟩
    case measure=>simp [intOf]; omega
theorem LM {s:List Nat} {i:Nat} (h:s.Pairwise (· < ·)) (hi:∀ y∈s,y<i):(s++[i]).Pairwise (· < ·)/\∀ y∈s++[i],y<i+1:=by
 refine ⟨List.pairwise_append.2 ⟨h,List.pairwise_singleton _ _,fun a ha b hb=>by rw [List.mem_singleton.1 hb]; exact hi a ha⟩,fun y hy=>?_⟩
 rcases List.mem_append.1 hy with hy | hy
 ·exact Nat.lt_succ_of_lt (hi y hy)
 ·rw [List.mem_singleton.1 hy]; exact Nat.lt_succ_self _
theorem zB (hn:n<=64) (lv:Value) (l:List Int) (w:World) (h:Rg.cZ maxLen w lv l) :
  Calls Tryz.prog 27 #[.int .i64 ((n:Nat):Int),lv] w fun e w'=>∃ v s,e=.returned v/\s.Pairwise (· < ·)/\(∀ y∈s,y<n)/\s.length<=n/\gG w.heap.size w' v (Ma.ag s)/\Below w.heap.size w w':=by
 obtain ⟨la,lc,rfl,-⟩:=h.shape;have HL:=U (IB.mk h);have K:=U (Below.refl w.heap.size w);clear h
 go_enter Tryz.func27,Tryz.ntmps27
 go_upto_region 0 with (fail);refine d3 ?_;refine d6 4 (.slice none 0 0) ?_;go_frame;go_upto_region 1 with (fail);refine d3 ?_;refine d6 5 (.slice none 0 0) ?_;go_frame;go_upto_region 2 with (fail);refine d3 ?_;refine d6 6 (.int .i64 ((0:Nat):Int)) ?_;go_frame;have RO:=U (gG.nil w.heap.size w);have PW:=U (show ([]:List Nat).Pairwise (· < ·)/\(∀ y∈([]:List Nat),y<0)/\([]:List Nat).length<=0 from ⟨.nil,fun y hy=>by simp at hy,Nat.le_refl _⟩);go_wp2
 go_loopw [5,6] (fun ov iv wr=>∃ (k:Nat) (s:List Nat),iv=.int .i64 ((k:Nat):Int)/\k<=n/\Hid (s.Pairwise (· < ·)/\(∀ y∈s,y<k)/\s.length<=k)/\Hid (gG w.heap.size wr ov (Ma.ag s))/\Hid (Below w.heap.size w wr)) (fun _ iv _=>n - (intOf iv).toNat)
 case atStart=>exact ⟨0,[],rfl,Nat.zero_le _,PW,RO,K⟩
 case round =>
  clear RO PW K;obtain ⟨k,s,rfl,hk,PW,RO,K⟩:=hrel;generalize wr=wA at *;obtain ⟨oa,oc,dO⟩:=RO.p.shape;rw [Ma.ar] at dO;subst dO;have Ie:=U (Ma.ar s)
  by_cases aE:k<n
  case neg =>
   obtain rfl:k=n:=by omega
   go_upto_region 3 with (fail);refine d3 ?_;refine d5 7 (.int .i64 ((k:Nat):Int)) ?_;go_frame;refine d5 8 (.int .i64 ((k:Nat):Int)) ?_;go_frame;refine d4 9 (g9 (.bool false) .lss (h:=aP _ f9)) ?_;go_frame;go_upto_region 7 with (fail);refine d3 ?_;refine d5 21 (.slice oa s.length oc) ?_;go_frame;refine d6 4 (.slice oa s.length oc) ?_;go_frame;go_wp2;go_ret;exact ⟨_,s,rfl,PW.p.1,PW.p.2.1,PW.p.2.2,RO.p,K.p⟩
  case pos =>
   skip
   go_upto_region 3 with (fail);refine d3 ?_;refine d5 7 (.int .i64 ((k:Nat):Int)) ?_;go_frame;refine d5 8 (.int .i64 ((n:Nat):Int)) ?_;go_frame;refine d4 9 (g9 (.bool true) .lss (h:=aP _ f8)) ?_;go_frame;go_upto_region 5 with (fail);refine d3 ?_;refine d5 12 (.slice la l.length lc) ?_;go_frame;refine d5 13 (.int .i64 ((k:Nat):Int)) ?_;go_frame;refine f7 14 (aw 29 _ _ _ rfl rfl rfl (yt _ _)) ?_;refine (iM _ l k wA (HL.p.jj K.p).i (by omega)).mono ?_;rintro e1 cW ⟨z,rfl,hb⟩;refine ⟨_,rfl,?_⟩;go_frame;replace RO:=U (RO.p.jj hb);replace K:=U (Rg.acc K.p hb);clear hb;refine f7 15 (aw 28 _ _ _ rfl rfl rfl (yu _ _)) ?_;refine (jP z 2 cW (by omega) (by omega)).mono ?_;rintro e1 eY ⟨r,rfl,hr,hb⟩;have HR:=U hr;clear hr;obtain ⟨b,dG⟩:∃ b,Hid (decide (((r:Nat):Int)=((1:Nat):Int))=b):=⟨_,U rfl⟩
   refine ⟨_,rfl,?_⟩;go_frame;replace RO:=U (RO.p.jj hb);replace K:=U (Rg.acc K.p hb);clear hb;refine d4 16 (g9 (.bool b) .eql (h:=fA _ dG.p)) ?_;go_frame
   cases b
   case true =>
    skip
    go_upto_region 6 with (fail);refine d3 ?_;refine d5 17 (.slice oa s.length oc) ?_;go_frame;refine d5 18 (.int .i64 ((k:Nat):Int)) ?_;go_frame;refine d4 19 (Rg.aC _ _ _ rfl (.int .i64 ((k:Nat):Int)) rfl (rK eY _)) ?_;go_frame;obtain ⟨a9,c9,X9,r1,r2,r3⟩:=RO.p.push K.p.size ((k:Nat):Int) (by rw [Ie.p]; have:=PW.p.2.2; omega) 26;rw [Ie.p] at r1 r2;refine d4 20 (Rg.bu _ _ _ rfl rfl rfl r1) ?_;go_frame;refine d6 5 (.slice a9 (s.length+1) c9) ?_;go_frame;go_upto_region 4 with (fail);refine d3 ?_;refine d5 10 (.int .i64 ((k:Nat):Int)) ?_;go_frame;refine d4 11 (g9 (.int .i64 (((k+1):Nat):Int)) .add (h:=bA _ (by omega) (by omega))) ?_;go_frame;refine d6 6 (.int .i64 (((k+1):Nat):Int)) ?_;go_frame
    have MT:=U (show gG w.heap.size X9 (.slice a9 (s.length+1) c9) (Ma.ag (s++[k])) by
     unfold Ma.ag;rw [List.map_append]
     exact r2)
    have KX:=U (r3 (Nat.le_refl _) K.p);have VZ:=LM PW.p.1 PW.p.2.1;have V0:=U (show (s++[k]).Pairwise (· < ·)/\(∀ y∈s++[k],y<k+1)/\(s++[k]).length<=k+1 from ⟨VZ.1,VZ.2,by have:=PW.p.2.2; simp; omega⟩);clear r1 r2 r3 RO K Ie VZ;go_wp2
    go_roundw
    case rel=>exact ⟨k+1,_,by go_num,aE,V0,MT,KX⟩
    case measure=>simp [intOf]; omega
   case false =>
    skip
    go_upto_region 4 with (fail);refine d3 ?_;refine d5 10 (.int .i64 ((k:Nat):Int)) ?_;go_frame;refine d4 11 (g9 (.int .i64 (((k+1):Nat):Int)) .add (h:=bA _ (by omega) (by omega))) ?_;go_frame;refine d6 6 (.int .i64 (((k+1):Nat):Int)) ?_;go_frame;have V0:=U (show s.Pairwise (· < ·)/\(∀ y∈s,y<k+1)/\s.length<=k+1 from ⟨PW.p.1,fun y hy=>Nat.lt_succ_of_lt (PW.p.2.1 y hy),Nat.le_succ_of_le PW.p.2.2⟩);go_wp2
    go_roundw
    case rel=>exact ⟨k+1,_,by go_num,aE,V0,RO,K⟩
    case measure=>simp [intOf]; omega

theorem b_.bX {l:List (List Nat)} (h:b_ B F M W v l) (hb:Below W.heap.size W W'):b_ B F M W' v l:=h.kp (N:=fun _=>False) (Rg.Kp.az hb) (fun _ _=>id) (fun _ _=>id)
theorem S7 {b:Nat} {x y:Value} (hb:Below w.heap.size w W) (hle:w.heap.size<=b):Below w.heap.size w (((W.setCell ⟨b,0,none⟩ x).setCell ⟨b,1,none⟩ y).setCell ⟨b,2,none⟩ z):=((hb.setCell (p:=⟨b,0,none⟩) hle x).setCell (p:=⟨b,1,none⟩) hle y).setCell (p:=⟨b,2,none⟩) hle z

theorem V6 (args:Array Value) (w:World):(callFunc 64 args).run Tryz.prog w=.ok (.enter 64 args) w:=by kernel_rfl
theorem V7 (args:Array Value) (w:World):(callFunc 65 args).run Tryz.prog w=.ok (.enter 65 args) w:=by kernel_rfl
structure Gq (W:World) (b:Nat) (x y:Value):Prop where
 c0:W.cell? ⟨b,0,none⟩=some x
 c1:W.cell? ⟨b,1,none⟩=some y
 f0:W.frozen? ⟨b,0,none⟩=false
 f1:W.frozen? ⟨b,1,none⟩=false
 lt:b<W.heap.size
theorem Gq.new (w:World) (x y:Value) (t:TypeId):Gq (w.alloc (.cells #[x,y] t)) w.heap.size x y :=
 ⟨by rw [Rg.aI]; rfl,by rw [Rg.aI]; rfl,cp _ _ _ 0 _,cp _ _ _ 0 _,by simp⟩
theorem Gq.kp {b:Nat} {x y:Value} (h:Gq W b x y) (hk:Rg.Kp M W W') (hM:¬ M b):Gq W' b x y:=by
 have hb:=hk.block b h.lt hM;exact ⟨(World.cell?_of_block (a:=⟨b,0,none⟩) hb).trans h.c0,(World.cell?_of_block (a:=⟨b,1,none⟩) hb).trans h.c1,(World.frozen?_of_block (a:=⟨b,0,none⟩) hb).trans h.f0,(World.frozen?_of_block (a:=⟨b,1,none⟩) hb).trans h.f1,Nat.lt_of_lt_of_le h.lt hk.size⟩
theorem Gq.jj {b:Nat} {x y:Value} (h:Gq W b x y) (hb:Below W.heap.size W W'):Gq W' b x y:=h.kp (M:=fun _=>False) (Rg.Kp.az hb) id
theorem Gq.set {b:Nat} {x y:Value} (h:Gq W b x y) (u v:Value):Gq ((W.setCell ⟨b,0,none⟩ u).setCell ⟨b,1,none⟩ v) b u v:=by
 obtain ⟨g1,g2,-⟩:=wm (w:=W) u v h.c0 h.c1 (Below.refl 0 W) (Nat.zero_le _);exact ⟨g1,g2,by rw [World.frozen?_setCell,World.frozen?_setCell]; exact h.f0,by rw [World.frozen?_setCell,World.frozen?_setCell]; exact h.f1,by simpa using h.lt⟩
theorem oZ (W:World) (b:Nat) (x y:Value):Rg.Kp (fun k=>k=b) W ((W.setCell ⟨b,0,none⟩ x).setCell ⟨b,1,none⟩ y):=by
 have k1:Rg.Kp (fun k=>k=b) W (W.setCell ⟨b,0,none⟩ x):=Rg.Kp.aL rfl;have k2:Rg.Kp (fun k=>k=b) (W.setCell ⟨b,0,none⟩ x) ((W.setCell ⟨b,0,none⟩ x).setCell ⟨b,1,none⟩ y):=Rg.Kp.aL rfl;exact Rg.Kp.trans k1 k2 (fun _ _ e=>e)
structure II (B:Nat) (W:World) (v:Value) (ll:List (List Int)):Prop where
 f:Rg.aH (fun z=>B<=z) W v ll
theorem II.kp {B:Nat} {M:Nat->Prop} {W W':World} {v:Value} {ll:List (List Int)} (h:II B W v ll) (hk:Rg.Kp M W W') (hM:∀ z,M z->z<B):II B W' v ll:=⟨h.f.kp hk fun z hz e=>by have:=hM z e; omega⟩
theorem II.jj (h:II B W v ll) (hb:Below W.heap.size W W'):II B W' v ll:=h.kp (M:=fun _=>False) (Rg.Kp.az hb) (fun _=>False.elim)
structure Cg (B:Nat) (W:World) (ov rv:Value) (OO:List (List Int)) (RR:List (List (List Int))):Prop where
 o:Rg.aH (fun z=>B<=z) W ov OO
 r:bf (fun z=>B<=z) W rv RR
theorem Cg.kp {B:Nat} {M:Nat->Prop} {W W':World} {ov rv:Value} {OO:List (List Int)} {RR:List (List (List Int))} (h:Cg B W ov rv OO RR) (hk:Rg.Kp M W W') (hM:∀ z,M z->z<B):Cg B W' ov rv OO RR:=⟨h.o.kp hk fun z hz e=>by have:=hM z e; omega,h.r.kp hk fun z hz e=>by have:=hM z e; omega⟩
theorem Cg.jj (h:Cg B W ov rv OO RR) (hb:Below W.heap.size W W'):Cg B W' ov rv OO RR:=h.kp (M:=fun _=>False) (Rg.Kp.az hb) (fun _=>False.elim)
theorem Cg.r' (h:Cg B W ov rv OO RR):bg W ov rv OO RR:=⟨aH.rows h.o,bf.rows h.r⟩
theorem dm.xS {cv:Value} (h:dm B W ((d:Nat):Int) (gs.map Ma.ag) cv 0):∃ oa on oc ra rn rc O R,cv=.agg #[.int .i64 ((d:Nat):Int),.slice oa on oc,.slice ra rn rc]/\Cg B W (.slice oa on oc) (.slice ra rn rc) (O.map Ma.ag) (R.map (List.map Ma.ag))/\ak d (Gr d (·∈gs)) O R:=by
 rcases h with ⟨h0,_⟩ | ⟨_,n,gs',h1,h2,_,_,ov,rv,O,R,rfl,h3,h4,h5⟩
 ·exact absurd rfl h0
 ·obtain rfl:d=n:=by omega
  have:=cH h2;subst this;obtain ⟨oa,oc,rfl,-⟩:=(aH.rows h3).shape;obtain ⟨ra,rc,rfl⟩:=(bf.rows h4).shape;exact ⟨_,_,_,_,_,_,O,R,rfl,⟨h3,h4⟩,h5⟩
structure Ff (b5 b6:Nat) (x y c0 c1 c2:Value) (W:World):Prop where
 g:Gq W b5 x y
 t:cq W b6 c0 c1 c2
theorem Ff.set {b b5 b6:Nat} {x y c0 c1 c2:Value} (h:Ff b5 b6 x y c0 c1 c2 W) (u v:Value) (h5:b<b5) (h6:b<b6):Ff b5 b6 x y c0 c1 c2 ((W.setCell ⟨b,0,none⟩ u).setCell ⟨b,1,none⟩ v) :=
 ⟨h.g.kp (oZ W b u v) (fun e=>by omega),h.t.kp (oZ W b u v) (fun e=>by omega)⟩
theorem Ch {fn:Func} {p q u:Go.Tmp} (h:fn.results=#[.cell p 43,.cell q 25,.tmp u]) (tmps:Array Value) {b1 b2:Nat} {x y a b c:Value} (hp:tmps.getD p undef=.pointer (some ⟨b1,0,none⟩)) (hq:tmps.getD q undef=.pointer (some ⟨b2,0,none⟩)) (hu:tmps.getD u undef=v)
  (h1:Gq w b1 x y) (h2:cq w b2 a b c):(results fn tmps).run Tryz.prog w=.ok (.tuple #[.agg #[x,y],.agg #[a,b,c],v]) w:=by
 have sR:tmps[p]?.getD undef=.pointer (some ⟨b1,0,none⟩):=by simpa using hp
 have J3:tmps[q]?.getD undef=.pointer (some ⟨b2,0,none⟩):=by simpa using hq
 have eB:tmps[u]?.getD undef=v:=by simpa using hu
 have e1:=je h1.c0 h1.c1;have e2:=mC h2;simp [results,h,sR,J3,eB,asAddr,e1,e2,Result.andThen]
def Fg (w:World) (e:Ending) (w':World):Prop:=∃ (d:Nat) (ga:Option Addr) (gn gc:Nat) (oa:Option Addr) (on oc:Nat) (ra:Option Addr) (rn rc:Nat) (gs:List (List Nat)) (O:List (List Nat)) (R:List (List (List Nat))),e=.returned (.tuple #[.agg #[.int .i64 ((d:Nat):Int),.slice ga gn gc],.agg #[.int .i64 ((d:Nat):Int),.slice oa on oc,.slice ra rn rc],.int .i64 0])/\(1<=d/\d<=6)/\(gs.length<=3/\∀ s∈gs,Gd d s)/\Rg.Rows w' (.slice ga gn gc) (gs.map Ma.ag)/\bg w' (.slice oa on oc) (.slice ra rn rc) (O.map Ma.ag) (R.map (List.map Ma.ag))/\ak d (Gr d (·∈gs)) O R/\Below w.heap.size w w'
theorem Ci (lv:Value) (l:List Int) (w:World) (h:Rg.cZ maxLen w lv l):Calls Tryz.prog 25 #[lv] w (Fg w):=by
 obtain ⟨la,lc,rfl,-⟩:=h.shape;have HL:=U (IB.mk h);have K:=U (Below.refl w.heap.size w);clear h
 go_enter Tryz.func25,Tryz.ntmps25
 go_upto_region 0 with (fail);refine d3 ?_;have Ro:=Gq.new w (.int .i64 0) (.slice none 0 0) 43;refine d4 2 (iz rfl) ?_;go_frame;have hb:=(Below.refl w.heap.size w).alloc (Nat.le_refl _) (.cells #[.int .i64 0,.slice none 0 0] 43);generalize w.alloc (.cells #[.int .i64 0,.slice none 0 0] 43)=w1 at *;replace HL:=U (HL.p.jj hb);replace K:=U (Rg.acc K.p hb);clear hb;have R2:=U Ro;clear Ro;have Fh:=U R2.p.lt;have cD:=cq.new w1 (.int .i64 0) (.slice none 0 0) (.slice none 0 0);refine d4 3 (bw rfl) ?_;go_frame;have hb:=(Below.refl w1.heap.size w1).alloc (Nat.le_refl _) (.cells #[.int .i64 0,.slice none 0 0,.slice none 0 0] 25);generalize w1.alloc (.cells #[.int .i64 0,.slice none 0 0,.slice none 0 0] 25)=w2 at *;replace HL:=U (HL.p.jj hb);replace R2:=U (R2.p.jj hb);replace K:=U (Rg.acc K.p hb);clear hb;have R3:=U cD
 clear cD;refine d6 4 (.int .i64 ((0:Nat):Int)) ?_;go_frame;go_upto_region 1 with (fail);refine d3 ?_;refine d5 8 (.slice la l.length lc) ?_;go_frame;have Zq:=U R3.p.lt;refine f7 9 (aw 64 _ _ _ rfl rfl rfl (V6 _ _)) ?_;refine (Hj _ l 6 w2 HL.p.i (by decide) (by decide)).mono ?_;rintro e1 w3 ⟨d,gv,gs,rfl,iG,oz,gD,iO,mE,hb⟩;obtain ⟨ga,gc,rfl,-⟩:=(aH.rows mE).shape;obtain ⟨gn,uW⟩:∃ n,Hid ((gs.map Ma.ag).length=n):=⟨_,U rfl⟩;rw [uW.p] at mE ⊢;have HD:=U (show 1<=d/\d<=6 from ⟨iG,oz⟩);have tq:=U (show gs.length<=3/\∀ s∈gs,Gd d s from ⟨gD,iO⟩);have rJ:=U (Io (gs:=gs) iG (by omega) (by omega) iO);clear iG oz gD iO;refine ⟨_,rfl,?_⟩;go_frame;replace HL:=U (HL.p.jj hb);replace R2:=U (R2.p.jj hb);replace R3:=U (R3.p.jj hb);replace K:=U (Rg.acc K.p hb);clear hb
 have HG:=U (II.mk mE);have Zr:=U R2.p.lt;have aap:=U R3.p.lt;refine d4 5 (iz rfl) ?_;go_frame;refine Rg.aD none rfl rfl (Rg.ai _ _ _ rfl _ rfl _ rfl (im _ _ _ _ (Gq.new w3 (.int .i64 0) (.slice none 0 0) 43).c0 (Gq.new w3 (.int .i64 0) (.slice none 0 0) 43).c1 (Gq.new w3 (.int .i64 0) (.slice none 0 0) 43).f0 (Gq.new w3 (.int .i64 0) (.slice none 0 0) 43).f1)) ?_;go_frame;have Zs:=(Gq.new w3 (.int .i64 0) (.slice none 0 0) 43).set (.int .i64 ((d:Nat):Int)) (.slice ga gn gc);have hb:=(((Below.refl w3.heap.size w3).alloc (Nat.le_refl _) (.cells #[.int .i64 0,.slice none 0 0] 43)).setCell (p:=⟨w3.heap.size,0,none⟩) (Nat.le_refl _) (.int .i64 ((d:Nat):Int))).setCell (p:=⟨w3.heap.size,1,none⟩) (Nat.le_refl _) (.slice ga gn gc);generalize ((w3.alloc (.cells #[.int .i64 0,.slice none 0 0] 43)).setCell ⟨w3.heap.size,0,none⟩ (.int .i64 ((d:Nat):Int))).setCell ⟨w3.heap.size,1,none⟩ (.slice ga gn gc)=w4 at *
 replace HL:=U (HL.p.jj hb);replace R2:=U (R2.p.jj hb);replace R3:=U (R3.p.jj hb);replace HG:=U (HG.p.jj hb);replace K:=U (Rg.acc K.p hb);clear hb;have G5:=U Zs;clear Zs;clear mE;go_upto_region 2 with (fail);refine d3 ?_;refine d4 11 (g8 (.agg #[.int .i64 ((d:Nat):Int),.slice ga gn gc]) ⟨w3.heap.size,0,none⟩ (je G5.p.c0 G5.p.c1)) ?_;go_frame;have q8:=U R3.p.lt;refine f7 12 (aF 65 _ _ rfl rfl (V7 _ _)) ?_;refine (RD _ _ (gs.map Ma.ag) w4 (aH.rows HG.p.f)).mono ?_;rintro e1 w5 ⟨cv,rfl,hcv,hb⟩;rw [rJ.p] at hcv ⊢;obtain ⟨oa,on,oc,ra,rn,rc,O,R,rfl,Zt,cK⟩:=hcv.xS;have ew:=U cK;clear cK hcv;refine ⟨_,rfl,?_⟩;go_frame;replace HL:=U (HL.p.jj hb);replace R2:=U (R2.p.jj hb);replace R3:=U (R3.p.jj hb);replace HG:=U (HG.p.jj hb);replace G5:=U (G5.p.jj hb)
 replace K:=U (Rg.acc K.p hb);clear hb;have HC:=U Zt;refine d5 10 (.tuple #[(.agg #[.int .i64 ((d:Nat):Int),.slice oa on oc,.slice ra rn rc]),.int .i64 0]) ?_;go_frame;refine d4 13 (i6 ((.agg #[.int .i64 ((d:Nat):Int),.slice oa on oc,.slice ra rn rc]))) ?_;go_frame;refine d4 14 (i6 (.int .i64 0)) ?_;go_frame;have Zu:=U R2.p.lt;have aaq:=U R3.p.lt;refine d4 6 (bw rfl) ?_;go_frame;refine Rg.aD none rfl rfl (Rg.ai _ _ _ rfl _ rfl _ rfl (aW _ _ _ _ _ _ _ (cq.new w5 (.int .i64 0) (.slice none 0 0) (.slice none 0 0)))) ?_;go_frame;have jH:=(cq.new w5 (.int .i64 0) (.slice none 0 0) (.slice none 0 0)).set (.int .i64 ((d:Nat):Int)) (.slice oa on oc) (.slice ra rn rc);have hb:=((((Below.refl w5.heap.size w5).alloc (Nat.le_refl _) (.cells #[.int .i64 0,.slice none 0 0,.slice none 0 0] 25)).setCell (p:=⟨w5.heap.size,0,none⟩) (Nat.le_refl _) (.int .i64 ((d:Nat):Int))).setCell (p:=⟨w5.heap.size,1,none⟩) (Nat.le_refl _) (.slice oa on oc)).setCell (p:=⟨w5.heap.size,2,none⟩) (Nat.le_refl _) (.slice ra rn rc)
 generalize (((w5.alloc (.cells #[.int .i64 0,.slice none 0 0,.slice none 0 0] 25)).setCell ⟨w5.heap.size,0,none⟩ (.int .i64 ((d:Nat):Int))).setCell ⟨w5.heap.size,1,none⟩ (.slice oa on oc)).setCell ⟨w5.heap.size,2,none⟩ (.slice ra rn rc)=w6 at *;replace HL:=U (HL.p.jj hb);replace R2:=U (R2.p.jj hb);replace R3:=U (R3.p.jj hb);replace HG:=U (HG.p.jj hb);replace G5:=U (G5.p.jj hb);replace HC:=U (HC.p.jj hb);replace K:=U (Rg.acc K.p hb);clear hb;have T6:=U jH;clear jH;refine d6 7 (.int .i64 0) ?_;go_frame;clear Zt;have yO:=U (show w.heap.size<=w1.heap.size from Nat.le_of_lt Fh.p);go_upto_region 3 with (fail);have dr:Below w6.heap.size w6 w6.drew:=(Below.refl _ _).drew;replace R2:=U (R2.p.jj dr);replace R3:=U (R3.p.jj dr);replace G5:=U (G5.p.jj dr);replace T6:=U (T6.p.jj dr);replace HG:=U (HG.p.jj dr)
 replace HC:=U (HC.p.jj dr);replace K:=U (Rg.acc K.p dr);clear dr;have aq:Below w6.heap.size w6 w6.drew:=(Below.refl _ _).drew;generalize c_ (fun _:Nat=>True) w6 w6.drew=F1 at *;clear aq;refine Rg.Any.begin (S:=Rg.aG 4 (fun W:World=>Ff w3.heap.size w5.heap.size (.int .i64 ((d:Nat):Int)) (.slice ga gn gc) (.int .i64 ((d:Nat):Int)) (.slice oa on oc) (.slice ra rn rc) W) (fun _=>True)) mix ?_;generalize w6.drew=w7 at *;have hS:∀ (l:Array Bool) W,(fun W:World=>Ff w3.heap.size w5.heap.size (.int .i64 ((d:Nat):Int)) (.slice ga gn gc) (.int .i64 ((d:Nat):Int)) (.slice oa on oc) (.slice ra rn rc) W) W->Rg.aG 4 (fun W:World=>Ff w3.heap.size w5.heap.size (.int .i64 ((d:Nat):Int)) (.slice ga gn gc) (.int .i64 ((d:Nat):Int)) (.slice oa on oc) (.slice ra rn rc) W) (fun _=>True) l W:=fun l W h=>⟨.inr h,trivial⟩;have bW:∀ (l:Array Bool) W,l.getD 4 false=true->Rg.aG 4 (fun W:World=>Ff w3.heap.size w5.heap.size (.int .i64 ((d:Nat):Int)) (.slice ga gn gc) (.int .i64 ((d:Nat):Int)) (.slice oa on oc) (.slice ra rn rc) W) (fun _=>True) l W:=fun l W h=>⟨.inl h,trivial⟩
 have hI:(fun W:World=>Ff w3.heap.size w5.heap.size (.int .i64 ((d:Nat):Int)) (.slice ga gn gc) (.int .i64 ((d:Nat):Int)) (.slice oa on oc) (.slice ra rn rc) W) w7:=⟨G5.p,T6.p⟩;refine i7 0 4 (.agg #[.int .i64 ((d:Nat):Int),.slice ga gn gc]) 15 rfl rfl (i9 ⟨w3.heap.size,0,none⟩ (fun W hW=>je hW.g.c0 hW.g.c1)) (hS _ _ hI) ?_;go_frame;refine i7 1 4 ((.agg #[.int .i64 ((d:Nat):Int),.slice oa on oc,.slice ra rn rc])) 16 rfl rfl (i9 ⟨w5.heap.size,0,none⟩ (fun W hW=>aM hW.t.c0 hW.t.c1 hW.t.c2)) (hS _ _ hI) ?_;go_frame;refine d8 2 4 (.int .i64 0) 17 (hS _ _ hI) ?_;go_frame;have AX:=(hI.set (b:=w.heap.size) (.int .i64 ((d:Nat):Int)) (.slice ga gn gc) Zr.p Zu.p);refine Rg.Any.one (i:=3) (by kernel_rfl) (Rg.Any.cA none rfl rfl rfl (Rg.ai _ _ _ rfl _ rfl _ rfl (im _ _ _ _ R2.p.c0 R2.p.c1 R2.p.f0 R2.p.f1)) (hS _ _ AX) ?_)
 go_frame;have Zv:=U (R3.p.kp (oZ w7 w.heap.size (.int .i64 ((d:Nat):Int)) (.slice ga gn gc)) (fun e=>Nat.lt_irrefl _ (e▸Fh.p)));refine Rg.Any.one (i:=4) (by kernel_rfl) (Rg.Any.cA none rfl rfl rfl (Rg.ai _ _ _ rfl _ rfl _ rfl (aW _ _ _ _ _ _ _ Zv.p)) (bW _ _ rfl) ?_);go_frame;refine d7 5 4 (.int .i64 0) 4 rfl rfl (.inl ⟨rfl,fun w _=>Rg.cw (v:=.int .i64 0) _ rfl rfl⟩) (bW _ _ rfl) ?_;go_frame;refine Rg.Any.done (by kernel_rfl) ?_ _;clear bW;clear hS AX;have k1:=oZ w7 w.heap.size (.int .i64 ((d:Nat):Int)) (.slice ga gn gc);have k2:=fQ ((w7.setCell ⟨w.heap.size,0,none⟩ (.int .i64 ((d:Nat):Int))).setCell ⟨w.heap.size,1,none⟩ (.slice ga gn gc)) w1.heap.size (.int .i64 ((d:Nat):Int)) (.slice oa on oc) (.slice ra rn rc);have q2:=(R2.p.set (.int .i64 ((d:Nat):Int)) (.slice ga gn gc)).kp k2 (fun e=>Nat.lt_irrefl _ (e▸Fh.p))
 have q3:=Zv.p.set (.int .i64 ((d:Nat):Int)) (.slice oa on oc) (.slice ra rn rc);have qg:=(HG.p.kp k1 (fun z e=>by have:=Zq.p; have:=Fh.p; omega)).kp k2 (fun z e=>by have:=Zq.p; omega);have qc:=(HC.p.kp k1 (fun z e=>by have:=q8.p; have:=Fh.p; omega)).kp k2 (fun z e=>by have:=q8.p; omega);have qk:=S7 (x:=.int .i64 ((d:Nat):Int)) (y:=.slice oa on oc) (z:=.slice ra rn rc) ((K.p.setCell (p:=⟨w.heap.size,0,none⟩) (Nat.le_refl _) (.int .i64 ((d:Nat):Int))).setCell (p:=⟨w.heap.size,1,none⟩) (Nat.le_refl _) (.slice ga gn gc)) yO.p;clear k1 k2;generalize ((((w7.setCell ⟨w.heap.size,0,none⟩ (.int .i64 ((d:Nat):Int))).setCell ⟨w.heap.size,1,none⟩ (.slice ga gn gc)).setCell ⟨w1.heap.size,0,none⟩ (.int .i64 ((d:Nat):Int))).setCell ⟨w1.heap.size,1,none⟩ (.slice oa on oc)).setCell ⟨w1.heap.size,2,none⟩ (.slice ra rn rc)=dT at *
 have lY:=U (show Fg w (.returned (.tuple #[.agg #[.int .i64 ((d:Nat):Int),.slice ga gn gc],.agg #[.int .i64 ((d:Nat):Int),.slice oa on oc,.slice ra rn rc],.int .i64 0])) dT from ⟨d,_,_,_,_,_,_,_,_,_,gs,O,R,rfl,HD.p,tq.p,aH.rows qg.f,qc.r',ew.p,qk⟩);go_wp2;exact bodyPost_ret (Ch (p:=2) (q:=3) (u:=4) rfl _ rfl rfl rfl q2 q3) rfl lY.p

section
variable {N:Nat} {gs:List (List Nat)} (hg:∀ s∈gs,Gd N s) {O:List (List Nat)} {R:List (List (List Nat))} (hc:ak N (Gr N (·∈gs)) O R)
include hg hc
theorem iX.eN {Pb:List Nat->Bool} {e:Ending} (h:iX ck (((N:Nat):Int),O.map Ma.ag,R.map (List.map Ma.ag)) Pb w e w') (h0:ck=0) {g:List Nat} (hh:Gr N (·∈gs) g) (hp:Pb g=true) :
  ∃ a m c p,e=.returned (.tuple #[.slice a m c,.int .i64 0])/\Rg.NP w' (.slice a m c) p/\(Gr N (·∈gs) p/\Pb p=true/\cQ (Ma.ag g) (Ma.ag p)=false)/\Below w.heap.size w w':=by
 obtain ⟨hb,⟨h1,_⟩ | ⟨_,N',O',R',⟨e1,_,_,e2,e3,_⟩,hf⟩⟩:=h
 ·exact absurd h0 h1
 ·have O7:N=N':=by simp only at e1; omega
  subst O7;have Ku:O=O':=cH e2;subst Ku
  have O8:R=R':=by
   have:=congrArg (List.map (List.map l4)) e3;simp only at this
   rwa [fY,fY] at this
  subst O8;have hA:=dA hg hc;obtain ⟨j,hj,ej⟩:=List.getElem_of_mem ((hA.2 g).2 hh)
  have gj:(du N O R).getD j []=g:=by rw [List.getD_eq_getElem?_getD,List.getElem?_eq_getElem hj,<- ej]; rfl
  rcases hf with ⟨f1,_⟩ | ⟨k,x,f1,f2,f3,f4,f5⟩
  ·have:=f1 j hj
   rw [gj,hp] at this
   cases this
  ·obtain ⟨m,a,c,_,rfl,_⟩:=f5.len
   have hkj:k<=j:=Classical.byContradiction fun hn=>by
    have:=f3 j (by omega);rw [gj,hp] at this
    cases this
   have gk:(du N O R).getD k []=(du N O R)[k]:=by rw [List.getD_eq_getElem?_getD,List.getElem?_eq_getElem f1]; rfl
   refine ⟨a,m,c,(du N O R).getD k [],f4,f5,⟨(hA.2 _).1 (by rw [gk]; exact List.getElem_mem f1),f2,?_⟩,hb⟩;rw [gk,<- ej]
   by_cases e:k=j
   ·subst e; exact mP _
   ·have:=List.pairwise_iff_getElem.1 (Iy hA.1) k j (by rw [List.length_map]; exact f1) (by rw [List.length_map]; exact hj) (by omega)
    rwa [List.getElem_map,List.getElem_map] at this
theorem Zw (hd:N<=6):rT (((N:Nat):Int),O.map Ma.ag,R.map (List.map Ma.ag))=0:=by
 have hA:=dA hg hc;refine Jw (Classical.byContradiction fun hn=>BC.no hg hc hd ⟨(du N O R).take 721,(List.take_sublist 721 _).nodup (dN hA.1),fun y hy=>(hA.2 y).1 (List.mem_of_mem_take hy),by rw [List.length_take]; omega⟩)
theorem V8 (h1:1<=N) (hd:N<=6) {SS TS:List (List Int)} (h2:Ma.dn PS=0) (h4:∀ x∈PS,(x.length:Int)=((N:Nat):Int)) (h5:jw ((N:Nat):Int) SS=0) (h6:jZ ((N:Nat):Int) TS=0):f_ ((N:Nat):Int) [(((N:Nat):Int),O.map Ma.ag,R.map (List.map Ma.ag))] PS SS TS (((N:Nat):Int),O.map Ma.ag,R.map (List.map Ma.ag))=0 :=
 Cd (by rw [jY,if_pos (rV.xS h1 (by omega) hg hc)]; rfl) h2 (by simp) h4 h5 h6 (Zw hg hc hd)
end
theorem LN (h1:1<=N) (h2:N<=64) {x y:List Nat} (gx:Gd N x) (gy:Gd N y):Ma.dn [Ma.ag x,Ma.ag y]=0:=by
 have e:∀ z,Gd N z->Ma.bB (Ma.ag z)=0:=fun z g=>Ma.km (by rw [Ma.ar,g.2]; exact h1) (by rw [Ma.ar,g.2]; exact h2) (Ma.lJ g.1);rw [Ma.dn,if_pos (e x gx),Ma.dn,if_pos (e y gy)];rfl
theorem Fi {s:List Nat} (h:∀ y∈s,y<N):(Ma.ag s).any (gS ((N:Nat):Int))=false:=by
 rw [List.any_eq_false];intro z hz;obtain ⟨y,hy,rfl⟩:=List.mem_map.1 hz;have:=h y hy;unfold gS;simp;omega
theorem Fj {s:List Nat} (h:s.Pairwise (· < ·)):nj (Ma.ag s):=fun j hj h1=>by
 rw [Ma.ar] at hj;have:=List.pairwise_iff_getElem.1 h (j - 1) j (by omega) hj (by omega);simp only [Ma.ag,List.getElem_map];omega
section
variable {N:Nat} (h1:1<=N) (hd:N<=6) {gs:List (List Nat)} (hg:∀ s∈gs,Gd N s) {O:List (List Nat)} {R:List (List (List Nat))} (hc:ak N (Gr N (·∈gs)) O R) {ov rv:Value} {w:World} (hce:bg w ov rv (O.map Ma.ag) (R.map (List.map Ma.ag)))
include h1 hd hg hc hce
end
theorem gG.ni {s:List Nat} (h:gG B W v (Ma.ag s)) (hl:s.length<=1000):dw W v (Ma.ag s):=⟨(h.fi (by rw [Ma.ar]; omega) (G:=fun _=>True) (fun _ _ _=>trivial)).ints⟩

theorem yw {x g:List Nat} (gx:Gd N x) (gg:Gd N g):Gd N (eG x g):=Cm.aV (Cm.aV (Cm.aN gg) gx) gg
theorem JH {a b z:List Nat} (ga:Gd N a) (gb:Gd N b) (gz:Gd N z) (h:∀ i,i<N->ap a (ap z i)=ap b (ap z i)):a=b :=
 Cm.gT ga.2 gb.2 fun j hj=>by
  have:=h (ap (Ma.aS z) j) (Cm.cy (Cm.aN gz) hj)
  rwa [Cm.fC gz hj] at this
theorem RE {g:List Nat} (gg:Gd N g):eG g (Ma.bh N)=g :=
 JH (yw gg (Cm.eL N)) gg (Cm.eL N) fun i hi=>by
  rw [t_ gg (Cm.eL N) hi,Cm.cF hi,Cm.cF (Cm.cy gg hi)]
theorem V_ {g z w:List Nat} (gg:Gd N g) (gz:Gd N z) (gw:Gd N w):eG (eG g z) w=eG g (Ma.aj z w) :=
 JH (yw (yw gg gz) gw) (yw gg (Cm.aV gz gw)) (Cm.aV gz gw) fun i hi=>by
  rw [t_ gg (Cm.aV gz gw) hi,Cm.br gz hi,t_ (yw gg gz) gw (Cm.cy gz hi),t_ gg gz hi,Cm.br gz (Cm.cy gg hi)]
section
variable {N:Nat} (h1:1<=N) (h2:N<=64) {gs:List (List Nat)} (hg:∀ s∈gs,Gd N s) {O:List (List Nat)} {R:List (List (List Nat))} (hc:ak N (Gr N (·∈gs)) O R)
include h1 h2 hg hc
end
theorem fe.eN (hg:∀ s∈gs,Gd N s) (hc:ak N (Gr N (·∈gs)) O R) {Pb:List Nat->Bool} {e:Ending} (h:fe ck (((N:Nat):Int),O.map Ma.ag,R.map (List.map Ma.ag)) Pb w e w') (h0:ck=0) :
  ∃ (oa:Option Addr) (on oc:Nat) (ra:Option Addr) (rn rc:Nat) (T:List (List Nat)) (O2:List (List Nat)) (R2:List (List (List Nat))),e=.returned (.tuple #[.agg #[.int .i64 ((N:Nat):Int),.slice oa on oc,.slice ra rn rc],.int .i64 0])/\bg w' (.slice oa on oc) (.slice ra rn rc) (O2.map Ma.ag) (R2.map (List.map Ma.ag))/\(ak N (Gr N (·∈T)) O2 R2/\(∀ s∈T,Gr N (·∈gs) s/\Pb s=true)/\∀ x,Gr N (·∈gs) x->Pb x=true->Gr N (·∈T) x)/\Below w.heap.size w w':=by
 obtain ⟨hb,⟨h1,_⟩ | ⟨_,N',O',R',⟨e1,_,_,e2,e3,_⟩,T,oa,on,oc,ra,rn,rc,O2,R2,rfl,g1,g2,g3,g4,g5⟩⟩:=h
 ·exact absurd h0 h1
 ·have O7:N=N':=by simp only at e1; omega
  subst O7;have Ku:O=O':=cH e2;subst Ku
  have O8:R=R':=by
   have:=congrArg (List.map (List.map l4)) e3;simp only at this
   rwa [fY,fY] at this
  subst O8;have hA:=dA hg hc;exact ⟨oa,on,oc,ra,rn,rc,T,O2,R2,rfl,⟨aH.rows g1,bf.rows g2⟩,⟨g3,fun s hs=>⟨(hA.2 s).1 (g4 s hs).1,(g4 s hs).2⟩,fun x hx hp=>g5 x ((hA.2 x).2 hx) hp⟩,hb⟩

section
variable {N:Nat} {gs LL:List (List Nat)} (hg:∀ s∈gs,Gd N s) (hL:eU N gs LL) {A:List Nat->List Nat->List Nat} {s:List Nat} (kS:A (Ma.bh N) s=s) (hmul:∀ a b,Gd N a->Gd N b->A (Ma.aj a b) s=A b (A a s))
include hg hL kS hmul
theorem Cj {y:List Nat}:oV A gs s y↔∃ g∈LL,A g s=y:=by
 have hG:=Gr.dC hg
 constructor
 ·intro h
  induction h with
  | base=>exact ⟨_,(hL.2 _).2 hG.one,kS⟩
  | @step g x Zx _ ih =>
   obtain ⟨a,ha,rfl⟩:=ih;have ha':=(hL.2 a).1 ha;exact ⟨Ma.aj a g,(hL.2 _).2 (hG.mul _ _ ha' (.gen _ Zx)),hmul a g (hG.gd a ha') (hg g Zx)⟩
 ·rintro ⟨g,h,rfl⟩
  refine Cm.IW hg (P:=fun b=>oV A gs s (A b s)) (by rw [kS]; exact .base) (fun x t hx h ht=>?_) ((hL.2 g).1 h);rw [hmul x t (hG.gd x hx) (hg t ht)];exact .step ht h
theorem PA (h1:T.Nodup) (h2:∀ y∈T,oV A gs s y):T.length<=LL.length:=by
 have:=d_ (l:=T) (m:=LL.map (fun g=>A g s)) h1 fun y hy=>by
  obtain ⟨g,h,rfl⟩:=(Cj hg hL kS hmul).1 (h2 y hy);exact List.mem_map_of_mem (f:=fun g=>A g s) h
 rwa [List.length_map] at this
theorem Ck {M:Nat} (hM:LL.length<=M):¬ oW A gs s M:=by
 rintro ⟨T,h1,h2,h3⟩;have:=PA hg hL kS hmul h1 h2;omega
theorem yx (hT:ln A gs s T) {Pb:List Nat->Bool} (hP:∀ g,Gd N g->(Pb g=true↔A g s=s)):(LL.filter Pb).length*T.length=LL.length:=by
 have hG:=Gr.dC hg;have hr:∀ y,y∈T->∃ g,g∈LL/\A g s=y:=fun y hy=>(Cj hg hL kS hmul).1 ((hT.2 y).1 hy)
 obtain ⟨u,hu⟩:∃ u:List Nat->List Nat,∀ y,y∈T->u y∈LL/\A (u y) s=y :=
  ⟨fun y=>if h:y∈T then (hr y h).choose else [],fun y hy=>by simp only [dif_pos hy]; exact (hr y hy).choose_spec⟩
 have gL:∀ x,x∈LL->Gd N x:=fun x hx=>hG.gd x ((hL.2 x).1 hx)
 have hn:(T.flatMap fun y=>(LL.filter Pb).map fun b=>Ma.aj b (u y)).Nodup:=by
  rw [List.Nodup,List.pairwise_flatMap];refine ⟨fun y hy=>?_,hT.1.imp_of_mem fun {y z} hy hz hne a ha b hb e=>?_⟩
  ·rw [List.pairwise_map]
   refine ((dN hL.1).filter Pb).imp_of_mem fun {a b} ha hb eX e=>eX ?_;have ha':=gL a ((List.mem_filter.1 ha).1);have Ib:=gL b ((List.mem_filter.1 hb).1);have eB:=gL _ (hu y hy).1;have:=congrArg (fun t=>Ma.aj t (Ma.aS (u y))) e;simp only [Cm.dZ ha' eB,Cm.dZ Ib eB] at this;exact this
  ·obtain ⟨c,hc,rfl⟩:=List.mem_map.1 ha
   obtain ⟨d,hd,rfl⟩:=List.mem_map.1 hb;have tA:=gL c ((List.mem_filter.1 hc).1);have BI:=gL d ((List.mem_filter.1 hd).1);have e1:=hmul c (u y) tA (gL _ (hu y hy).1);have e2:=hmul d (u z) BI (gL _ (hu z hz).1);rw [(hP c tA).1 (List.mem_filter.1 hc).2,(hu y hy).2] at e1;rw [(hP d BI).1 (List.mem_filter.1 hd).2,(hu z hz).2] at e2;exact hne (e1.symm.trans ((congrArg (fun t=>A t s) e).trans e2))
 have hm:∀ x,x∈(T.flatMap fun y=>(LL.filter Pb).map fun b=>Ma.aj b (u y))↔x∈LL:=fun x=>by
  rw [List.mem_flatMap]
  constructor
  ·rintro ⟨y,hy,hx⟩
   obtain ⟨b,hb,rfl⟩:=List.mem_map.1 hx;exact (hL.2 _).2 (hG.mul _ _ ((hL.2 b).1 ((List.mem_filter.1 hb).1)) ((hL.2 _).1 (hu y hy).1))
  ·intro hx
   have gx:=gL x hx;have hy:A x s∈T:=(hT.2 _).2 ((Cj hg hL kS hmul).2 ⟨x,hx,rfl⟩);have gu:=gL _ (hu _ hy).1;refine ⟨_,hy,List.mem_map.2 ⟨Ma.aj x (Ma.aS (u (A x s))),List.mem_filter.2 ⟨(hL.2 _).2 (hG.mul _ _ ((hL.2 x).1 hx) (hG.inv _ ((hL.2 _).1 (hu _ hy).1))),(hP _ (Cm.aV gx (Cm.aN gu))).2 ?_⟩,Cm.mul_inv_cancel gx gu⟩⟩;have e1:=hmul (u (A x s)) (Ma.aS (u (A x s))) gu (Cm.aN gu);rw [Cm.nX gu,kS,(hu _ hy).2] at e1;rw [hmul x _ gx (Cm.aN gu)];exact e1.symm
 have hl:=((List.perm_ext_iff_of_nodup hn (dN hL.1)).2 hm).length_eq;rw [<- hl,List.length_flatMap];simp only [List.length_map];rw [show (T.map fun _=>(LL.filter Pb).length)=List.replicate T.length (LL.filter Pb).length by rw [List.map_const'],List.sum_replicate_nat,Nat.mul_comm]
end
def pH (g y:List Nat):List Nat:=eG y g
theorem ud {l m:List Nat} (hp:m.Perm l) (hs:m.Pairwise (·<=·)):nL l=m:=by
 refine Ma.fl ?_;rw [rI];refine ((pq (Ma.ag l)).trans (hp.map _).symm).eq_of_pairwise (fun a b _ _ h1 h2=>Int.le_antisymm h1 h2) (x3 _) ?_;show (Ma.ag m).Pairwise (·<=·);unfold Ma.ag;rw [List.pairwise_map]
 exact hs.imp fun h=>by omega
theorem Az (l:List Nat):(nL l).Perm l:=by
 unfold nL;have h:=(pq (Ma.ag l)).map Int.toNat;refine h.trans ?_;unfold Ma.ag;rw [List.map_map];exact .of_eq ((List.map_congr_left fun x _=>by simp).trans (List.map_id l))
theorem RG (l:List Nat):(nL l).Pairwise (·<=·):=by
 have h:=x3 (Ma.ag l);rw [<- rI] at h;unfold Ma.ag at h;rw [List.pairwise_map] at h
 exact h.imp fun h=>by omega
section
variable {N:Nat} {s:List Nat} (hs:∀ y∈s,y<N)
include hs
theorem Fl:iw (Ma.bh N) s=s:=(List.map_congr_left fun y hy=>Cm.cF (hs y hy)).trans (List.map_id s)
theorem Fm {a b:List Nat} (ga:Gd N a):iw (Ma.aj a b) s=iw b (iw a s):=by
 unfold iw;rw [List.map_map];exact List.map_congr_left fun y hy=>Cm.br ga (hs y hy)
theorem RH:dB false (Ma.bh N) s=s:=Fl hs
theorem RI (a b:List Nat) (ga:Gd N a) (_:Gd N b):dB false (Ma.aj a b) s=dB false b (dB false a s):=Fm hs ga
theorem RJ (hp:s.Pairwise (· < ·)):dB true (Ma.bh N) s=s:=by
 show nL (iw (Ma.bh N) s)=s;rw [Fl hs];exact ud (.refl _) (hp.imp fun h=>Nat.le_of_lt h)
theorem RK (a b:List Nat) (ga:Gd N a) (_:Gd N b):dB true (Ma.aj a b) s=dB true b (dB true a s):=by
 show nL (iw (Ma.aj a b) s)=nL (iw b (nL (iw a s)));rw [Fm hs ga];exact ud ((Az _).trans ((Az _).map _)) (RG _)
end
def Cn (y:List Nat) (m j:Nat):Prop:=j<=m/\(∀ a b,a<b->b<=m->a≠j->b≠j->y.getD a 0<=y.getD b 0)/\∀ b,j<b->b<=m->y.getD j 0<=y.getD b 0
def Co (y:List Nat) (m:Nat):Prop:=∀ a b,a<b->b<m->y.getD a 0<=y.getD b 0
theorem Co.start (y:List Nat):Co y 1:=fun a b h1 h2=>by omega
theorem Co.next {y:List Nat} {m:Nat} (h:Co y m):Cn y m m:=⟨Nat.le_refl _,fun a b h1 h2 h3 h4=>h a b h1 (by omega),fun b h1 h2=>by omega⟩
theorem Cn.done {y:List Nat} {m:Nat} (h:Cn y m j) (hj:j=0∨y.getD (j - 1) 0<=y.getD j 0):Co y (m+1):=fun a b h1 h2=>by
 obtain ⟨h3,h4,h5⟩:=h
 by_cases ea:a=j
 ·subst ea; exact h5 b h1 (by omega)
 ·by_cases eb:b=j
  ·subst eb
   rcases hj with hj | hj
   ·omega
   ·by_cases e:a=b - 1
    ·subst e; exact hj
    ·exact Nat.le_trans (h4 a (b - 1) (by omega) (by omega) ea (by omega)) hj
  ·exact h4 a b h1 (by omega) ea eb
theorem swp_get {y:List Nat} (hj:0<j) (hl:j<y.length) (k:Nat):((y.set j (y.getD (j - 1) 0)).set (j - 1) (y.getD j 0)).getD k 0=if k=j - 1 then y.getD j 0 else if k=j then y.getD (j - 1) 0 else y.getD k 0:=by
 rw [List.getD_eq_getElem?_getD (l:=List.set _ _ _),List.getElem?_set]
 by_cases e:j - 1=k
 ·rw [if_pos e,if_pos e.symm,if_pos (by rw [List.length_set]; omega)]; rfl
 ·rw [if_neg e,if_neg (fun h=>e h.symm),List.getElem?_set]
  by_cases e2:j=k
  ·rw [if_pos e2,if_pos e2.symm,if_pos hl]; rfl
  ·rw [if_neg e2,if_neg (fun h=>e2 h.symm),<- List.getD_eq_getElem?_getD]
theorem LO {y:List Nat} (hj:0<j) (hl:j<y.length):((y.set j (y.getD (j - 1) 0)).set (j - 1) (y.getD j 0)).Perm y:=by
 have e1:y.getD (j - 1) 0=y[j - 1]'(by omega):=by rw [List.getD_eq_getElem?_getD,List.getElem?_eq_getElem (by omega)]; rfl
 have e2:y.getD j 0=y[j]:=by rw [List.getD_eq_getElem?_getD,List.getElem?_eq_getElem hl]; rfl
 rw [e1,e2];exact List.set_set_perm hl (by omega)
theorem Cn.swap {y:List Nat} {m:Nat} (h:Cn y m j) (hj:0<j) (hm:m<y.length) (aE:y.getD j 0<y.getD (j - 1) 0):Cn ((y.set j (y.getD (j - 1) 0)).set (j - 1) (y.getD j 0)) m (j - 1):=by
 obtain ⟨h3,h4,h5⟩:=h
 have hl:j<y.length:=by omega
 refine ⟨by omega,fun a b h1 h2 ha hb=>?_,fun b h1 h2=>?_⟩
 ·rw [swp_get hj hl,swp_get hj hl,if_neg ha,if_neg hb]
  by_cases ea:a=j
  ·rw [if_pos ea]
   by_cases eb:b=j
   ·omega
   ·rw [if_neg eb]
    exact h4 (j - 1) b (by omega) h2 (by omega) eb
  ·rw [if_neg ea]
   by_cases eb:b=j
   ·rw [if_pos eb]
    exact h4 a (j - 1) (by omega) (by omega) ea (by omega)
   ·rw [if_neg eb]
    exact h4 a b h1 h2 ea eb
 ·rw [swp_get hj hl,swp_get hj hl,if_pos rfl,if_neg (by omega)]
  by_cases eb:b=j
  ·rw [if_pos eb]; omega
  ·rw [if_neg eb]
   exact h5 b (by omega) h2
theorem Co.nL {l y:List Nat} {m:Nat} (h:Co y m) (hm:y.length<=m) (hp:y.Perm l):nL l=y:=by
 refine ud hp (List.pairwise_iff_getElem.2 fun i j hi hj p6=>?_);have:=h i j p6 (by omega)
 rwa [List.getD_eq_getElem?_getD,List.getElem?_eq_getElem hi,List.getD_eq_getElem?_getD,List.getElem?_eq_getElem hj] at this

theorem Wa (args:Array Value) (w:World):(callFunc 35 args).run Tryz.prog w=.ok (.enter 35 args) w:=by kernel_rfl
structure FO (lv:Value) (W:World) (u:Value) (y:List Nat):Prop where
 f:FP (fun z=>z<W.heap.size/\¬ lv.ownBlock=some z) W u y
theorem FO.np {lv:Value} {W:World} {u:Value} {y:List Nat} (h:FO lv W u y):Rg.NP W u y:=h.f.np
theorem FO.jj {lv:Value} {W W':World} {u:Value} {y:List Nat} (h:FO lv W u y) (hb:Below W.heap.size W W'):FO lv W' u y:=⟨(h.f.jj hb).mono fun _ hz=>⟨Nat.lt_of_lt_of_le hz.1 hb.size,hz.2⟩⟩
theorem FO.new {lv:Value} {W W':World} {u:Value} {y:List Nat} (hl:∀ k,lv.ownBlock=some k->k<W.heap.size) (h:Rg.px W W' u y):FO lv W' u y :=
 ⟨(FP.new (F:=fun _=>False) h).mono fun z hz=>by
  rcases hz with hz | hz
  ·exact hz.elim
  ·exact ⟨hz.2,fun e=>by have:=hl z e; omega⟩⟩
structure ue (w W:World) (lv:Value) (T:List (List Nat)):Prop where
 bX:Below w.heap.size w W
 row:b_ w.heap.size (fun z=>z<W.heap.size/\¬ lv.ownBlock=some z) (fun _=>False) W lv T
theorem ue.lt {w W:World} {lv:Value} {T:List (List Nat)} (h:ue w W lv T):∀ k,lv.ownBlock=some k->k<W.heap.size:=fun k e=>(h.row.lt k e).2
theorem ue.jj {lv:Value} (h:ue w W lv T) (hb:Below W.heap.size W W'):ue w W' lv T :=
 ⟨Rg.acc h.bX hb,(h.row.kp (N:=fun _=>False) (Rg.Kp.az hb) (fun _ _=>id) (fun _ _=>id)).j0 (fun _ hz=>⟨Nat.lt_of_lt_of_le hz.1 hb.size,hz.2⟩) (fun _ e hz=>hz.2 e)⟩
theorem ue.one {w:World} {u:Value} {x:List Nat} (hu:Rg.NP w u x) (hs:∃ a m c,u=.slice a m c):ue w (w.alloc (.cells #[u] 27)) (.slice (some ⟨w.heap.size,0,none⟩) 1 1) [x] :=
 ⟨(Below.refl _ _).alloc (Nat.le_refl _) _,(b_.one (Nat.le_refl _) (FP.tj hu) hs (fun _ h=>h) (fun _ h=>h.elim)).j0 (fun z hz=>⟨by simp; omega,fun e=>by simp only [Value.ownBlock,Option.some.injEq] at e; omega⟩) (fun _ e hz=>hz.2 e)⟩
theorem ue.push {w W:World} {lv u:Value} {T:List (List Nat)} {y:List Nat} (h:ue w W lv T) (hu:FO lv W u y) (hs:∃ a m c,u=.slice a m c) (hn:T.length<1000000) (ty:TypeId) :
  ∃ a c X,(Builtin.append_ #[41,41] ty #[lv,.slice (some ⟨W.heap.size,0,none⟩) 1 1]).run Tryz.prog (W.alloc (.cells #[u] 27))=.ok (.slice a (T.length+1) c) X/\ue w X (.slice a (T.length+1) c) (T++[y]):=by
 obtain ⟨a,c,X,r1,r2,r3⟩:=h.row.push hu.f hs (fun _ hz=>hz.1) (fun _ h=>h.elim) hn ty;exact ⟨a,c,X,r1,Rg.Kp.jj h.bX r3 (fun k e=>(h.row.lt k e).1),r2.j0 (fun z hz=>⟨Nat.lt_of_lt_of_le hz.1 r3.size,fun e=>(r2.off z e).1 hz⟩) (fun _ e hz=>hz.2 e)⟩
theorem RL (hG:∀ s∈gs,Gd d s) {x y:List Nat} (gx:Gd d x) (h:oV pH gs x y):Gd d y:=by
 induction h with
 | base=>exact gx
 | step hg _ ih=>exact Cm.aV (Cm.aV (Cm.aN (hG _ hg)) ih) (hG _ hg)
theorem Fo (iG:1<=d) (hd:d<=64) (gv xv:Value) (gs:List (List Nat)) (x:List Nat) (w:World) (mE:Rg.Rows w gv (gs.map Ma.ag)) (hG:∀ s∈gs,Gd d s) (gD:gs.length<=1000) (hx:Rg.NP w xv x) (gx:Gd d x) {M:Nat} (PB:1<=M) (hM:M<=100000) (iN:¬ oW pH gs x M) :
  Calls Tryz.prog 31 #[gv,xv] w fun e w'=>∃ T:List (List Nat),e=.returned (.int .i64 ((T.length:Nat):Int))/\ln pH gs x T/\Below w.heap.size w w':=by
 obtain ⟨ga,gc,dO,-,-,-,Fp⟩:=mE.shape;rw [List.length_map] at dO;subst dO;obtain ⟨xa,xc,rfl,-⟩:=hx.shape;have HG:=U hG;have uX:=U iN;have PE:=U gx
 have PF:=U (show ∀ j (h:j<gs.length),∃ gb go u,ga=some ⟨gb,go,none⟩/\CL w gb (go+j) u/\dw w u (Ma.ag gs[j]) by
  intro j hj;obtain ⟨b,o,e,hb,hx⟩:=Fp (by rw [List.length_map]; omega);obtain ⟨u,h1,h2⟩:=hx j (by rw [List.length_map]; exact hj)
  exact ⟨b,o,u,e,⟨h1,hb⟩,⟨by rw [List.getElem_map] at h2; exact h2⟩⟩)
 have rB:=ue.one hx ⟨_,_,_,rfl⟩;have SJ:=U (kb.start (A:=pH) (gs:=gs) (s:=x) PB);clear mE hG hx gx Fp iN
 go_enter Tryz.func31,Tryz.ntmps31
 go_upto_region 0 with (fail);refine d3 ?_;refine d6 4 (.int .i64 ((0:Nat):Int)) ?_;go_frame;go_upto_region 1 with (fail);refine d3 ?_;refine d5 11 (.slice xa x.length xc) ?_;go_frame;refine d4 12 (Rg.aC _ _ _ rfl (.slice xa x.length xc) rfl (cG w _ ⟨_,_,_,rfl⟩)) ?_;go_frame;generalize w.alloc (.cells #[.slice xa x.length xc] 27)=w1 at *;refine d6 5 (.slice (some ⟨w.heap.size,0,none⟩) 1 1) ?_;go_frame;have RW:=U rB;clear rB;go_upto_region 2 with (fail);refine d3 ?_;refine d6 6 (.int .i64 ((0:Nat):Int)) ?_;go_frame;go_wp2
 go_loopw [5,6] (fun lv iv wr=>∃ (i:Nat) (T:List (List Nat)),iv=.int .i64 ((i:Nat):Int)/\Hid (ue w wr lv T)/\Hid (kb pH gs x M T i 0)) (fun _ iv _=>M - (intOf iv).toNat)
 case atStart=>exact ⟨0,_,rfl,RW,SJ⟩
 case round =>
  clear RW SJ;obtain ⟨i,T,rfl,RW,SJ⟩:=hrel;generalize wr=wa at *;obtain ⟨ta,tc,dO⟩:=RW.p.row.shape;subst dO;have hle:T.length<=M:=SJ.p.le
  by_cases eN:i<T.length
  case neg =>
   go_upto_region 3 with (fail);refine d3 ?_;refine d5 13 (.int .i64 ((i:Nat):Int)) ?_;go_frame;refine d5 14 (.slice ta T.length tc) ?_;go_frame;refine d4 15 (i3 Tryz.underlying41) ?_;go_frame;refine d4 16 (g9 (.bool false) .lss (h:=aP _ f9)) ?_;go_frame;go_upto_region 16 with (fail);refine d3 ?_;refine d5 62 (.slice ta T.length tc) ?_;go_frame;refine d4 63 (i3 Tryz.underlying41) ?_;go_frame;refine d6 4 (.int .i64 ((T.length:Nat):Int)) ?_;go_frame;go_wp2;go_ret;exact ⟨T,rfl,SJ.p.done (by omega),RW.p.bX⟩
  case pos =>
   go_upto_region 3 with (fail);refine d3 ?_;refine d5 13 (.int .i64 ((i:Nat):Int)) ?_;go_frame;refine d5 14 (.slice ta T.length tc) ?_;go_frame;refine d4 15 (i3 Tryz.underlying41) ?_;go_frame;refine d4 16 (g9 (.bool true) .lss (h:=aP _ f8)) ?_;go_frame;go_upto_region 5 with (fail);refine d3 ?_;refine d6 7 (.int .i64 ((0:Nat):Int)) ?_;go_frame;have dx:=U eN;clear eN hle;go_wp2
   go_loopw [5,7] (fun lv kv wr=>∃ (k:Nat) (T:List (List Nat)),kv=.int .i64 ((k:Nat):Int)/\k<=gs.length/\i<T.length/\Hid (ue w wr lv T)/\Hid (kb pH gs x M T i k)) (fun _ kv _=>gs.length - (intOf kv).toNat)
   case atStart=>exact ⟨0,T,rfl,Nat.zero_le _,dx.p,RW,SJ⟩
   case round =>
    clear RW SJ dx;obtain ⟨k,T,rfl,hk,eN,RW,SJ⟩:=hrel;generalize wr=wb at *;obtain ⟨ta,tc,dO⟩:=RW.p.row.shape;subst dO;have hle:T.length<=M:=SJ.p.le
    by_cases cg:k<gs.length
    case neg =>
     go_upto_region 6 with (fail);refine d3 ?_;refine d5 19 (.int .i64 ((k:Nat):Int)) ?_;go_frame;refine d5 20 (.slice ga gs.length gc) ?_;go_frame;refine d4 21 (i3 Tryz.underlying41) ?_;go_frame;refine d4 22 (g9 (.bool false) .lss (h:=aP _ f9)) ?_;go_frame;go_upto_region 4 with (fail);refine d3 ?_;refine d5 17 (.int .i64 ((i:Nat):Int)) ?_;go_frame;refine d4 18 (g9 (.int .i64 (((i+1):Nat):Int)) .add (h:=bA _ (by omega) (by omega))) ?_;go_frame;refine d6 6 (.int .i64 (((i+1):Nat):Int)) ?_;go_frame;go_wp2
     go_roundw
     case rel=>exact ⟨i+1,T,by go_num,RW,U (SJ.p.next (by omega) eN)⟩
     case measure=>simp [intOf]; omega
    case pos =>
     obtain ⟨gb,go,gu,rfl,yy,yz⟩:=PF.p k cg;obtain ⟨gi,yA⟩:∃ z,Hid (gs[k]'cg=z):=⟨_,U rfl⟩;rw [yA.p] at yz;have yB:=U (show Gd d gi by rw [<- yA.p]; exact HG.p _ (List.getElem_mem cg));have CG:=U (yy.upto RW.p.bX yy.lt);have GU:=U (dw.mk ((dw.jj yz RW.p.bX).i));obtain ⟨tb,Zy,tu,e1,e2,e3,e4,e5⟩:=RW.p.row.at eN;simp only [Value.slice.injEq,true_and] at e1;obtain ⟨rfl,rfl⟩:=e1;obtain ⟨ti,yC⟩:∃ z,Hid (T[i]'eN=z):=⟨_,U rfl⟩;rw [yC.p] at e5;have Zz:=U (show Gd d ti by rw [<- yC.p]; exact RL HG.p PE.p (SJ.p.zx _ (List.getElem_mem eN)));have CT:=U (CL.mk e4 e3);have TU:=U (dw.mk e5.np);have dx:=U eN;have bC:=U cg;have S8:=eN;clear e2 e3 e4 e5 yy yz;go_upto_region 6 with (fail);refine d3 ?_;refine d5 19 (.int .i64 ((k:Nat):Int)) ?_;go_frame;refine d5 20 (.slice (some ⟨gb,go,none⟩) gs.length gc) ?_;go_frame
     refine d4 21 (i3 Tryz.underlying41) ?_;go_frame;refine d4 22 (g9 (.bool true) .lss (h:=aP _ f8)) ?_;go_frame;go_upto_region 8 with (fail);have aq:Below wb.heap.size wb wb.drew:=(Below.refl _ _).drew;replace RW:=U (RW.p.jj aq);replace CG:=U (CG.p.jj aq);replace GU:=U (GU.p.jj aq);replace CT:=U (CT.p.jj aq);replace TU:=U (TU.p.jj aq);clear aq;refine Rg.Any.begin (S:=Rg.aG 15 (fun _=>True) (fun W=>Below wb.drew.heap.size wb.drew W)) mix ?_;generalize wb.drew=rC at *;have hS:∀ (l:Array Bool) W,Below rC.heap.size rC W->Rg.aG 15 (fun _=>True) (fun W=>Below rC.heap.size rC W) l W:=fun l W h=>⟨.inr trivial,h⟩;have hI:Below rC.heap.size rC rC:=Below.refl _ _;refine d8 0 15 (.slice (some ⟨gb,go,none⟩) gs.length gc) 25 (hS _ _ hI) ?_;go_frame;refine d8 1 15 (.int .i64 ((k:Nat):Int)) 26 (hS _ _ hI) ?_;go_frame
     refine d7 2 15 (.pointer (some ⟨gb,go+k,none⟩)) 27 rfl rfl (Rg.aA bP _ _ rfl rfl gb (go) (gs.length) gc (k) rfl rfl bC.p) (hS _ _ hI) ?_;go_frame;refine d7 3 15 (gu) 28 rfl rfl (i9 ⟨gb,go+k,none⟩ (fun W hW=>Rg.ae _ _ Tryz.underlying27 ((Below.cell (p:=⟨gb,go+k,none⟩) hW CG.p.lt).trans CG.p.cell))) (hS _ _ hI) ?_;go_frame;refine d8 5 15 (.slice (some ⟨tb,0,none⟩) T.length tc) 30 (hS _ _ hI) ?_;go_frame;refine d8 6 15 (.int .i64 ((i:Nat):Int)) 31 (hS _ _ hI) ?_;go_frame;refine d7 7 15 (.pointer (some ⟨tb,0+i,none⟩)) 32 rfl rfl (Rg.aA bP _ _ rfl rfl tb (0) (T.length) tc (i) rfl rfl dx.p) (hS _ _ hI) ?_;go_frame;refine d7 8 15 (tu) 33 rfl rfl (i9 ⟨tb,0+i,none⟩ (fun W hW=>Rg.ae _ _ Tryz.underlying27 ((Below.cell (p:=⟨tb,0+i,none⟩) hW CT.p.lt).trans (by rw [Nat.zero_add]; exact CT.p.cell)))) (hS _ _ hI) ?_;go_frame
     refine d8 10 15 (.slice (some ⟨gb,go,none⟩) gs.length gc) 35 (hS _ _ hI) ?_;go_frame;refine d8 11 15 (.int .i64 ((k:Nat):Int)) 36 (hS _ _ hI) ?_;go_frame;refine d7 12 15 (.pointer (some ⟨gb,go+k,none⟩)) 37 rfl rfl (Rg.aA bP _ _ rfl rfl gb (go) (gs.length) gc (k) rfl rfl bC.p) (hS _ _ hI) ?_;go_frame;refine d7 13 15 (gu) 38 rfl rfl (i9 ⟨gb,go+k,none⟩ (fun W hW=>Rg.ae _ _ Tryz.underlying27 ((Below.cell (p:=⟨gb,go+k,none⟩) hW CG.p.lt).trans CG.p.cell))) (hS _ _ hI) ?_;go_frame;refine Rg.Any.one (i:=4) (by kernel_rfl) (Rg.Any.ask (some 29) rfl rfl rfl _ _ (aF 35 _ _ rfl rfl (Wa _ _)) ?_);refine (CM _ gi rC GU.p.i yB.p.1 (by rw [yB.p.2]; omega)).mono ?_;rintro e1 SD ⟨iv,rfl,nA,hb⟩;have aJ:=Rg.acc hI hb;clear hb hI;refine ⟨_,rfl,(hS _ _ aJ),?_⟩;go_frame;have zp:=U (dw.mk nA.1)
     refine Rg.Any.one (i:=9) (by kernel_rfl) (Rg.Any.ask (some 34) rfl rfl rfl _ _ (aw 34 _ _ _ rfl rfl rfl (Hi _ _)) ?_);refine (nS _ _ (Ma.aS gi) ti SD zp.p.i (TU.p.jj aJ).i (fun z hz=>by rw [Zz.p.2]; exact o_ (Cm.aN yB.p) hz) (by rw [Ma.cM,yB.p.2]; omega)).mono ?_;rintro e1 Ag ⟨mv,rfl,kM,hb⟩;have a_:=Rg.acc aJ hb;have bL:=hb;clear hb aJ;refine ⟨_,rfl,(hS _ _ a_),?_⟩;go_frame;have ED:=U (dw.mk kM.1);have S9:=(RW.p.jj a_).lt;refine Rg.Any.one (i:=14) (by kernel_rfl) (Rg.Any.ask (some 39) rfl rfl rfl _ _ (aw 34 _ _ _ rfl rfl rfl (Hi _ _)) ?_);refine (nS _ _ (Ma.aj (Ma.aS gi) ti) gi Ag ED.p.i (GU.p.jj a_).i (fun z hz=>by rw [yB.p.2]; exact o_ (Cm.aV (Cm.aN yB.p) Zz.p) hz) (by rw [Ma.cu,Ma.cM,yB.p.2]; omega)).mono ?_
     rintro e1 NB ⟨yv,rfl,Ge,hb⟩;have H9:=FO.new S9 Ge
     obtain ⟨ya,yn,yc,rfl⟩:∃ a n c,yv=.slice a n c:=by obtain ⟨a,c,e,-⟩:=H9.np.shape; exact ⟨a,_,c,e⟩
     have dE:=Rg.acc bL hb;have aZ:=Rg.acc a_ hb;have dt:=hb;clear hb bL a_;refine ⟨_,rfl,(hS _ _ aZ),?_⟩;go_frame;have FY:=U H9;refine i8 15 8 rfl rfl (c6 (.slice ya yn yc) _ rfl rfl) (hS _ _ aZ) ?_;go_frame;refine Rg.Any.done (by kernel_rfl) ?_ _;replace RW:=U (RW.p.jj aZ);replace CG:=U (CG.p.jj aZ);replace GU:=U (GU.p.jj aZ);replace CT:=U (CT.p.jj aZ);replace TU:=U (TU.p.jj aZ);replace zp:=U (zp.p.jj dE);replace ED:=U (ED.p.jj dt);clear hS dE aZ dt;obtain ⟨y,hy⟩:∃ y,Hid (pH (gs[k]'bC.p) (T[i]'dx.p)=y):=⟨_,U rfl⟩
     have ey:Ma.aj (Ma.aj (Ma.aS gi) ti) gi=y:=by rw [<- hy.p,yA.p,yC.p]; rfl
     rw [ey] at FY;clear nA kM Ge H9 S9 ey;clear zp ED CG GU CT TU;go_upto_region 9 with (fail);refine d3 ?_;refine d6 9 (.bool false) ?_;go_frame;go_upto_region 10 with (fail);refine d3 ?_;refine d6 10 (.int .i64 ((0:Nat):Int)) ?_;go_frame;have MB:=U (show Hid (decide (y∈T.take 0)=false) from U (by simp));go_wp2
     go_loopw [9,10] (fun bv mv wr=>∃ (m:Nat) (b:Bool),bv=.bool b/\mv=.int .i64 ((m:Nat):Int)/\m<=T.length/\Hid (decide (y∈T.take m)=b)/\Hid (Below NB.heap.size NB wr)) (fun _ mv _=>T.length - (intOf mv).toNat)
     case atStart=>exact ⟨0,false,rfl,rfl,Nat.zero_le _,U (by simp),U (Below.refl _ _)⟩
     case round =>
      clear MB;obtain ⟨m,b,rfl,rfl,hm,MB,K2⟩:=hrel;generalize wr=wc at *
      cases b
      case true =>
       by_cases fV:m<T.length
       case pos =>
        go_upto_region 11 with (fail);refine d3 ?_;refine d5 40 (.int .i64 ((m:Nat):Int)) ?_;go_frame;refine d5 41 (.slice (some ⟨tb,0,none⟩) T.length tc) ?_;go_frame;refine d4 42 (i3 Tryz.underlying41) ?_;go_frame;refine d4 43 (g9 (.bool true) .lss (h:=aP _ f8)) ?_;go_frame;refine d5 44 (.bool true) ?_;go_frame;refine d9 45 (a7 (.bool true) _ rfl rfl) ?_;go_frame;refine d9 46 (bm _ _ true rfl rfl) ?_;go_frame;refine d4 47 (i5 (.bool false)) ?_;go_frame;replace RW:=U (RW.p.jj K2.p);replace FY:=U (FY.p.jj K2.p);clear K2;go_upto_region 14 with (fail);refine d3 ?_;refine d5 56 (.bool true) ?_;go_frame;refine d4 57 (bm _ _ true rfl rfl) ?_;go_frame;go_upto_region 7 with (fail);refine d3 ?_;refine d5 23 (.int .i64 ((k:Nat):Int)) ?_;go_frame;refine d4 24 (g9 (.int .i64 (((k+1):Nat):Int)) .add (h:=bA _ (by omega) (by omega))) ?_;go_frame
        refine d6 7 (.int .i64 (((k+1):Nat):Int)) ?_;go_frame
        have mh:pH (gs[k]'bC.p) (T[i]'dx.p)∈T:=by rw [hy.p]; exact List.mem_of_mem_take (of_decide_eq_true MB.p)
        go_wp2
        go_roundw
        case rel=>exact ⟨k+1,T,by go_num,bC.p,dx.p,RW,U (SJ.p.eN bC.p dx.p mh)⟩
        case measure=>simp [intOf]; omega
       case neg =>
        go_upto_region 11 with (fail);refine d3 ?_;refine d5 40 (.int .i64 ((m:Nat):Int)) ?_;go_frame;refine d5 41 (.slice (some ⟨tb,0,none⟩) T.length tc) ?_;go_frame;refine d4 42 (i3 Tryz.underlying41) ?_;go_frame;refine d4 43 (g9 (.bool false) .lss (h:=aP _ f9)) ?_;go_frame;refine d5 44 (.bool false) ?_;go_frame;refine g7 45 ?_;go_frame;refine g7 46 ?_;go_frame;refine d4 47 (i4 (.bool false)) ?_;go_frame;replace RW:=U (RW.p.jj K2.p);replace FY:=U (FY.p.jj K2.p);clear K2;go_upto_region 14 with (fail);refine d3 ?_;refine d5 56 (.bool true) ?_;go_frame;refine d4 57 (bm _ _ true rfl rfl) ?_;go_frame;go_upto_region 7 with (fail);refine d3 ?_;refine d5 23 (.int .i64 ((k:Nat):Int)) ?_;go_frame;refine d4 24 (g9 (.int .i64 (((k+1):Nat):Int)) .add (h:=bA _ (by omega) (by omega))) ?_;go_frame
        refine d6 7 (.int .i64 (((k+1):Nat):Int)) ?_;go_frame
        have mh:pH (gs[k]'bC.p) (T[i]'dx.p)∈T:=by rw [hy.p]; exact List.mem_of_mem_take (of_decide_eq_true MB.p)
        go_wp2
        go_roundw
        case rel=>exact ⟨k+1,T,by go_num,bC.p,dx.p,RW,U (SJ.p.eN bC.p dx.p mh)⟩
        case measure=>simp [intOf]; omega
      case false =>
       by_cases fV:m<T.length
       case pos =>
        obtain ⟨ZA,ZB,tm,e1,e2,e3,e4,e5⟩:=RW.p.row.at fV;simp only [Value.slice.injEq,true_and,Option.some.injEq,Addr.mk.injEq,and_true] at e1;obtain ⟨rfl,rfl⟩:=e1;obtain ⟨zm,Fq⟩:∃ z,Hid (T[m]'fV=z):=⟨_,U rfl⟩;rw [Fq.p] at e5;have CT:=U ((CL.mk e4 e3).jj K2.p);have TU:=U ((dw.mk e5.np).jj K2.p);obtain ⟨q,hq⟩:∃ q,Hid (decide (Ma.ag zm=Ma.ag y)=q):=⟨_,U rfl⟩;clear e2 e3 e4 e5;go_upto_region 11 with (fail);refine d3 ?_;refine d5 40 (.int .i64 ((m:Nat):Int)) ?_;go_frame;refine d5 41 (.slice (some ⟨tb,0,none⟩) T.length tc) ?_;go_frame;refine d4 42 (i3 Tryz.underlying41) ?_;go_frame;refine d4 43 (g9 (.bool true) .lss (h:=aP _ f8)) ?_;go_frame;refine d5 44 (.bool true) ?_;go_frame;refine d9 45 (a7 (.bool false) _ rfl rfl) ?_;go_frame;refine d9 46 (bm _ _ false rfl rfl) ?_;go_frame
        refine d4 47 (i5 (.bool true)) ?_;go_frame;go_upto_region 13 with (fail);refine d3 ?_;refine d5 50 (.slice (some ⟨tb,0,none⟩) T.length tc) ?_;go_frame;refine d5 51 (.int .i64 ((m:Nat):Int)) ?_;go_frame;refine d4 52 (aB bP _ _ rfl tb (0) (T.length) tc (m) rfl rfl fV) ?_;go_frame;refine d4 53 (g8 (tm) ⟨tb,0+m,none⟩ (Rg.ae _ _ Tryz.underlying27 (by rw [Nat.zero_add]; exact CT.p.cell))) ?_;go_frame;refine d5 54 (.slice ya yn yc) ?_;go_frame;refine f7 55 (aw 20 _ _ _ rfl rfl rfl (Ce _ _)) ?_;refine (mX (w0:=wc) TU.p.i (FY.p.jj K2.p).np hq (Below.refl _ _)).mono ?_;rintro e1 nr ⟨rfl,hb⟩;refine ⟨_,rfl,?_⟩;go_frame;replace CT:=U (CT.p.jj hb);replace TU:=U (TU.p.jj hb);replace K2:=U (Rg.acc K2.p hb);clear hb;refine d6 9 (.bool q) ?_;go_frame;go_upto_region 12 with (fail);refine d3 ?_
        refine d5 48 (.int .i64 ((m:Nat):Int)) ?_;go_frame;refine d4 49 (g9 (.int .i64 (((m+1):Nat):Int)) .add (h:=bA _ (by omega) (by omega))) ?_;go_frame;refine d6 10 (.int .i64 (((m+1):Nat):Int)) ?_;go_frame;go_wp2
        go_roundw
        case rel=>exact ⟨m+1,q,rfl,by go_num,fV,U (by
         rw [List.take_succ_eq_append_getElem fV,<- hq.p,Fq.p];refine decide_eq_decide.2 ⟨fun h=>?_,fun h=>?_⟩
         ·rcases List.mem_append.1 h with h | h
          ·exact absurd h (of_decide_eq_false MB.p)
          ·rw [List.mem_singleton.1 h]
         ·rw [Ma.fl h]; simp),K2⟩
        case measure=>simp [intOf]; omega
       case neg =>
        go_upto_region 11 with (fail);refine d3 ?_;refine d5 40 (.int .i64 ((m:Nat):Int)) ?_;go_frame;refine d5 41 (.slice (some ⟨tb,0,none⟩) T.length tc) ?_;go_frame;refine d4 42 (i3 Tryz.underlying41) ?_;go_frame;refine d4 43 (g9 (.bool false) .lss (h:=aP _ f9)) ?_;go_frame;refine d5 44 (.bool false) ?_;go_frame;refine g7 45 ?_;go_frame;refine g7 46 ?_;go_frame;refine d4 47 (i4 (.bool false)) ?_;go_frame;replace RW:=U (RW.p.jj K2.p);replace FY:=U (FY.p.jj K2.p);clear K2;go_upto_region 14 with (fail);refine d3 ?_;refine d5 56 (.bool false) ?_;go_frame;refine d4 57 (bm _ _ false rfl rfl) ?_;go_frame
        have mh:pH (gs[k]'bC.p) (T[i]'dx.p)∉T:=by
         rw [hy.p];have:=of_decide_eq_false MB.p
         rwa [List.take_of_length_le (by omega)] at this
        have mz:T.length<M:=Nat.lt_of_le_of_ne SJ.p.le fun e=>uX.p (SJ.p.over bC.p dx.p mh e);obtain ⟨a8,c8,X8,r1,gY⟩:=RW.p.push FY.p ⟨_,_,_,rfl⟩ (by omega) 41;go_upto_region 15 with (fail);refine d3 ?_;refine d5 58 (.slice (some ⟨tb,0,none⟩) T.length tc) ?_;go_frame;refine d5 59 (.slice ya yn yc) ?_;go_frame;refine d4 60 (Rg.aC _ _ _ rfl (.slice ya yn yc) rfl (cG wc _ ⟨_,_,_,rfl⟩)) ?_;go_frame;refine d4 61 (Rg.bu _ _ _ rfl rfl rfl r1) ?_;go_frame;refine d6 5 (.slice a8 (T.length+1) c8) ?_;go_frame;go_upto_region 7 with (fail);refine d3 ?_;refine d5 23 (.int .i64 ((k:Nat):Int)) ?_;go_frame;refine d4 24 (g9 (.int .i64 (((k+1):Nat):Int)) .add (h:=bA _ (by omega) (by omega))) ?_;go_frame;refine d6 7 (.int .i64 (((k+1):Nat):Int)) ?_;go_frame;have Fs:=U (SJ.p.new bC.p dx.p mh mz)
        rw [hy.p] at Fs;go_wp2
        go_roundw
        case rel=>exact ⟨k+1,_,by go_num,bC.p,by rw [List.length_append]; have:=dx.p; omega,U gY,Fs⟩
        case measure=>simp [intOf]; omega
end
end Go.Proofs.YtpedbljnhnoohaaGreat
