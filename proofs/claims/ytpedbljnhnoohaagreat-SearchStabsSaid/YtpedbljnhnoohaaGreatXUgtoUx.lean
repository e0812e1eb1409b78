/- Lemmas and contracts on the way to the statement; no condition of their own beyond those written. -/
import Derived.Test.YtpedbljnhnoohaaGreatXZgtoUf
set_option linter.unusedVariables false
set_option linter.unusedSimpArgs false
set_option maxRecDepth 100000
set_option maxHeartbeats 8000000
variable {n B N L D tc j tb base tf n₀ bytes:Nat} {v rv ov z v1 v2 xv u1 yv u2 cv tv:Go.Value} {W w' W' X w0 W0:Go.World} {F M F' F0 Fk:Nat->Prop} {O gs A LL:List (List Nat)} {ll OO PS:List (List Int)} {R:List (List (List Nat))} {RR gl:List (List (List Int))} {H:List Nat->Prop} {d ck:Int} {xs:List Go.Value} {xl l1 l2:List Int}
namespace Go.Proofs.RF
open Go Go.RowKit
def xp (fn:FuncId) (tmps:Array Value) (ps:Array Tmp) (assign body:Code) (D:Nat) (st:LoopState) (pe:Option Code):Loop :=
 { state:=st,pending:=pe,fn,tmps,params:=ps,assign,body,defers:=D }
def At (L:Nat) (r:Loop) (W:World):Prop:=W.heap[L]?=some (.loop r)
theorem At.put {r r':Loop} (h:At L r W):At L r' (W.putObj L (.loop r')) :=
 World.putObj_heap_same (Array.getElem?_eq_some_iff.1 h).1
theorem At.size {L:Nat} {r:Loop} {W:World} (h:At L r W):L<W.heap.size:=(Array.getElem?_eq_some_iff.1 h).1
theorem At.cell {L:Nat} {r r':Loop} {W:World} (h:At L r W) (a:Addr):(W.putObj L (.loop r')).cell? a=W.cell? a:=by
 unfold World.cell?
 by_cases e:a.block=L
 ·rw [e,World.putObj_heap_same h.size,show W.heap[L]?=_ from h]
 ·rw [World.putObj_heap_other e]
theorem At.frozen {L:Nat} {r r':Loop} {W:World} (h:At L r W) (a:Addr):(W.putObj L (.loop r')).frozen? a=W.frozen? a:=by
 unfold World.frozen?
 by_cases e:a.block=L
 ·rw [e,World.putObj_heap_same h.size,show W.heap[L]?=_ from h]
 ·rw [World.putObj_heap_other e]
theorem At.p {r:Loop} (h:At L r W) (hB:B<=L) (o:Obj):Below B W (W.putObj L o) :=
 have _:=h
 ⟨rfl,rfl,rfl,by simp,fun k hk=>World.putObj_heap_other (by omega)⟩
theorem At.keep {r:Loop} (h:At L r W) (hk:W'.heap[L]?=W.heap[L]?):At L r W':=hk.trans h
theorem At.aD {r:Loop} (h:At L r W) (hb:Below B W W') (hL:L<B):At L r W':=(hb.block L hL).trans h
theorem At.pD {r:Loop} (h:At L r W) (hb:BE W W'):At L r W':=(hb.block L h.size).trans h
theorem At.alloc {L:Nat} {r:Loop} {W:World} (h:At L r W) (o:Obj):At L r (W.alloc o):=(Below.heap_alloc W o L h.size).trans h
theorem At.drew {L:Nat} {r:Loop} {W:World} (h:At L r W):At L r W.drew:=h
theorem At.setCell {L:Nat} {r:Loop} {W:World} (h:At L r W) (a:Addr) (v:Value):At L r (W.setCell a v) :=
 (KeepsOthers.setCell W a v).same L _ h rfl
theorem fq.put {r:Loop} (h:fq D W) (hl:At L r W) (o:Obj):fq D (W.putObj L o):=by
 have hne:D≠L:=by
  intro e; subst e;have:=(show W.heap[D]?=_ from h).symm.trans hl;simp at this
 exact (World.putObj_heap_other hne).trans h
theorem outer {P:Program} {g:Operand} {ps:Array Tmp} {assign body:Code} {Q:Exit->Act->World->Prop} {a:Act} {w:World}
  {gf:Nat} {lb:Array Value} (hg:a.eval g=.func (.func gf) #[] lb) (eg:∀ args w,(callFunc gf args).run P w=.ok (.enter gf args) w)
  (h:∀ (fn:FuncId) (rec:LoopState->Option Code->Loop) (W1:World),rec=xp fn a.tmps ps assign body w.heap.size ->
   W1=(w.alloc (.deferred (some []))).alloc (.loop (rec .ready none)) ->
   At (w.heap.size+1) (rec .ready none) W1->fq w.heap.size W1->BE w W1 ->
   CallsIn Fence.wide (n - 1) P gf (#[.func (.yield (w.heap.size+1)) #[] #[]]++lb) W1 (fun e W2=>(∃ v,e=.returned v) /\
    ((At (w.heap.size+1) (rec .ready none) W2 /\
      Q .normal { a with defers:={ target:=.collected w.heap.size,args:=#[] } :: a.defers } (W2.putObj (w.heap.size+1) (.loop (rec .exhausted none)))) ∨
     (∃ c,At (w.heap.size+1) (rec .done (some c)) W2 /\
      c.wpIn Fence.wide n P Q { a with defers:={ target:=.collected w.heap.size,args:=#[] } :: a.defers } (W2.putObj (w.heap.size+1) (.loop (rec .exhausted (some c)))))))) :
  (Code.rangeFunc g ps assign body).wpIn Fence.wide n P Q a w:=by
 refine wpIn_rangeFunc ?_;intro fn _;have hro:Fence.wide.round=none:=rfl;rw [hro];obtain ⟨rec,iB⟩:∃ rec,rec=xp fn a.tmps ps assign body w.heap.size:=⟨_,rfl⟩;obtain ⟨W1,Lr⟩:∃ W1,(w.alloc (.deferred (some []))).alloc (.loop (rec .ready none))=W1:=⟨_,rfl⟩
 have Zk:At (w.heap.size+1) (rec .ready none) W1:=by
  rw [<- Lr]; have:=World.alloc_heap_new (w.alloc (.deferred (some []))) (.loop (rec .ready none)); rwa [World.size_alloc] at this
 have hK1:fq w.heap.size W1:=by
  rw [<- Lr]; exact (Below.heap_alloc _ _ _ (by simp)).trans (World.alloc_heap_new w _)
 have bZ:BE w W1:=by
  rw [<- Lr]; exact ((Below.refl _ w).alloc (Nat.le_refl _) _).alloc (by simp) _
 refine ⟨w.heap.size+1,[{ target:=.collected w.heap.size,args:=#[] }],W1,{ target:=.fn (.func gf) lb,args:=#[.func (.yield (w.heap.size+1)) #[] #[]] },W1,gf,
  #[.func (.yield (w.heap.size+1)) #[] #[]]++lb,W1,?_,?_,?_,?_,fun h=>by simp [Fence.wide] at h,?_⟩
 ·rw [<- Lr,iB]; exact run_enterLoop_outer _ _ _ _ _
 ·simp only [resolve,hg]
  simp [go_sem]
 ·intro f' Zl; trivial
 ·simp [invoke,go_sem,eg]
 ·refine (h fn rec W1 iB Lr.symm Zk hK1 bZ).mono ?_
  rintro e W2 ⟨⟨v,rfl⟩,(⟨hl,hq⟩ | ⟨c,hl,hq⟩)⟩
  ·exact ⟨none,_,by have:=run_endLoop (P:=P) hl (by rw [iB]; simp [xp]); rw [iB] at this; exact this,by rw [iB] at hq; exact hq⟩
  ·exact ⟨some c,_,by have:=run_endLoop (P:=P) hl (by rw [iB]; simp [xp]); rw [iB] at this; exact this,by rw [iB] at hq; exact hq⟩
def Po (L:Nat) (rec:LoopState->Option Code->Loop) (R:Ending->World->Prop):Exit->Act->World->Prop
 | .normal,_,W=>At L (rec .busy none) W/\R (.returned (.bool true)) (W.putObj L (.loop (rec .ready none)))
 | .ret,_,W=>At L (rec .busy none) W/\R (.returned (.bool false)) (W.putObj L (.loop (rec .done (some .ret))))
 | .exit id,_,W=>At L (rec .busy none) W/\R (.returned (.bool false)) (W.putObj L (.loop (rec .done (some (.exit id)))))
 | .goto t,_,W=>At L (rec .busy none) W/\R (.returned (.bool false)) (W.putObj L (.loop (rec .done (some (.goto t)))))
 | .panic _,_,_=>False
 | .outgrown,_,_=>False
theorem round {P:Program} {fn:FuncId} {tmps:Array Value} {ps:Array Tmp} {assign body:Code} {args:Array Value} {R:Ending->World->Prop}
  {rec:LoopState->Option Code->Loop} (iB:rec=xp fn tmps ps assign body D)
  (hL:At L (rec .ready none) W) (hs:args.size=ps.size)
  (h:assign.wpIn (Fence.wide.inRound L) n P (Exit.then (fun oM SM=>At L (rec .ready none) SM /\
    body.wpIn (Fence.wide.inRound L) n P (Po L rec R) oM (SM.putObj L (.loop (rec .busy none)))) (fun _ _ _=>False))
   { tmps:=(ps.zip args).foldl (fun t (p,v)=>t.setIfInBounds p v) tmps,defers:=[] } W) :
  YieldAt Fence.wide n P L args W R:=by
 subst iB;refine ⟨fn,_,assign,body,run_yield hL hs,roundIn_of_wpIn trivial (wpIn_mono h ?_)⟩;rintro e oM SM hq
 cases e with
 | normal =>
  obtain ⟨h1,h2⟩:=hq;refine ⟨_,run_beginRound h1 rfl,wpIn_mono h2 ?_⟩;rintro e abV abW hp
  cases e with
  | normal=>exact ⟨_,_,run_endRound (P:=P) none hp.1,hp.2⟩
  | ret=>exact ⟨_,_,run_endRound (P:=P) (some .ret) hp.1,hp.2⟩
  | exit id=>exact ⟨_,_,run_endRound (P:=P) (some (.exit id)) hp.1,hp.2⟩
  | goto t=>exact ⟨_,_,run_endRound (P:=P) (some (.goto t)) hp.1,hp.2⟩
  | panic ch=>exact hp.elim
  | outgrown=>exact hp.elim
 | ret=>exact hq.elim
 | exit id=>exact hq.elim
 | goto t=>exact hq.elim
 | panic ch=>exact hq.elim
 | outgrown=>exact hq.elim
theorem MS {P:Program} {g:Operand} {ps:Array Tmp} {assign body:Code} {Q:Exit->Act->World->Prop} {a:Act} {w:World}
  {gf:Nat} {lb:Array Value} (hg:a.eval g=.func (.func gf) #[] lb) (eg:∀ args w,(callFunc gf args).run P w=.ok (.enter gf args) w)
  (h:∀ (fn:FuncId) (rec:LoopState->Option Code->Loop) (W1:World),rec=xp fn a.tmps ps assign body w.heap.size ->
   W1=(w.alloc (.deferred (some []))).alloc (.loop (rec .ready none)) ->
   At (w.heap.size+1) (rec .ready none) W1->fq w.heap.size W1->BE w W1 ->
   CallsIn Fence.wide 0 P gf (#[.func (.yield (w.heap.size+1)) #[] #[]]++lb) W1 (fun e W2=>(∃ v,e=.returned v) /\
    ((At (w.heap.size+1) (rec .ready none) W2 /\
      Q .normal { a with defers:=mark w.heap.size :: a.defers } (W2.putObj (w.heap.size+1) (.loop (rec .exhausted none)))) ∨
     (∃ c,At (w.heap.size+1) (rec .done (some c)) W2 /\
      c.wp P Q { a with defers:=mark w.heap.size :: a.defers } (W2.putObj (w.heap.size+1) (.loop (rec .exhausted (some c)))))))) :
  (Code.rangeFunc g ps assign body).wp P Q a w:=by
 refine wpIn_wide.1 (outer (n:=1) hg eg fun fn rec W1 h1 h2 h3 h4 h5=>(h fn rec W1 h1 h2 h3 h4 h5).mono ?_)
 rintro e W2 ⟨hv,(⟨hl,hq⟩ | ⟨c,hl,hq⟩)⟩
 ·exact ⟨hv,.inl ⟨hl,hq⟩⟩
 ·exact ⟨hv,.inr ⟨c,hl,wpIn_wide.2 hq⟩⟩
structure ka (W W':World):Prop where
 cell:∀ a,W'.cell? a=W.cell? a
 frozen:∀ a,W'.frozen? a=W.frozen? a
 size:W.heap.size<=W'.heap.size
 blk:∀ (g:Nat) (cur:Array Value) (e:TypeId) (fz:Nat × Nat),W.heap[g]?=some (.cells cur e fz)->W'.heap[g]?=some (.cells cur e fz)
theorem At.same {r r':Loop} (h:At L r W):ka W (W.putObj L (.loop r')) :=
 ⟨fun a=>h.cell a,fun a=>h.frozen a,by simp,fun g cur e fz hg=>by
  have hne:g≠L:=by
   intro e1; subst e1;have:=hg.symm.trans h;simp at this
  exact (World.putObj_heap_other (by omega)).trans hg⟩
theorem rW (o:Obj):Go.Proofs.Rg.Kp (fun z=>z=L) W (W.putObj L o):=⟨rfl,rfl,rfl,by simp,fun k _ hn=>World.putObj_heap_other (fun e=>hn e)⟩
end Go.Proofs.RF
namespace Go.Proofs.YtpedbljnhnoohaaGreat
open Go.RowKit
open Go.Proofs
section
open Go.Proofs.Ob
open Go.Proofs.Cm (Gd Gr ar ap lexLt cz St)
attribute [local irreducible] Go.Calls Go.wpList
theorem FI.same {l:List Int} (h:Rg.FI F W v l) (hs:RF.ka W W'):Rg.FI F W' v l:=ft hs.cell hs.size h
def VM (I:Nat->(Nat->Prop)->World->Prop) (Ix:Code->World->Prop) (t:Nat) (C:Nat->Prop) (W:World):Exit->Act->World->Prop
 | .normal,_,W'=>∃ C':Nat->Prop,I (t+1) C' W'/\Rg.Kp C W W'/\∀ z,C' z->C z∨W.heap.size<=z
 | .ret,_,W'=>Ix .ret W'/\Rg.Kp C W W'
 | .exit id,_,W'=>Ix (.exit id) W'/\Rg.Kp C W W'
 | .goto g,_,W'=>Ix (.goto g) W'/\Rg.Kp C W W'
 | .panic _,_,_=>False
 | .outgrown,_,_=>False
theorem Zm:∀ (args:Array Value) (w:World),(callFunc 107 args).run Tryz.prog w=.ok (.enter 107 args) w:=fun _ _=>by kernel_rfl
theorem AA {C C':Nat->Prop} (h:Rg.Kp C W W') (hC:∀ z,C z->C' z):Rg.Kp C' W W':=h.gS hC
theorem AB {g:Operand} {ps:Array Go.Tmp} {assign body:Code} {Q:Exit->Act->World->Prop} {a:Act} {w:World} (eI:1<=N) (hN:N<=64) (hH:cz N H) (bT:ar N H O R) {cb:Nat}
  (hg:a.eval g=.func (.func 107) #[] #[.pointer (some ⟨cb,0,none⟩)]) (Hs:ps.size=1) {C0:Nat->Prop} (fc:F cb) (h0:w.cell? ⟨cb,0,none⟩=some (.int .i64 (N:Int))) (h1:w.cell? ⟨cb,1,none⟩=some ov) (h2:w.cell? ⟨cb,2,none⟩=some rv) (ho:Rg.aL F w ov (O.map Ma.ah)) (hr:aV F w rv (R.map (List.map Ma.ah))) (az:∀ z,F z->z<w.heap.size) (hd:∀ z,F z->¬ C0 z)
  (I:Nat->(Nat->Prop)->World->Prop) (Ix:Code->World->Prop) (hI:∀ t C W W',I t C W->BE W W'->I t C W') (Zn:∀ t C W W',I t C W->RF.ka W W'->I t C W') (VN:∀ c W W',Ix c W->RF.ka W W'->Ix c W')
  (Zo:∀ t C W,I t C W->∀ z,C z->z<W.heap.size/\z≠w.heap.size/\z≠w.heap.size+1) (ny:I 0 C0 w) (oM:Value->Act)
  (qR:∀ (n l:Nat) (x:Value) (W:World) (K:Act->World->Prop),K (oM x) W->assign.wpIn (Fence.wide.inRound l) n Tryz.prog (Exit.then K (fun _ _ _=>False)) { tmps:=(ps.zip #[x]).foldl (fun t (p,v)=>t.setIfInBounds p v) a.tmps,defers:=[] } W)
  (zX:∀ (n l t:Nat) (C:Nat->Prop) (x:Value) (W:World),I t C W->t<(dR N O R).length->Rg.FI (fun z=>¬ C z) W x (Ma.ah ((dR N O R).getD t []))->w.heap.size+2<=W.heap.size->body.wpIn (Fence.wide.inRound l) n Tryz.prog (VM I Ix t C W) (oM x) W)
  (zY:∀ (C:Nat->Prop) (W:World),I (dR N O R).length C W->RF.fq w.heap.size W->Rg.Kp C0 w W->Q .normal { a with defers:=RF.mark w.heap.size :: a.defers } W)
  (zZ:∀ (c:Code) (W:World),Ix c W->RF.fq w.heap.size W->Rg.Kp C0 w W->c.wp Tryz.prog Q { a with defers:=RF.mark w.heap.size :: a.defers } W) :
  (Code.rangeFunc g ps assign body).wp Tryz.prog Q a w:=by
 refine RF.MS hg Zm fun fn rec W1 iB Lr hL hD hb=>callsIn_wide.2 ?_
 have cR:w.heap.size+2=W1.heap.size:=by rw [Lr]; simp
 have Bh:I 0 C0 W1:=hI _ _ _ _ ny hb;have qU:Rg.Kp (fun _=>False) w W1:=Rg.Kp.aD hb
 refine (IL (l:=w.heap.size+1) eI hN hH bT
  (J:=fun t C W=>∃ C1:Nat->Prop,I t C1 W/\(∀ z,C z↔C1 z∨z=w.heap.size+1)/\RF.At (w.heap.size+1) (rec .ready none) W/\RF.fq w.heap.size W/\w.heap.size+2<=W.heap.size/\Rg.Kp C0 w W/\(∀ z,C1 z->C0 z∨w.heap.size<=z))
  (Jx:=fun W=>∃ c,Ix c W/\RF.At (w.heap.size+1) (rec .done (some c)) W/\RF.fq w.heap.size W/\Rg.Kp C0 w W)
  ?_ ?_ ?_ (F:=F) (C:=fun z=>C0 z∨z=w.heap.size+1) fc ((rA qU (az _ fc) id).trans h0) ((rA qU (az _ fc) id).trans h1) ((rA qU (az _ fc) id).trans h2) (ho.kp qU (fun _ _=>id)) (hr.kp qU (fun _ _=>id)) (fun z hz=>by have:=az z hz; omega) (fun z hz hc=>by
   rcases hc with hc | hc
   ·exact hd z hz hc
   ·have:=az z hz; omega) ⟨C0,Bh,fun _=>Iff.rfl,hL,hD,by omega,AA qU (fun _ h=>False.elim h),fun z h=>.inl h⟩).mono ?_
 ·
  rintro m t C W uv ht ⟨C1,hi,BZ,hl,hk,hs,uO,cI⟩ hu;refine RF.round iB hl (by rw [Hs]; rfl) (qR m _ uv W _ ⟨hl,?_⟩);have dh:=hl.put (r':=rec .busy none);have SN:=hl.same (r':=rec .busy none);have dF:RF.fq w.heap.size (W.putObj (w.heap.size+1) (.loop (rec .busy none))):=hk.put hl _;have iE:=Zn _ _ _ _ hi SN;have p7:=FI.same (hu.mono (F':=fun z=>¬ C1 z) (fun z hz hc=>hz ((BZ z).2 (.inl hc)))) SN;refine wpIn_mono (zX m _ t C1 uv _ iE ht p7 (by simpa using hs)) ?_;have hLn:¬ C1 (w.heap.size+1):=fun hc=>(Zo _ _ _ hi _ hc).2.2 rfl;have hDn:¬ C1 w.heap.size:=fun hc=>(Zo _ _ _ hi _ hc).2.1 rfl
  have fin:∀ (W3:World),Rg.Kp C1 (W.putObj (w.heap.size+1) (.loop (rec .busy none))) W3->RF.At (w.heap.size+1) (rec .busy none) W3/\RF.fq w.heap.size W3:=fun W3 jN =>
   ⟨(jN.block _ dh.size hLn).trans dh,(jN.block _ dF.size hDn).trans dF⟩
  have qh:∀ (W3:World),Rg.Kp C1 (W.putObj (w.heap.size+1) (.loop (rec .busy none))) W3->∀ o,Rg.Kp C0 w (W3.putObj (w.heap.size+1) o):=fun W3 jN o =>
   ((uO.trans (RF.rW _) (fun z hz hc=>by omega)).trans jN (fun z hz hc=>(cI z hc).resolve_right (by omega))).trans (RF.rW _) (fun z hz hc=>by omega)
  rintro e a3 W3 hp
  cases e with
  | normal =>
   obtain ⟨C',hi3,jN,B6⟩:=hp;obtain ⟨kG,qP⟩:=fin W3 jN;refine ⟨kG,.inl ⟨rfl,fun z=>C' z∨z=w.heap.size+1,⟨C',Zn _ _ _ _ hi3 kG.same,fun _=>Iff.rfl,kG.put,qP.put kG _,by have:=jN.size; simp at this ⊢; omega,qh W3 jN _,fun z hz=>(B6 z hz).elim (fun h=>cI z h) (fun h=>.inr (by simp at h; omega))⟩,?_,fun z hz=>?_⟩⟩
   ·refine ((AA (RF.rW _) (fun z hz=>(BZ z).2 (.inr hz))).trans (AA jN (fun z hz=>(BZ z).2 (.inl hz))) (fun _ _ h=>h)).trans (AA (RF.rW _) (fun z hz=>(BZ z).2 (.inr hz))) (fun _ _ h=>h)
   ·rcases hz with hz | hz
    ·rcases B6 z hz with h | h
     ·exact .inl ((BZ z).2 (.inl h))
     ·exact .inr (by simpa using h)
    ·exact .inl ((BZ z).2 (.inr hz))
  | ret =>
   obtain ⟨SQ,jN⟩:=hp;obtain ⟨kG,qP⟩:=fin W3 jN;exact ⟨kG,.inr ⟨rfl,.ret,VN _ _ _ SQ kG.same,kG.put,qP.put kG _,qh W3 jN _⟩⟩
  | exit id =>
   obtain ⟨SQ,jN⟩:=hp;obtain ⟨kG,qP⟩:=fin W3 jN;exact ⟨kG,.inr ⟨rfl,.exit id,VN _ _ _ SQ kG.same,kG.put,qP.put kG _,qh W3 jN _⟩⟩
  | goto id =>
   obtain ⟨SQ,jN⟩:=hp;obtain ⟨kG,qP⟩:=fin W3 jN;exact ⟨kG,.inr ⟨rfl,.goto id,VN _ _ _ SQ kG.same,kG.put,qP.put kG _,qh W3 jN _⟩⟩
  | panic ch=>exact hp.elim
  | outgrown=>exact hp.elim
 ·rintro t C W W' ⟨C1,hi,BZ,hl,hk,hs,uO,cI⟩ SR
  exact ⟨C1,hI _ _ _ _ hi SR,BZ,hl.pD SR,hk.pD SR,Nat.le_trans hs SR.size,uO.trans (Rg.Kp.aD SR) (fun _ _ h=>False.elim h),cI⟩
 ·rintro t C W ⟨C1,hi,BZ,hl,_,hs,_⟩ z hz
  rcases (BZ z).1 hz with h | h
  ·exact (Zo _ _ _ hi z h).1
  ·omega
 ·rintro e W2 ⟨hv,(⟨C',⟨C1,hi,_,hl,hk,_⟩,vE,_⟩ | ⟨c,hx,hl,hk,uO⟩)⟩
  ·refine ⟨hv,.inl ⟨hl,zY C1 _ (Zn _ _ _ _ hi hl.same) (hk.put hl _) ?_⟩⟩
   have qh:Rg.Kp C0 w W2:=(AA qU (fun _ h=>h.elim)).trans vE (fun z hz hc=>hc.resolve_right (by omega));exact qh.trans (RF.rW _) (fun z hz hc=>by omega)
  ·exact ⟨hv,.inr ⟨c,hl,zZ c _ (VN _ _ _ hx hl.same) (hk.put hl _) (uO.trans (RF.rW _) (fun z hz hc=>by omega))⟩⟩

theorem Zp (args:Array Value) (w:World):(callFunc 137 args).run Tryz.prog w=.ok (.enter 137 args) w:=by kernel_rfl
theorem Ls (n:Int) (ov rv:Value) (w:World) :
  Calls Tryz.prog 79 #[.agg #[.int .i64 n,ov,rv]] w fun e w'=>e=.returned (.func (.func 107) #[] #[.pointer (some ⟨w.heap.size,0,none⟩)])/\(CL w' w.heap.size 0 (.int .i64 n)/\CL w' w.heap.size 1 ov/\CL w' w.heap.size 2 rv)/\BE w w':=by
 go_enter Tryz.func79,Tryz.ntmps79
 have aN:=eA w (.int .i64 n) ov rv;go_upto_region 0 with fail;refine c6<|k8 (Rg.aY _ _ rfl rfl)<|j6 (.nilFunc) rfl ?_;go_frame;have hb:BE w (w.alloc (.cells #[.int .i64 n,ov,rv] 25)):=(Below.refl _ _).alloc (Nat.le_refl _) _;generalize w.alloc (.cells #[.int .i64 n,ov,rv] 25)=w1 at *;have H:=U aN;have K:=U hb;clear aN hb;go_wp2;go_ret;exact ⟨rfl,H.u,K.u⟩
theorem EP (hg:∀ s∈gs,Gd N s) (aU:1<=N) (aZ:N<=12) (bT:ar N (Cm.Gr N (·∈gs)) O R) {w:World} (h:bl w ov rv (O.map Ma.ah) (R.map (List.map Ma.ah))) :
  Calls Tryz.prog 106 #[.agg #[.int .i64 ((N:Nat):Int),ov,rv]] w fun e w'=>e=.returned (.int .i64 (if cd O N N<=5040 then 0 else 5))/\BE w w':=by
 have CE:=U h;have K:=U (bi w);obtain ⟨oa,oc,rfl,-⟩:=h.1.shape;obtain ⟨ra,rc,rfl⟩:=h.2.shape;obtain ⟨on,ir⟩:∃ n,Hid ((O.map Ma.ah).length=n):=⟨_,U rfl⟩;obtain ⟨rn,iP⟩:∃ n,Hid ((R.map (List.map Ma.ah)).length=n):=⟨_,U rfl⟩;rw [ir.u,iP.u] at CE;rw [ir.u,iP.u];obtain ⟨sz,cR⟩:∃ n,Hid (cd O N N=n):=⟨_,U rfl⟩;rw [cR.u];have HB:=U (show sz<=8916100448256 by rw [<- cR.u]; exact rV aZ (Gr.dE hg) bT (Nat.le_refl _));have hsb:sz<=8916100448256:=HB.u;clear h
 go_enter Tryz.func106,Tryz.ntmps106
 go_upto_region 0 with fail;refine c6 ?_;have aN:=eA w (.int .i64 (N:Int)) (.slice oa on oc) (.slice ra rn rc);refine k8 (Rg.aY _ _ rfl rfl) ?_;go_frame;have hb:=be w (.cells #[.int .i64 (N:Int),.slice oa on oc,.slice ra rn rc] 25);generalize w.alloc (.cells #[.int .i64 (N:Int),.slice oa on oc,.slice ra rn rc] 25)=w1 at *;replace CE:=U (CE.u.p hb);replace K:=U (Rg.acc K.u hb);clear hb;have A0:=U aN.1;have A1:=U aN.2.1;have A2:=U aN.2.2;clear aN;refine j7 rfl ?_;go_frame;go_upto_region 1 with fail;refine c6<|k8 (g7 ((.agg #[.int .i64 (N:Int),.slice oa on oc,.slice ra rn rc])) ⟨w.heap.size,0,none⟩ (aC A0.u.cell A1.u.cell A2.u.cell)) ?_;go_frame;refine f4 7 (aA 137 _ _ rfl rfl (Zp _ _)) ?_;refine (Iv hg aU aZ bT CE.u).mono ?_;rintro e1 w2 ⟨rfl,hb⟩;refine ⟨_,rfl,?_⟩;go_frame;replace CE:=U (CE.u.p hb);replace A0:=U (A0.u.p hb);replace A1:=U (A1.u.p hb);replace A2:=U (A2.u.p hb);replace K:=U (Rg.acc K.u hb);clear hb;refine j6 (.tuple #[.int .i64 ((cd O N N:Nat):Int),.int .i64 0]) rfl<|k8 (i9 (.int .i64 ((cd O N N:Nat):Int)))<|k8 (i9 (.int .i64 0))<|j7 rfl<|j7 rfl ?_;go_frame;rw [cR.u]
 by_cases h5:sz<=5040
 case pos =>
  skip;go_upto_region 2 with fail;refine c6<|j7 rfl<|k8 (g8 (.bool false) .neq (h:=aE _ f8))<|k7 rfl<|j7 rfl ?_;go_frame;refine k8 (g8 (.bool false) .gtr (h:=bA _ f8))<|k8 (i7 (.bool false)) ?_;go_frame;go_upto_region 4 with fail;refine c6<|j7 rfl ?_;go_frame;go_wp2;go_ret;exact ⟨rfl,K.u⟩
 case neg =>
  skip;go_upto_region 2 with fail;refine c6<|j7 rfl<|k8 (g8 (.bool false) .neq (h:=aE _ f8))<|k7 rfl<|j7 rfl ?_;go_frame;refine k8 (g8 (.bool true) .gtr (h:=bA _ f7))<|k8 (i7 (.bool true)) ?_;go_frame;go_upto_region 3 with fail;refine c6<|j7 rfl ?_;go_frame;go_wp2;go_ret;exact ⟨rfl,K.u⟩

theorem Zq (args:Array Value) (w:World):(callFunc 142 args).run Tryz.prog w=.ok (.enter 142 args) w:=by kernel_rfl
theorem Zr (args:Array Value) (w:World):(callFunc 203 args).run Tryz.prog w=.ok (.enter 203 args) w:=by kernel_rfl
theorem SU (args:Array Value) (w:World):(callFunc 143 args).run Tryz.prog w=.ok (.enter 143 args) w:=by kernel_rfl
def kb (x g:List Nat):List Nat:=Ma.aq (Ma.aq (Ma.bf g) x) g
theorem vM (eI:1<=N) (hN:N<=64) (v1 v2:Value) (x g:List Nat) (w:World) (h:Rg.NP w v1 x) (h':Rg.NP w v2 g) (gx:Gd N x) (gg:Gd N g) :
  Calls Tryz.prog 202 #[v1,v2] w fun e w'=>∃ v,e=.returned (.tuple #[v,.int .i64 0])/\Rg.oZ w w' v (kb x g)/\BE w w':=by
 have NX:=U (dM.mk h);have NG:=U (dM.mk h');have hz:=U (Cv gx.1 gg.1 (by rw [gx.2]; exact eI) (by rw [gx.2]; exact hN) (gx.2.trans gg.2.symm));obtain ⟨xa,xc,rfl,_⟩:=h.shape;obtain ⟨ga,gc,rfl,_⟩:=h'.shape;have Zs:=U gx;have AD:=U gg;have lx:=Rg.Rows.two 27 h h';have VO:=U lx;have K:=U (bi w);clear h h' gx gg lx
 go_enter Tryz.func202,Tryz.ntmps202
 go_upto_region 0 with fail;refine c6<|j8 rfl<|j7 rfl ?_;go_frame;go_upto_region 1 with fail;refine c6<|j8 rfl<|j8 rfl<|k8 (uG (u1:=.slice xa x.length xc) (u2:=.slice ga g.length gc) _ _ rfl rfl rfl (uF w _ _ ⟨_,_,_,rfl⟩ ⟨_,_,_,rfl⟩)) ?_;go_frame;have hb:=be w (.cells #[.slice xa x.length xc,.slice ga g.length gc] 27);generalize w.alloc (.cells #[.slice xa x.length xc,.slice ga g.length gc] 27)=w1 at *;replace NX:=U (NX.u.p hb);replace NG:=U (NG.u.p hb);replace K:=U (Rg.acc K.u hb);clear hb;refine f4 10 (aA 142 _ _ rfl rfl (Zq _ _)) ?_;refine (Cr VO.u (Nat.le_succ 1) hz (bi w1)).mono ?_;rintro e1 w2 ⟨rfl,hb⟩;refine ⟨_,rfl,?_⟩;go_frame;replace NX:=U (NX.u.p hb);replace NG:=U (NG.u.p hb);replace K:=U (Rg.acc K.u hb);clear hb;refine j7 rfl ?_;go_frame;clear VO hz;go_upto_region 2 with fail;refine c6<|j7 rfl<|k8 (g8 (.bool false) .neq (h:=aE _ (decide_eq_false (by decide)))) ?_;go_frame;go_upto_region 4 with fail;refine c6<|j8 rfl ?_;go_frame;refine f4 15 (aA 203 _ _ rfl rfl (Zr _ _)) ?_;refine (DJ _ g w2 NG.u.i AD.u.1 (by rw [AD.u.2]; omega) (by rw [AD.u.2]; exact eI)).mono ?_;rintro e1 w3 ⟨iv,rfl,p8,hb⟩;refine ⟨_,rfl,?_⟩;go_frame;replace NX:=U (NX.u.p hb);replace NG:=U (NG.u.p hb);replace K:=U (Rg.acc K.u hb);clear hb;have SV:=U (dM.mk p8.1);refine j8 rfl ?_;go_frame;refine f4 17 (ax 143 _ _ _ rfl rfl rfl (SU _ _)) ?_;refine (o_ _ _ (Ma.bf g) x w3 SV.u.i NX.u.i (fun z hz=>by rw [Zs.u.2]; exact yX (Cm.aX AD.u) hz) (by rw [Ma.dN,AD.u.2]; omega) (by rw [Ma.dN,AD.u.2]; exact eI) (by rw [Zs.u.2]; exact eI)).mono ?_;rintro e1 w4 ⟨mv,rfl,gX,hb⟩;refine ⟨_,rfl,?_⟩;go_frame;replace NX:=U (NX.u.p hb);replace NG:=U (NG.u.p hb);replace SV:=U (SV.u.p hb);replace K:=U (Rg.acc K.u hb)
 clear hb;have Zt:=U (dM.mk gX.1);refine j8 rfl ?_;go_frame;refine f4 19 (ax 143 _ _ _ rfl rfl rfl (SU _ _)) ?_;refine (o_ _ _ (Ma.aq (Ma.bf g) x) g w4 Zt.u.i NG.u.i (fun z hz=>by rw [AD.u.2]; exact yX (Cm.bm (Cm.aX AD.u) Zs.u) hz) (by rw [Ma.cW,Ma.dN,AD.u.2]; omega) (by rw [Ma.cW,Ma.dN,AD.u.2]; exact eI) (by rw [AD.u.2]; exact eI)).mono ?_;rintro e1 w5 ⟨cv,rfl,hcv,hb⟩;have HFC:=U (hcv.2.mono K.u.size);refine ⟨_,rfl,?_⟩;go_frame;replace NX:=U (NX.u.p hb);replace NG:=U (NG.u.p hb);replace SV:=U (SV.u.p hb);replace Zt:=U (Zt.u.p hb);replace K:=U (Rg.acc K.u hb);clear hb;have NC9:=U (dM.mk hcv.1);refine j6 (cv) rfl<|j7 rfl ?_;go_frame;clear p8 gX hcv;go_wp2;go_ret2;exact ⟨_,rfl,⟨NC9.u.i,HFC.u⟩,K.u⟩
theorem vN (hN:N<=64) (lv gv:Value) (s g:List Nat) (w:World) (h:Rg.Ints w lv (Ma.ah s)) (hs:∀ y∈s,y<N) (hl:s.length<=100000) (h':Rg.NP w gv g) (gg:Gd N g) :
  Calls Tryz.prog 205 #[lv,gv] w fun e w'=>∃ v,e=.returned v/\g_ w.heap.size w' v (Ma.ah (s.map (ap g)))/\BE w w':=by
 obtain ⟨n,la,lc,hn,rfl,-⟩:=h.len;rw [Ma.aB] at hn;subst hn;obtain ⟨n,ga,gc,hn,rfl,-⟩:=Rg.Ints.len h';rw [Ma.aB,gg.2] at hn;subst hn;have NS:=U (dM.mk h);have NG:=U (dM.mk h');have HS:=U hs;have GG:=U gg;have K:=U (bi w);clear h h' hs gg
 go_enter Tryz.func205,Tryz.ntmps205
 go_upto_region 0 with fail;refine c6<|j8 rfl ?_;go_frame;go_upto_region 1 with fail;refine c6<|j8 rfl ?_;go_frame;go_upto_region 2 with fail;refine c6<|j8 rfl<|k8 (g9 Tryz.underlying26)<|j7 rfl ?_;go_frame;have RO:=U (g_.nil w.heap.size w);go_wp2
 go_loopw [5,10] (fun ov iv wr=>∃ k:Nat,iv=.int .i64 ((k:Nat):Int)/\k<=s.length/\Hid (g_ w.heap.size wr ov (Ma.ah ((s.take k).map (ap g))))/\Hid (BE w wr)) (fun _ iv _=>s.length - (intOf iv).toNat)
 case atStart=>exact ⟨0,rfl,Nat.zero_le _,RO,K⟩
 case round =>
  clear RO;obtain ⟨k,rfl,hk,RO,KR⟩:=hrel;generalize wr=wA at *;replace NS:=U (NS.u.p KR.u);replace NG:=U (NG.u.p KR.u);obtain ⟨oa,oc,dG⟩:=RO.u.shape;rw [Ma.aB,List.length_map,List.length_take,Nat.min_eq_left hk] at dG;subst dG
  by_cases az:k<s.length
  case neg =>
   obtain rfl:k=s.length:=by omega
   go_upto_region 3 with fail;refine c6<|k8 (g8 (.bool false) .lss (h:=aI _ f8)) ?_;go_frame;go_upto_region 7 with fail;refine c6<|j8 rfl<|j8 rfl ?_;go_frame;have HX:=U (show g_ w.heap.size wA (.slice oa s.length oc) (Ma.ah (s.map (ap g))) by have:=RO.u; rwa [List.take_length] at this);clear RO NS NG;go_wp2;go_ret;exact ⟨_,rfl,HX.u,KR.u⟩
  case pos =>
   have qU:k<100000:=by omega
   obtain ⟨lb,lo,_,e1,hlc⟩:=NS.u.at (M:=s) rfl (by omega);simp only [Value.slice.injEq,true_and] at e1;obtain ⟨rfl,rfl⟩:=e1;obtain ⟨gb,fA,_,e1,Bl⟩:=NG.u.at (M:=g) GG.u.2 (by have:=HS.u _ (List.getElem_mem az); omega);simp only [Value.slice.injEq,true_and] at e1;obtain ⟨rfl,rfl⟩:=e1;obtain ⟨x,hx⟩:∃ x,Hid (s[k]=x):=⟨_,U rfl⟩;have OM:=U (show x<N from hx.u▸HS.u _ (List.getElem_mem az))
   have CS:=U (show CL wA lb (lo+k) (.int .i64 (x:Int)) by
    have:=hlc k az
    rwa [List.getD_eq_getElem?_getD,List.getElem?_eq_getElem az,Option.getD_some,hx.u] at this)
   obtain ⟨y,hy⟩:∃ y,Hid (ap g x=y):=⟨_,U rfl⟩;have CG:=U (show CL wA gb (fA+x) (.int .i64 ((y:Nat):Int)) from hy.u▸Bl x OM.u);clear hlc Bl;go_upto_region 3 with fail;refine c6<|k8 (g8 (.bool true) .lss (h:=aI _ f7)) ?_;go_frame;go_upto_region 4 with fail;refine c6<|k8 (ag aQ _ _ rfl lb (lo) (s.length) lc (k) rfl rfl (by omega))<|k8 (g7 (.int .i64 (x:Int)) ⟨lb,lo+k,none⟩ (af CS.u.cell))<|j7 rfl ?_;go_frame;have QT:=U (show (Ma.ah ((s.take k).map (ap g))).length=k by rw [Ma.aB,List.length_map,List.length_take,Nat.min_eq_left hk]);go_upto_region 5 with fail;refine c6<|j8 rfl<|j8 rfl<|j7 rfl<|k8 (ag bC _ _ rfl gb (fA) (N) gc (x) rfl rfl OM.u) ?_;go_frame;refine k8 (g7 (.int .i64 (y:Int)) ⟨gb,fA+x,none⟩ (af CG.u.cell))<|k8 (Rg.aF _ _ _ rfl (.int .i64 (y:Int)) rfl (EM wA _)) ?_;go_frame;obtain ⟨a9,c9,X9,r1,r2,r3⟩:=RO.u.push KR.u.size (y:Int) (by rw [QT.u]; omega) 26;rw [QT.u] at r1 r2;refine k8 (Rg.aT _ _ _ rfl rfl rfl r1)<|j8 rfl ?_;go_frame
   have D_:=U (show g_ w.heap.size X9 (.slice a9 (k+1) c9) (Ma.ah ((s.take (k+1)).map (ap g))) by
    rw [List.take_succ_eq_append_getElem az,hx.u,List.map_append,List.map_singleton,hy.u];unfold Ma.ah;rw [List.map_append]
    exact r2)
   have KX:=U (r3 (Nat.le_refl _) KR.u);clear r1 r2 r3 RO KR NS NG CS CG QT;go_wp2;go_roundw
   case rel=>exact ⟨k+1,by go_num,az,D_,KX⟩
   case measure=>simp [intOf]; omega

theorem SY (args:Array Value) (w:World):(callFunc 202 args).run Tryz.prog w=.ok (.enter 202 args) w:=by kernel_rfl
theorem Lt (args:Array Value) (w:World):(callFunc 205 args).run Tryz.prog w=.ok (.enter 205 args) w:=by kernel_rfl
theorem abd (b:Nat) (w:World):(Instr.fieldAt 76 (.pointer (some ⟨b,0,none⟩)) 0).run Tryz.prog w=.ok (.pointer (some ⟨b,0,none⟩)) w:=by kernel_rfl
theorem abe (b:Nat) (w:World):(Instr.fieldAt 76 (.pointer (some ⟨b,0,none⟩)) 1).run Tryz.prog w=.ok (.pointer (some ⟨b,1,none⟩)) w:=by kernel_rfl
theorem WX (b:Nat) (w:World):(Instr.fieldAt 83 (.pointer (some ⟨b,0,none⟩)) 0).run Tryz.prog w=.ok (.pointer (some ⟨b,0,none⟩)) w:=by kernel_rfl
theorem WY (b:Nat) (w:World):(Instr.fieldAt 83 (.pointer (some ⟨b,0,none⟩)) 1).run Tryz.prog w=.ok (.pointer (some ⟨b,1,none⟩)) w:=by kernel_rfl
theorem abf (b:Nat) (w:World):(Instr.fieldAt 86 (.pointer (some ⟨b,0,none⟩)) 0).run Tryz.prog w=.ok (.pointer (some ⟨b,0,none⟩)) w:=by kernel_rfl
theorem abg (b:Nat) (w:World):(Instr.fieldAt 86 (.pointer (some ⟨b,0,none⟩)) 1).run Tryz.prog w=.ok (.pointer (some ⟨b,1,none⟩)) w:=by kernel_rfl
theorem abh (b:Nat) (w:World):(Instr.fieldAt 99 (.pointer (some ⟨b,0,none⟩)) 0).run Tryz.prog w=.ok (.pointer (some ⟨b,0,none⟩)) w:=by kernel_rfl
theorem abi (b:Nat) (w:World):(Instr.fieldAt 99 (.pointer (some ⟨b,0,none⟩)) 1).run Tryz.prog w=.ok (.pointer (some ⟨b,1,none⟩)) w:=by kernel_rfl
structure ThU (N:Nat) (tv:Value) (Pb:List Nat->Bool) (Fk:Nat->Prop) (A:World->Prop):Prop where
 m : ∃ F recv, (∀ gv W, (callMethod tv "cayley/search.maps" #[gv]).run Tryz.prog W = .ok (.enter F #[recv, gv]) W) /\
  ∀ W gv g,A W->Rg.NP W gv g->Gd N g->Calls Tryz.prog F #[recv,gv] W fun e W'=>e=.returned (.bool (Pb g))/\BE W W'
 same:∀ W W',A W->RF.ka W W'->A W'
 kp:∀ C W W',A W->Rg.Kp C W W'->(∀ z,Fk z->¬ C z)->A W'
theorem Lu (w:World) (x y:Value) (t:TypeId):CL (w.alloc (.cells #[x,y] t)) w.heap.size 0 x/\CL (w.alloc (.cells #[x,y] t)) w.heap.size 1 y :=
 ⟨CL.mk (by rw [Rg.aW]; rfl) (by simp),CL.mk (by rw [Rg.aW]; rfl) (by simp)⟩
theorem IM (eI:1<=N) (hN:N<=64) (xv yv gv:Value) (x y g:List Nat) (w:World) (hx:Rg.NP w xv x) (hy:Rg.NP w yv y) (hg:Rg.NP w gv g) (gx:Gd N x) (gg:Gd N g) :
  Calls Tryz.prog 201 #[.agg #[xv,yv],gv] w fun e w'=>e=.returned (.bool (decide (kb x g=y)))/\BE w w':=by
 obtain ⟨n,xa,xc,hn,rfl,-⟩:=Rg.Ints.len hx;rw [Ma.aB,gx.2] at hn;subst hn;obtain ⟨n,ya,yc,hn,rfl,-⟩:=Rg.Ints.len hy;rw [Ma.aB] at hn;subst hn;obtain ⟨n,ga,gc,hn,rfl,-⟩:=Rg.Ints.len hg;rw [Ma.aB,gg.2] at hn;subst hn;have NX:=U (dM.mk hx);have NY:=U (dM.mk hy);have NG:=U (dM.mk hg);have GX:=U gx;have GG:=U gg;have K:=U (bi w);clear hx hy hg gx gg
 go_enter Tryz.func201,Tryz.ntmps201
 go_upto_region 0 with fail;refine c6 ?_;have aN:=Lu w (.slice xa N xc) (.slice ya y.length yc) 76;refine k8 (Rg.aY _ _ rfl rfl) ?_;go_frame;have hb:=be w (.cells #[.slice xa N xc,.slice ya y.length yc] 76);generalize w.alloc (.cells #[.slice xa N xc,.slice ya y.length yc] 76)=w1 at *;replace NX:=U (NX.u.p hb);replace NY:=U (NY.u.p hb);replace NG:=U (NG.u.p hb);replace K:=U (Rg.acc K.u hb);clear hb;have B0:=U aN.1;have B1:=U aN.2;clear aN;refine k7 rfl ?_;go_frame;go_upto_region 1 with fail;refine c6<|k8 (j4 (abd _ _))<|k8 (g7 (.slice xa N xc) ⟨w.heap.size,0,none⟩ (Rg.ae _ _ Tryz.underlying27 B0.u.cell))<|j8 rfl ?_;go_frame;refine f4 11 (ax 202 _ _ _ rfl rfl rfl (SY _ _)) ?_;refine (vM eI hN _ _ x g w1 NX.u.i NG.u.i GX.u GG.u).mono ?_;rintro e1 w2 ⟨cv,rfl,hcv,hb⟩;refine ⟨_,rfl,?_⟩;go_frame;replace NX:=U (NX.u.p hb);replace NY:=U (NY.u.p hb);replace NG:=U (NG.u.p hb);replace B0:=U (B0.u.p hb);replace B1:=U (B1.u.p hb);replace K:=U (Rg.acc K.u hb);clear hb;have NC:=U (dM.mk hcv.1);refine j6 (.tuple #[cv,.int .i64 0]) rfl<|k8 (i9 (cv))<|k8 (i9 (.int .i64 0))<|j6 (cv) rfl<|j7 rfl ?_;go_frame;clear hcv;go_upto_region 2 with fail;refine c6<|j6 (cv) rfl<|k8 (j4 (abe _ _))<|k8 (g7 (.slice ya y.length yc) ⟨w.heap.size,1,none⟩ (Rg.ae _ _ Tryz.underlying27 B1.u.cell)) ?_;go_frame;refine f4 17 (ax 131 _ _ _ rfl rfl rfl (Rq _ _)) ?_;refine (vr _ _ (Ma.ah (kb x g)) (Ma.ah y) w2 NC.u.i NY.u.i).mono ?_;rintro e1 w3 ⟨rfl,hb⟩;refine ⟨_,rfl,?_⟩;go_frame;replace NX:=U (NX.u.p hb);replace NY:=U (NY.u.p hb);replace NG:=U (NG.u.p hb);replace B0:=U (B0.u.p hb);replace B1:=U (B1.u.p hb);replace NC:=U (NC.u.p hb);replace K:=U (Rg.acc K.u hb);clear hb;refine k8 (Rg.cD (v:=(.bool (decide (Ma.ah (kb x g)=Ma.ah y)))) _ rfl rfl) ?_;go_frame
 have HE:=U (show decide (Ma.ah (kb x g)=Ma.ah y)=decide (kb x g=y) by
  by_cases e:kb x g=y
  ·rw [e]; simp
  ·rw [decide_eq_false e,decide_eq_false (fun e2=>e (Ma.mg e2))])
 rw [HE.u];clear HE;go_wp2;go_ret;exact ⟨rfl,K.u⟩
theorem IP (hN:N<=64) (sv tv gv:Value) (s t g:List Nat) (w:World) (hs:Rg.NP w sv s) (ht:Rg.NP w tv t) (hg:Rg.NP w gv g) (iU:∀ y∈s,y<N) (hl:s.length<=100000) (gg:Gd N g) :
  Calls Tryz.prog 206 #[.agg #[sv,tv],gv] w fun e w'=>e=.returned (.bool (decide (s.map (ap g)=t)))/\BE w w':=by
 obtain ⟨n,xa,xc,hn,rfl,-⟩:=Rg.Ints.len hs;obtain ⟨n2,ya,yc,aZ,rfl,-⟩:=Rg.Ints.len ht;obtain ⟨n3,ga,gc,S0,rfl,-⟩:=Rg.Ints.len hg;have NX:=U (dM.mk hs);have NY:=U (dM.mk ht);have NG:=U (dM.mk hg);have HL:=U hl;have GG:=U gg;have K:=U (bi w);clear hs ht hg gg hn aZ S0 hl
 go_enter Tryz.func206,Tryz.ntmps206
 go_upto_region 0 with fail;refine c6 ?_;have aN:=Lu w (.slice xa n xc) (.slice ya n2 yc) 86;refine k8 (Rg.aY _ _ rfl rfl) ?_;go_frame;have hb:=be w (.cells #[.slice xa n xc,.slice ya n2 yc] 86);generalize w.alloc (.cells #[.slice xa n xc,.slice ya n2 yc] 86)=w1 at *;replace NX:=U (NX.u.p hb);replace NY:=U (NY.u.p hb);replace NG:=U (NG.u.p hb);replace K:=U (Rg.acc K.u hb);clear hb;have B0:=U aN.1;have B1:=U aN.2;clear aN;refine k7 rfl ?_;go_frame;go_upto_region 1 with fail;have aj:BE w1 w1.drew:=(Below.refl _ _).drew;replace NX:=U (NX.u.p aj);replace NY:=U (NY.u.p aj);replace NG:=U (NG.u.p aj);replace B0:=U (B0.u.p aj);replace B1:=U (B1.u.p aj);replace K:=U (Rg.acc K.u aj);clear aj;refine Rg.Any.begin (S:=Rg.aK 7 (fun _=>True) (fun W=>Below w1.drew.heap.size w1.drew W)) mix ?_;generalize w1.drew=w2 at *;have hS:∀ (l:Array Bool) W,BE w2 W->Rg.aK 7 (fun _=>True) (fun W=>BE w2 W) l W:=fun l W h=>⟨.inr trivial,h⟩;have hI:BE w2 w2:=Below.refl _ _;refine d7 0 7 (.pointer (some ⟨w.heap.size,0,none⟩)) 5 rfl rfl (j3 fun w=>aw _ rfl rfl (abf _ _)) (hS _ _ hI)<|d7 1 7 (.slice xa n xc) 6 rfl rfl (j2 ⟨w.heap.size,0,none⟩ (fun W hW=>Rg.ae _ _ Tryz.underlying26 ((Below.cell (p:=⟨w.heap.size,0,none⟩) hW B0.u.lt).trans B0.u.cell))) (hS _ _ hI)<|d8 2 7 (.slice ga n3 gc) 7 (hS _ _ hI)<|d7 4 7 (.pointer (some ⟨w.heap.size,1,none⟩)) 9 rfl rfl (j3 fun w=>aw _ rfl rfl (abg _ _)) (hS _ _ hI)<|d7 5 7 (.slice ya n2 yc) 10 rfl rfl (j2 ⟨w.heap.size,1,none⟩ (fun W hW=>Rg.ae _ _ Tryz.underlying26 ((Below.cell (p:=⟨w.heap.size,1,none⟩) hW B1.u.lt).trans B1.u.cell))) (hS _ _ hI) ?_;go_frame
 refine Rg.Any.one (i:=3) (by kernel_rfl) (Rg.Any.ask (some 8) rfl rfl rfl _ _ (ax 205 _ _ _ rfl rfl rfl (Lt _ _)) ?_);refine (vN hN _ _ s g w2 NX.u.i iU HL.u NG.u.i GG.u).mono ?_;rintro e1 w3 ⟨iv,rfl,p8,hb⟩;have aS:=p8.fi (by rw [Ma.aB,List.length_map]; have:=HL.u; omega) (G:=fun _=>True) (fun _ _ _=>trivial);have br:=Rg.acc hI hb;clear hb hI;refine ⟨_,rfl,(hS _ _ br),?_⟩;go_frame;have NM:=U (dM.mk aS.ints);refine Rg.Any.one (i:=6) (by kernel_rfl) (Rg.Any.ask (some 11) rfl rfl rfl _ _ (ax 126 _ _ _ rfl rfl rfl (Eo _ _)) ?_);refine (ng _ _ (Ma.ah (s.map (ap g))) (Ma.ah t) w3 NM.u.i (NY.u.p br).i).mono ?_;rintro e1 w4 ⟨rfl,hb⟩;have bE:=Rg.acc br hb;have cM:=hb;clear hb br;refine ⟨_,rfl,(hS _ _ bE),?_⟩;go_frame;refine Rg.Any.one (i:=7) (by kernel_rfl) (Rg.Any.run (some 4) rfl rfl rfl (Rg.cD (v:=(.bool (decide (Ma.ah (s.map (ap g))=Ma.ah t)))) _ rfl rfl) (hS _ _ bE) ?_);go_frame;refine Rg.Any.done (by kernel_rfl) ?_ _;replace NX:=U (NX.u.p bE);replace NY:=U (NY.u.p bE);replace NG:=U (NG.u.p bE);replace B0:=U (B0.u.p bE);replace B1:=U (B1.u.p bE);replace NM:=U (NM.u.p cM);replace K:=U (Rg.acc K.u bE);clear hS bE cM
 have HE:=U (show decide (Ma.ah (s.map (ap g))=Ma.ah t)=decide (s.map (ap g)=t) by
  by_cases e:s.map (ap g)=t
  ·rw [e]; simp
  ·rw [decide_eq_false e,decide_eq_false (fun e2=>e (Ma.mg e2))])
 rw [HE.u];clear HE;go_wp2;go_ret;exact ⟨rfl,K.u⟩
end
section
attribute [local irreducible] Go.Calls
theorem Pp (a:Option Addr) (c:Nat) (w:World):Calls Tryz.prog 167 #[.slice a 0 c,.int .i64 0,.int .i64 0] w fun e w'=>e=.returned (.tuple #[])/\w'=w:=by
 go_enter Tryz.func167,Tryz.ntmps167
 go_wp2
 go_loopw [6] (fun iv wr=>iv=.int .i64 1/\wr=w) (fun _ _=>0)
 case atStart=>exact ⟨rfl,rfl⟩
 case round =>
  obtain ⟨rfl,rfl⟩:=hrel;go_wp2
  go_end0
  exact ⟨rfl,rfl⟩
theorem Pq (a:Option Addr) (c:Nat) (k:Int) (w:World):Calls Tryz.prog 150 #[.slice a 0 c,.int .i64 0,.int .i64 0,.int .i64 k] w fun e w'=>e=.returned (.tuple #[])/\w'=w:=by
 go_enter Tryz.func150,Tryz.ntmps150
 go_wp2
 go_loopw [1,2] (fun x y wr=>x=.int .i64 0/\y=.int .i64 0/\wr=w) (fun _ _ _=>0)
 case atStart=>exact ⟨rfl,rfl,rfl⟩
 case round =>
  obtain ⟨rfl,rfl,rfl⟩:=hrel
  go_wp2_with (go_at_call 167; refine (Pp a c _).mono ?_; rintro e w' ⟨rfl,rfl⟩)
  refine bodyPost_ret (results_none rfl _ _ _) rfl ?_;exact ⟨rfl,rfl⟩
theorem IQ (w:World):Calls Tryz.prog 161 #[.int .u64 0] w fun e w'=>(∃ k,e=.returned (.int .i64 k))/\w'=w:=by
 go_enter Tryz.func161,Tryz.ntmps161
 go_wp2;go_ret;exact ⟨⟨_,rfl⟩,rfl⟩
theorem Pr (w:World):Calls Tryz.prog 139 #[.int .u64 0] w fun e w'=>(∃ k,e=.returned (.int .i64 k))/\w'=w:=by
 go_enter Tryz.func139,Tryz.ntmps139
 go_wp2_with (go_at_call 161; refine (IQ _).mono ?_; rintro e w' ⟨⟨k,rfl⟩,rfl⟩)
 go_ret;exact ⟨⟨_,rfl⟩,rfl⟩
theorem Lw (w:World):Calls Tryz.prog 123 #[.slice none 0 0] w fun e w'=>e=.returned (.tuple #[])/\w'=w:=by
 go_enter Tryz.func123,Tryz.ntmps123
 go_wp2_with (first | (go_at_call 139; refine (Pr _).mono ?_; rintro e w' ⟨⟨k,rfl⟩,rfl⟩) | (go_at_call 150; refine (Pq none 0 _ _).mono ?_; rintro e w' ⟨rfl,rfl⟩))
 go_end0
 exact ⟨rfl,rfl⟩
theorem Zu:∀ (args:Array Value) (w:World),(callFunc 124 args).run Tryz.prog w=.ok (.enter 124 args) w:=fun _ _=>by kernel_rfl
theorem Lx (l fb:Nat) (w:World) (h:w.cell? ⟨fb,0,none⟩=some (.slice none 0 0)) :
  Calls Tryz.prog 124 #[.func (.yield l) #[] #[],.pointer (some ⟨fb,0,none⟩)] w fun e w'=>(∃ v,e=.returned v)/\w'=w:=by
 go_enter Tryz.func124,Tryz.ntmps124
 go_wp2
 go_loopw [7] (fun iv wr=>iv=.int .i64 0/\wr=w) (fun _ _=>0)
 case atStart=>exact ⟨rfl,rfl⟩
 case round =>
  obtain ⟨rfl,rfl⟩:=hrel;go_wp2
  go_end0
  exact ⟨⟨_,rfl⟩,rfl⟩
end
section
open Go.Proofs.Ob
open Go.Proofs.Cm (Gd Gr ar ap lexLt cz St)
attribute [local irreducible] Go.Calls Go.wpList
theorem yO (fb:Nat) (w:World) (hf:CL w fb 0 (.slice none 0 0)) :
  Calls Tryz.prog 149 #[.slice none 0 0,.func (.func 124) #[] #[.pointer (some ⟨fb,0,none⟩)]] w fun e w'=>e=.returned (.slice none 0 0)/\BE w w':=by
 have FB:=U hf;have K:=U (bi w);clear hf;refine RF.iK Tryz.func149 rfl ?_;simp only [Tryz.ntmps149,List.size_toArray,List.length_cons,List.length_nil,Nat.reduceAdd,Nat.reduceSub,Array.replicate_succ,Array.replicate_zero,List.push_toArray,List.append_toArray,List.nil_append,List.cons_append];go_upto_region 0 with fail;refine c6 ?_;have aN:=CW.new w (.slice none 0 0) 26;refine k8 (jt (v:=.slice none 0 0) _ _ rfl rfl rfl) ?_;go_frame;have hb:=be w (.cells #[.slice none 0 0] 26);generalize w.alloc (.cells #[.slice none 0 0] 26)=w1 at *;replace FB:=U (FB.u.p hb);replace K:=U (Rg.acc K.u hb);clear hb;have BX:=U aN;refine j8 rfl ?_;go_frame;go_upto_region 1 with fail;refine c6<|j6 ((.func (.func 124) #[] #[.pointer (some ⟨fb,0,none⟩)])) rfl ?_;go_frame;clear aN;have MR:=K.u.size;go_wp2;refine RF.MS rfl Zu fun fn rec W2 iB hW hL hD hb=>callsIn_wide.2 ?_;refine (Lx _ fb W2 (FB.u.p hb).cell).mono ?_;rintro e W3 ⟨hv,rfl⟩;refine ⟨hv,.inl ⟨hL,?_⟩⟩;have dh:BE w1 (W3.putObj (w1.heap.size+1) (.loop (rec .exhausted none))):=hb.trans (hL.p (Nat.le_succ _) _);have HDF:=U (hD.put hL (.loop (rec .exhausted none)));replace K:=U (Rg.acc K.u dh);replace BX:=U (BX.u.p dh);clear dh hb hL hD hv hW iB FB;generalize W3.putObj (w1.heap.size+1) (.loop (rec .exhausted none))=W4 at *;go_upto_region 4 with fail;refine c6<|k8 (g7 (.slice none 0 0) ⟨w.heap.size,0,none⟩ (Rg.ae _ _ Tryz.underlying26 BX.u.c))<|j8 rfl ?_;go_frame;go_wp2;exact RF.leaves w.heap.size [_] _ (by simp) (by intro D iR; simp at iR; subst iR; exact ⟨HDF.u,MR⟩) (fun W' l1 l2 _=>⟨_,results_tmp rfl _ _ _,rfl,K.u.trans l1⟩)
theorem B7 (fb:Nat) (w:World) (hf:CL w fb 0 (.slice none 0 0)) :
  Calls Tryz.prog 122 #[.func (.func 124) #[] #[.pointer (some ⟨fb,0,none⟩)]] w fun e w'=>e=.returned (.slice none 0 0)/\BE w w':=by
 have FB:=U hf;have K:=U (bi w);clear hf
 go_enter Tryz.func122,Tryz.ntmps122
 go_upto_region 0 with fail;refine c6<|j8 rfl ?_;go_frame;go_upto_region 1 with fail;refine c6<|j6 ((.func (.func 124) #[] #[.pointer (some ⟨fb,0,none⟩)])) rfl ?_;go_frame;refine f4 4 (ax 149 _ _ _ rfl rfl rfl (Qz _ _)) ?_;refine (yO fb w FB.u).mono ?_;rintro e1 w1 ⟨rfl,hb⟩;refine ⟨_,rfl,?_⟩;go_frame;replace FB:=U (FB.u.p hb);replace K:=U (Rg.acc K.u hb);clear hb;refine j8 rfl ?_;go_frame;go_wp2;go_ret;exact ⟨rfl,K.u⟩
theorem ER (fb:Nat) (w:World) (hf:CL w fb 0 (.slice none 0 0)) :
  Calls Tryz.prog 93 #[.func (.func 124) #[] #[.pointer (some ⟨fb,0,none⟩)]] w fun e w'=>e=.returned (.slice none 0 0)/\BE w w':=by
 have FB:=U hf;have K:=U (bi w);clear hf
 go_enter Tryz.func93,Tryz.ntmps93
 go_upto_region 0 with fail;refine c6<|j8 rfl ?_;go_frame;go_upto_region 1 with fail;refine c6<|j6 ((.func (.func 124) #[] #[.pointer (some ⟨fb,0,none⟩)])) rfl ?_;go_frame;refine f4 5 (aA 122 _ _ rfl rfl (QA _ _)) ?_;refine (B7 fb w FB.u).mono ?_;rintro e1 w1 ⟨rfl,hb⟩;refine ⟨_,rfl,?_⟩;go_frame;replace FB:=U (FB.u.p hb);replace K:=U (Rg.acc K.u hb);clear hb;refine j8 rfl ?_;go_frame;go_upto_region 2 with fail;refine c6<|j8 rfl ?_;go_frame;refine f4 7 (aA 123 _ _ rfl rfl (QB _ _)) ?_;refine ((Lw w1).mono (R':=fun e w'=>e=.returned (.tuple #[])/\BE w1 w') (fun e w' h=>⟨h.1,h.2▸Below.refl _ _⟩)).mono ?_;rintro e1 w2 ⟨rfl,hb⟩;refine ⟨_,rfl,?_⟩;go_frame;replace FB:=U (FB.u.p hb);replace K:=U (Rg.acc K.u hb);clear hb;go_wp2;go_ret;exact ⟨rfl,K.u⟩
theorem IU (la:Option Addr) (lc:Nat) (gv:Value) (w:World) :
  Calls Tryz.prog 205 #[.slice la 0 lc,gv] w fun e w'=>e=.returned (.slice none 0 0)/\BE w w':=by
 go_enter Tryz.func205,Tryz.ntmps205
 go_wp2
 go_loopw [5,10] (fun ov iv wr=>ov=.slice none 0 0/\iv=.int .i64 0/\wr=w) (fun _ _ _=>0)
 case atStart=>exact ⟨rfl,rfl,rfl⟩
 case round =>
  obtain ⟨rfl,rfl,rfl⟩:=hrel;go_wp2;go_ret;exact ⟨rfl,Below.refl _ _⟩
theorem Ly {l:List Int} (h:g_ B W v l) (h1:1<=l.length) (hl:l.length<=1000000):js W.heap.size W v l:=by
 obtain ⟨a,cap,e1,_,_,_,h5⟩:=h.fi (by omega) (G:=fun _=>True) (fun _ _ _=>trivial);obtain ⟨b,o,rfl,hb,_,hc⟩:=h5 (by rw [List.length_map]; omega);rw [List.length_map] at e1;refine ⟨b,o,cap,e1,hb,fun j hj=>?_⟩;have:=hc j (by rw [List.length_map]; exact hj);rw [List.getElem_map] at this;rw [this,List.getElem?_eq_getElem hj];rfl
theorem IW (hN:N<=64) (sv tv gv:Value) (s t g:List Nat) (w:World) (hs:Rg.NP w sv s) (ht:Rg.NP w tv t) (hg:Rg.NP w gv g) (iU:∀ y∈s,y<N) (hl:s.length<=100000) (gg:Gd N g) :
  Calls Tryz.prog 204 #[.agg #[sv,tv],gv] w fun e w'=>e=.returned (.bool (decide (Ob.jB (Ma.ah (s.map (ap g)))=Ma.ah t)))/\BE w w':=by
 obtain ⟨n,xa,xc,hn,rfl,-⟩:=Rg.Ints.len hs;obtain ⟨n2,ya,yc,aZ,rfl,-⟩:=Rg.Ints.len ht;obtain ⟨n3,ga,gc,S0,rfl,-⟩:=Rg.Ints.len hg;have NX:=U (dM.mk hs);have NY:=U (dM.mk ht);have NG:=U (dM.mk hg);have HL:=U hl;have GG:=U gg;have K:=U (bi w);rw [Ma.aB] at hn;have HN:=U hn;obtain ⟨A,hA⟩:∃ z,Hid (Ob.jB (Ma.ah (s.map (ap g)))=z):=⟨_,U rfl⟩;rw [hA.u];clear hs ht hg gg aZ S0 hl hn
 go_enter Tryz.func204,Tryz.ntmps204
 go_upto_region 0 with fail;refine c6 ?_;have aN:=Lu w (.slice xa n xc) (.slice ya n2 yc) 83;refine k8 (Rg.aY _ _ rfl rfl) ?_;go_frame;have hb:=be w (.cells #[.slice xa n xc,.slice ya n2 yc] 83);generalize w.alloc (.cells #[.slice xa n xc,.slice ya n2 yc] 83)=w1 at *;replace NX:=U (NX.u.p hb);replace NY:=U (NY.u.p hb);replace NG:=U (NG.u.p hb);replace K:=U (Rg.acc K.u hb);clear hb;have B0:=U aN.1;have B1:=U aN.2;clear aN;refine k7 rfl ?_;go_frame
 by_cases h0:s=[]
 case pos =>
  obtain rfl:n=0:=by rw [<- HN.u,h0]; rfl
  obtain rfl:A=[]:=by rw [<- hA.u,h0]; rfl
  go_upto_region 1 with fail;have aj:BE w1 w1.drew:=(Below.refl _ _).drew;replace NX:=U (NX.u.p aj);replace NY:=U (NY.u.p aj);replace NG:=U (NG.u.p aj);replace B0:=U (B0.u.p aj);replace B1:=U (B1.u.p aj);replace K:=U (Rg.acc K.u aj);clear aj;refine Rg.Any.begin (S:=Rg.aK 9 (fun _=>True) (fun W=>Below w1.drew.heap.size w1.drew W)) mix ?_;generalize w1.drew=w2 at *;have hS:∀ (l:Array Bool) W,BE w2 W->Rg.aK 9 (fun _=>True) (fun W=>BE w2 W) l W:=fun l W h=>⟨.inr trivial,h⟩;have hI:BE w2 w2:=Below.refl _ _;refine d7 0 9 (.pointer (some ⟨w.heap.size,0,none⟩)) 5 rfl rfl (j3 fun w=>aw _ rfl rfl (WX _ _)) (hS _ _ hI)<|d7 1 9 (.slice xa 0 xc) 6 rfl rfl (j2 ⟨w.heap.size,0,none⟩ (fun W hW=>Rg.ae _ _ Tryz.underlying26 ((Below.cell (p:=⟨w.heap.size,0,none⟩) hW B0.u.lt).trans B0.u.cell))) (hS _ _ hI)<|d8 2 9 (.slice ga n3 gc) 7 (hS _ _ hI)<|d7 6 9 (.pointer (some ⟨w.heap.size,1,none⟩)) 11 rfl rfl (j3 fun w=>aw _ rfl rfl (WY _ _)) (hS _ _ hI)<|d7 7 9 (.slice ya n2 yc) 12 rfl rfl (j2 ⟨w.heap.size,1,none⟩ (fun W hW=>Rg.ae _ _ Tryz.underlying26 ((Below.cell (p:=⟨w.heap.size,1,none⟩) hW B1.u.lt).trans B1.u.cell))) (hS _ _ hI) ?_;go_frame;refine Rg.Any.one (i:=3) (by kernel_rfl) (Rg.Any.ask (some 8) rfl rfl rfl _ _ (ax 205 _ _ _ rfl rfl rfl (Lt _ _)) ?_);refine (IU xa xc _ w2).mono ?_;rintro e1 w3 ⟨rfl,hb⟩;have br:=Rg.acc hI hb;clear hb hI;refine ⟨_,rfl,(hS _ _ br),?_⟩;go_frame;refine Rg.Any.one (i:=4) (by kernel_rfl) (Rg.Any.ask (some 9) rfl rfl rfl _ _ (aA 94 _ _ rfl rfl (J1 _ _)) ?_);refine (qI none 0 0 w3).mono ?_;rintro e1 w4 ⟨fb,rfl,nP,hb⟩;have bE:=Rg.acc br hb;have cM:=hb;clear hb br;refine ⟨_,rfl,(hS _ _ bE),?_⟩;go_frame;have FB:=U nP;refine Rg.Any.one (i:=5) (by kernel_rfl) (Rg.Any.ask (some 10) rfl rfl rfl _ _ (aA 93 _ _ rfl rfl (J2 _ _)) ?_);refine (ER fb w4 FB.u).mono ?_;rintro e1 w5 ⟨rfl,hb⟩;have gR:=Rg.acc cM hb;have cG:=Rg.acc bE hb;have fP:=hb;clear hb cM bE;refine ⟨_,rfl,(hS _ _ cG),?_⟩
  go_frame;refine Rg.Any.one (i:=8) (by kernel_rfl) (Rg.Any.ask (some 13) rfl rfl rfl _ _ (ax 126 _ _ _ rfl rfl rfl (Eo _ _)) ?_);refine (ng _ _ [] (Ma.ah t) w5 (OU _) (NY.u.p cG).i).mono ?_;rintro e1 w6 ⟨rfl,hb⟩;have nU:=Rg.acc fP hb;have qX:=Rg.acc gR hb;have iT:=Rg.acc cG hb;have ES:=hb;clear hb fP gR cG;refine ⟨_,rfl,(hS _ _ iT),?_⟩;go_frame;refine j1 9 4 rfl rfl (Rg.cD (v:=(.bool (decide (([]:List Int)=Ma.ah t)))) _ rfl rfl) (hS _ _ iT) ?_;go_frame;refine Rg.Any.done (by kernel_rfl) ?_ _;replace NX:=U (NX.u.p iT);replace NY:=U (NY.u.p iT);replace NG:=U (NG.u.p iT);replace B0:=U (B0.u.p iT);replace B1:=U (B1.u.p iT);replace FB:=U (FB.u.p nU);replace K:=U (Rg.acc K.u iT);clear hS nU qX iT ES;clear nP;go_wp2;go_ret;exact ⟨rfl,K.u⟩
 case neg =>
  have HP:=U (show 1<=(Ma.ah (s.map (ap g))).length by rw [Ma.aB,List.length_map]; exact List.length_pos_iff.2 h0);have HQ:=U (show (Ma.ah (s.map (ap g))).length<=1000000 by rw [Ma.aB,List.length_map]; have:=HL.u; omega);go_upto_region 1 with fail;have aj:BE w1 w1.drew:=(Below.refl _ _).drew;replace NX:=U (NX.u.p aj);replace NY:=U (NY.u.p aj);replace NG:=U (NG.u.p aj);replace B0:=U (B0.u.p aj);replace B1:=U (B1.u.p aj);replace K:=U (Rg.acc K.u aj);clear aj;refine Rg.Any.begin (S:=Rg.aK 9 (fun _=>True) (fun W=>Below w1.drew.heap.size w1.drew W)) mix ?_;generalize w1.drew=jD at *;have hS:∀ (l:Array Bool) W,BE jD W->Rg.aK 9 (fun _=>True) (fun W=>BE jD W) l W:=fun l W h=>⟨.inr trivial,h⟩;have hI:BE jD jD:=Below.refl _ _;refine d7 0 9 (.pointer (some ⟨w.heap.size,0,none⟩)) 5 rfl rfl (j3 fun w=>aw _ rfl rfl (WX _ _)) (hS _ _ hI)<|d7 1 9 (.slice xa n xc) 6 rfl rfl (j2 ⟨w.heap.size,0,none⟩ (fun W hW=>Rg.ae _ _ Tryz.underlying26 ((Below.cell (p:=⟨w.heap.size,0,none⟩) hW B0.u.lt).trans B0.u.cell))) (hS _ _ hI)<|d8 2 9 (.slice ga n3 gc) 7 (hS _ _ hI)<|d7 6 9 (.pointer (some ⟨w.heap.size,1,none⟩)) 11 rfl rfl (j3 fun w=>aw _ rfl rfl (WY _ _)) (hS _ _ hI)<|d7 7 9 (.slice ya n2 yc) 12 rfl rfl (j2 ⟨w.heap.size,1,none⟩ (fun W hW=>Rg.ae _ _ Tryz.underlying26 ((Below.cell (p:=⟨w.heap.size,1,none⟩) hW B1.u.lt).trans B1.u.cell))) (hS _ _ hI) ?_;go_frame;refine Rg.Any.one (i:=3) (by kernel_rfl) (Rg.Any.ask (some 8) rfl rfl rfl _ _ (ax 205 _ _ _ rfl rfl rfl (Lt _ _)) ?_);refine (vN hN _ _ s g jD NX.u.i iU HL.u NG.u.i GG.u).mono ?_;rintro e1 sm ⟨iv,rfl,p8,hb⟩;obtain ⟨ia,ic,dG⟩:=p8.shape;subst dG;have xq:=Rg.acc hI hb;clear hb hI;refine ⟨_,rfl,(hS _ _ xq),?_⟩;go_frame;have RO:=U p8;refine Rg.Any.one (i:=4) (by kernel_rfl) (Rg.Any.ask (some 9) rfl rfl rfl _ _ (aA 94 _ _ rfl rfl (J1 _ _)) ?_);refine (qI _ _ _ sm).mono ?_;rintro e1 Zv ⟨fb,rfl,nP,hb⟩;have xr:=Rg.acc xq hb;have xt:=hb;clear hb xq;refine ⟨_,rfl,(hS _ _ xr),?_⟩;go_frame;have FB:=U nP;refine Rg.Any.one (i:=5) (by kernel_rfl) (Rg.Any.ask (some 10) rfl rfl rfl _ _ (aA 93 _ _ rfl rfl (J2 _ _)) ?_);refine (xS fb _ (Ma.ah (s.map (ap g))) HP.u HQ.u Zv FB.u.lt FB.u.cell (Ly (RO.u.p xt) HP.u HQ.u)).mono ?_
  rintro e1 w25 ⟨zv,rfl,hzv,hb⟩;have AE:=Rg.acc xt hb;have uf:=Rg.acc xr hb;have AG:=hb;clear hb xt xr;refine ⟨_,rfl,(hS _ _ uf),?_⟩;go_frame;have RZ:=U (g_.mk (by rw [qC]; exact hzv));refine Rg.Any.one (i:=8) (by kernel_rfl) (Rg.Any.ask (some 13) rfl rfl rfl _ _ (ax 126 _ _ _ rfl rfl rfl (Eo _ _)) ?_);refine (ng _ _ (Ob.jB (Ma.ah (s.map (ap g)))) (Ma.ah t) w25 ((RZ.u.fi (by rw [qC]; have:=HQ.u; omega) (G:=fun _=>True) (fun _ _ _=>trivial)).ints) (NY.u.p uf).i).mono ?_;rintro e1 mT ⟨rfl,hb⟩;have AH:=Rg.acc AG hb;have AI:=Rg.acc AE hb;have lF:=Rg.acc uf hb;have AJ:=hb;clear hb AG AE uf;refine ⟨_,rfl,(hS _ _ lF),?_⟩;go_frame;refine Rg.Any.one (i:=9) (by kernel_rfl) (Rg.Any.run (some 4) rfl rfl rfl (Rg.cD (v:=(.bool (decide (Ob.jB (Ma.ah (s.map (ap g)))=Ma.ah t)))) _ rfl rfl) (hS _ _ lF) ?_);go_frame;refine Rg.Any.done (by kernel_rfl) ?_ _;replace NX:=U (NX.u.p lF);replace NY:=U (NY.u.p lF);replace NG:=U (NG.u.p lF);replace B0:=U (B0.u.p lF);replace B1:=U (B1.u.p lF);replace RO:=U (RO.u.p AI);replace FB:=U (FB.u.p AH);replace RZ:=U (RZ.u.p AJ);replace K:=U (Rg.acc K.u lF);clear hS AH AI lF AJ;clear p8 nP hzv;go_wp2;go_ret;exact ⟨by rw [<- hA.u]; rfl,K.u⟩

theorem Lz (args:Array Value) (w:World):(callFunc 67 args).run Tryz.prog w=.ok (.enter 67 args) w:=by kernel_rfl
theorem IY {w:World} {b:Nat} {x y:Value} (h0:w.cell? ⟨b,1,none⟩=some x) (h1:w.cell? ⟨b,2,none⟩=some y) (h2:w.cell? ⟨b,3,none⟩=some z):(loadVar 25 ⟨b,1,none⟩).run Tryz.prog w=.ok (.agg #[x,y,z]) w:=by
 obtain ⟨i0,hi,dw,bJ,dZ⟩:=info_parts iu
 have zE:(⟨b,1,none⟩:Addr).add 0=⟨b,1,none⟩:=by simp [Addr.add]
 have kF:(⟨b,1,none⟩:Addr).add 1=⟨b,2,none⟩:=by simp [Addr.add]
 have oA:(⟨b,1,none⟩:Addr).add 2=⟨b,3,none⟩:=by simp [Addr.add]
 have hg:(isAgg 25).run Tryz.prog w=.ok true w:=by kernel_rfl
 simp [loadVar,hg,sizeOf,typeInfo,hi,bJ,loadCells,loadCellsFrom,load,zE,kF,oA];simp [Sem.run,h0,h1,h2]
theorem ET (w:World) (x y z u:Value) (t:TypeId):CL (w.alloc (.cells #[x,y,z,u] t)) w.heap.size 0 x/\CL (w.alloc (.cells #[x,y,z,u] t)) w.heap.size 1 y/\CL (w.alloc (.cells #[x,y,z,u] t)) w.heap.size 2 z/\CL (w.alloc (.cells #[x,y,z,u] t)) w.heap.size 3 u :=
 ⟨CL.mk (by rw [Rg.aW]; rfl) (by simp),CL.mk (by rw [Rg.aW]; rfl) (by simp),CL.mk (by rw [Rg.aW]; rfl) (by simp),CL.mk (by rw [Rg.aW]; rfl) (by simp)⟩
theorem IZ (eI:1<=N) (hN:N<=64) (lv ov rv gv:Value) (gens:List (List Nat)) (n:Int) (OO:List (List Int)) (RR:List (List (List Int))) (g:List Nat) (w:World) (hl:Rg.Rows w lv (gens.map Ma.ah)) (eH:∀ x∈gens,Gd N x) (hc:bl w ov rv OO RR) (hg:Rg.NP w gv g) (gg:Gd N g) :
  Calls Tryz.prog 207 #[.agg #[lv,.int .i64 n,ov,rv],gv] w fun e w'=>e=.returned (.bool (gens.all fun x=>sC n OO RR (Ma.ah (kb x g))))/\BE w w':=by
 obtain ⟨la,lc,rfl,_,Bk,-,-⟩:=hl.shape;rw [List.length_map] at hl Bk ⊢;obtain ⟨oa,oc,rfl,-⟩:=hc.1.shape;obtain ⟨ra,rc,rfl⟩:=hc.2.shape;obtain ⟨n3,ga,gc,S0,rfl,-⟩:=Rg.Ints.len hg;have HL:=U (gJ.mk hl);have CE:=U hc;have NG:=U (dM.mk hg);have GG:=U gg;have HG:=U eH;have K:=U (bi w);obtain ⟨pb,k_⟩:∃ b,Hid ((gens.all fun x=>sC n OO RR (Ma.ah (kb x g)))=b):=⟨_,U rfl⟩;rw [k_.u];clear hl hc hg gg S0 eH
 go_enter Tryz.func207,Tryz.ntmps207
 go_upto_region 0 with fail;refine c6 ?_;have aN:=ET w (.slice la gens.length lc) (.int .i64 n) (.slice oa OO.length oc) (.slice ra RR.length rc) 99;refine k8 (Rg.aY _ _ rfl rfl) ?_;go_frame;have hb:=be w (.cells #[.slice la gens.length lc,.int .i64 n,.slice oa OO.length oc,.slice ra RR.length rc] 99);generalize w.alloc (.cells #[.slice la gens.length lc,.int .i64 n,.slice oa OO.length oc,.slice ra RR.length rc] 99)=w1 at *;replace HL:=U (HL.u.p hb);replace CE:=U (CE.u.p hb);replace NG:=U (NG.u.p hb);replace K:=U (Rg.acc K.u hb);clear hb;have B0:=U aN.1;have B1:=U aN.2.1;have B2:=U aN.2.2.1;have B3:=U aN.2.2.2;clear aN;refine k7 rfl ?_;go_frame;go_upto_region 1 with fail;refine c6<|k8 (j4 (abh _ _))<|k8 (g7 (.slice la gens.length lc) ⟨w.heap.size,0,none⟩ (Rg.ae _ _ Tryz.underlying41 B0.u.cell))<|k8 (g9 Tryz.underlying41)<|j7 rfl ?_;go_frame;go_wp2
 go_loopw [14] (fun iv wr=>∃ k:Nat,iv=.int .i64 ((k:Nat):Int)/\k<=gens.length/\Hid (∀ i (h:i<gens.length),i<k->sC n OO RR (Ma.ah (kb gens[i] g))=true)/\Hid (BE w wr)/\Hid (Rg.Rows wr (.slice la gens.length lc) (gens.map Ma.ah))/\Hid (bl wr (.slice oa OO.length oc) (.slice ra RR.length rc) OO RR)/\Hid (dM wr (.slice ga n3 gc) (Ma.ah g))/\Hid (CL wr w.heap.size 1 (.int .i64 n)/\CL wr w.heap.size 2 (.slice oa OO.length oc)/\CL wr w.heap.size 3 (.slice ra RR.length rc))) (fun iv _=>gens.length - (intOf iv).toNat)
 case atStart=>exact ⟨0,rfl,Nat.zero_le _,U (fun i h h0=>absurd h0 (Nat.not_lt_zero _)),K,U HL.u.r,CE,NG,U ⟨B1.u,B2.u,B3.u⟩⟩
 case round =>
  clear K HL CE NG B0 B1 B2 B3;obtain ⟨k,rfl,hk,HA,K,Lf,CE,NG,HB⟩:=hrel;generalize wr=wA at *;have HL:=U (gJ.mk Lf.u);have B1:=U HB.u.1;have B2:=U HB.u.2.1;have B3:=U HB.u.2.2;clear Lf HB
  by_cases az:k<gens.length
  case neg =>
   obtain rfl:k=gens.length:=by omega
   have HX:=U (show true=pb by
    rw [<- k_.u]
    symm
    rw [List.all_eq_true];intro x hx;obtain ⟨i,hi,rfl⟩:=List.getElem_of_mem hx
    exact HA.u i hi hi)
   go_upto_region 2 with fail;refine c6<|k8 (g8 (.bool false) .lss (h:=aI _ f8)) ?_;go_frame;go_upto_region 9 with fail;refine c6<|k7 rfl ?_;go_frame;go_wp2;go_ret;exact ⟨Rg.cN HX.u,K.u⟩
  case pos =>
   obtain ⟨lb,lo,_,_,e1,bZ,dp,cA⟩:=fQ HL.u.r (i:=k) (by rw [List.length_map]; exact az);subst e1;obtain ⟨x,hx⟩:∃ x,Hid (gens[k]=x):=⟨_,U rfl⟩;have GX:=U (show Gd N x from hx.u▸HG.u _ (List.getElem_mem az));rw [List.getElem_map,hx.u] at dp cA;obtain ⟨xa,xc,dG,-⟩:=cA.shape
   rename_i Y4 Y6
   have CX:=U (CL.mk dp bZ);have NX:=U (dM.mk cA);clear bZ dp cA dG;obtain ⟨ib,I2⟩:∃ b,Hid (sC n OO RR (Ma.ah (kb x g))=b):=⟨_,U rfl⟩;go_upto_region 2 with fail;refine c6<|k8 (g8 (.bool true) .lss (h:=aI _ f7)) ?_;go_frame;go_upto_region 3 with fail;refine c6<|k8 (ag aM _ _ rfl lb (lo) (gens.length) lc (k) rfl rfl (by omega))<|k8 (g7 (.slice Y4 (Ma.ah x).length Y6) ⟨lb,lo+k,none⟩ (Rg.ae _ _ Tryz.underlying27 CX.u.cell))<|j8 rfl ?_;go_frame;go_upto_region 4 with fail;refine c6<|j8 rfl<|j8 rfl ?_;go_frame;refine f4 21 (ax 202 _ _ _ rfl rfl rfl (SY _ _)) ?_;refine (vM eI hN _ _ x g wA NX.u.i NG.u.i GX.u GG.u).mono ?_;rintro e1 jD ⟨cv,rfl,hcv,hb⟩;refine ⟨_,rfl,?_⟩;go_frame;replace HL:=U (HL.u.p hb);replace CE:=U (CE.u.p hb);replace NG:=U (NG.u.p hb);replace B1:=U (B1.u.p hb);replace B2:=U (B2.u.p hb);replace B3:=U (B3.u.p hb);replace CX:=U (CX.u.p hb);replace NX:=U (NX.u.p hb);replace K:=U (Rg.acc K.u hb);clear hb;have NC:=U (dM.mk hcv.1);refine j6 (.tuple #[cv,.int .i64 0]) rfl<|k8 (i9 (cv))<|k8 (i9 (.int .i64 0))<|j6 (cv) rfl<|j7 rfl ?_;go_frame;clear hcv;go_upto_region 5 with fail;refine c6<|k8 (j4 (abi _ _))<|k8 (g7 ((.agg #[.int .i64 n,.slice oa OO.length oc,.slice ra RR.length rc])) ⟨w.heap.size,1,none⟩ (IY B1.u.cell B2.u.cell B3.u.cell))<|j6 (cv) rfl ?_;go_frame;refine f4 28 (ax 67 _ _ _ rfl rfl rfl (Lz _ _)) ?_;refine (xh CE.u NC.u.i).mono ?_;rintro e1 sm ⟨rfl,hb⟩;refine ⟨_,rfl,?_⟩;go_frame;replace HL:=U (HL.u.p hb);replace CE:=U (CE.u.p hb);replace NG:=U (NG.u.p hb);replace B1:=U (B1.u.p hb);replace B2:=U (B2.u.p hb);replace B3:=U (B3.u.p hb);replace CX:=U (CX.u.p hb);replace NX:=U (NX.u.p hb);replace NC:=U (NC.u.p hb);replace K:=U (Rg.acc K.u hb);clear hb
   refine k8 (Rg.bQ (v:=.tuple #[(.bool (sC n OO RR (Ma.ah (kb x g)))),.int .i64 (iA n OO RR (Ma.ah (kb x g)))]) _ rfl rfl)<|k8 (i9 ((.bool (sC n OO RR (Ma.ah (kb x g))))))<|k8 (i9 (.int .i64 (iA n OO RR (Ma.ah (kb x g)))))<|k8 (Rg.cD (v:=(.bool (sC n OO RR (Ma.ah (kb x g))))) _ rfl rfl)<|j7 rfl ?_;go_frame;rw [I2.u]
   by_cases wX:ib=true
   case pos =>
    subst wX;go_upto_region 6 with fail;refine c6<|k7 rfl<|k8 (bw _ _ true rfl rfl) ?_;go_frame;go_upto_region 8 with fail;refine c6<|k8 (g8 (.int .i64 (((k+1):Nat):Int)) .add (h:=bD _ (by omega) (by omega)))<|j7 rfl ?_;go_frame
    have fC:=U (show ∀ i (h:i<gens.length),i<k+1->sC n OO RR (Ma.ah (kb gens[i] g))=true from fun i h hi=>by
     by_cases e:i=k
     ·subst e; rw [hx.u]; exact I2.u
     ·exact HA.u i h (by omega))
    have Lf:=U HL.u.r;have HB:=U (⟨B1.u,B2.u,B3.u⟩:CL _ _ _ _/\CL _ _ _ _/\CL _ _ _ _);clear HA HL CX NX NC;go_wp2;go_roundw
    case rel=>exact ⟨k+1,by go_num,az,fC,K,Lf,CE,NG,HB⟩
    case measure=>simp [intOf]; omega
   case neg =>
    obtain rfl:ib=false:=by cases ib <;> simp at wX ⊢
    go_upto_region 6 with fail;refine c6<|k7 rfl<|k8 (bw _ _ false rfl rfl) ?_;go_frame;go_upto_region 7 with fail;refine c6<|k7 rfl ?_;go_frame
    have HX:=U (show false=pb by
     rw [<- k_.u]
     symm
     rw [List.all_eq_false]
     exact ⟨x,hx.u▸List.getElem_mem az,by rw [I2.u]; decide⟩)
    go_wp2;go_ret;exact ⟨Rg.cN HX.u,K.u⟩

theorem Zw (args:Array Value) (w:World):(callFunc 134 args).run Tryz.prog w=.ok (.enter 134 args) w:=by kernel_rfl
abbrev dA:=Int × List (List Int) × List (List (List Int))
structure mU (b:Nat) (CS:List dA) (W:World):Prop where
 lt:b<W.heap.size
 at_:∀ i (h:i<CS.length),∃ oa on oc ra rn rc,W.cell? ⟨b,i*3,none⟩=some (.int .i64 CS[i].1)/\W.cell? ⟨b,i*3+1,none⟩=some (.slice oa on oc)/\W.cell? ⟨b,i*3+2,none⟩=some (.slice ra rn rc)/\bl W (.slice oa on oc) (.slice ra rn rc) CS[i].2.1 CS[i].2.2
theorem mU.p {b:Nat} {CS:List dA} {W W':World} (h:mU b CS W) (hb:BE W W'):mU b CS W' :=
 ⟨Nat.lt_of_lt_of_le h.lt hb.size,fun i hi=>by
  obtain ⟨oa,on,oc,ra,rn,rc,h0,h1,h2,h3⟩:=h.at_ i hi
  exact ⟨oa,on,oc,ra,rn,rc,(hb.cell (p:=⟨b,i*3,none⟩) h.lt).trans h0,(hb.cell (p:=⟨b,i*3+1,none⟩) h.lt).trans h1,(hb.cell (p:=⟨b,i*3+2,none⟩) h.lt).trans h2,h3.p hb⟩⟩
theorem jA {w:World} {b o:Nat} {x y:Value} (h0:w.cell? ⟨b,o,none⟩=some x) (h1:w.cell? ⟨b,o+1,none⟩=some y) (h2:w.cell? ⟨b,o+2,none⟩=some z):(loadVar 25 ⟨b,o,none⟩).run Tryz.prog w=.ok (.agg #[x,y,z]) w:=by
 obtain ⟨i0,hi,dw,bJ,dZ⟩:=info_parts iu
 have zE:(⟨b,o,none⟩:Addr).add 0=⟨b,o,none⟩:=by simp [Addr.add]
 have kF:(⟨b,o,none⟩:Addr).add 1=⟨b,o+1,none⟩:=by simp [Addr.add]
 have oA:(⟨b,o,none⟩:Addr).add 2=⟨b,o+2,none⟩:=by simp [Addr.add]
 have hg:(isAgg 25).run Tryz.prog w=.ok true w:=by kernel_rfl
 simp [loadVar,hg,sizeOf,typeInfo,hi,bJ,loadCells,loadCellsFrom,load,zE,kF,oA];simp [Sem.run,h0,h1,h2]
theorem fU:(Tryz.prog.info? 25).map (·.size)=some 3:=by kernel_rfl
theorem Ps (n m:Int) (ov rv:Value) (nb:Nat) (w:World) (h:w.cell? ⟨nb,0,none⟩=some (.int .i64 n)) (vO:nb<w.heap.size) :
  Calls Tryz.prog 101 #[.agg #[.int .i64 m,ov,rv],.pointer (some ⟨nb,0,none⟩)] w fun e w'=>e=.returned (.bool (decide (m≠n)))/\BE w w':=by
 have N0:=U (CL.mk h vO);have K:=U (bi w);obtain ⟨bb,nA⟩:∃ b,Hid (decide (m≠n)=b):=⟨_,U rfl⟩;rw [nA.u];clear h vO
 go_enter Tryz.func101,Tryz.ntmps101
 go_upto_region 0 with fail;refine c6 ?_;have aN:=eA w (.int .i64 m) (ov) (rv);refine k8 (Rg.aY _ _ rfl rfl) ?_;go_frame;have hb:=be w (.cells #[.int .i64 m,ov,rv] 25);generalize w.alloc (.cells #[.int .i64 m,ov,rv] 25)=w1 at *;replace N0:=U (N0.u.p hb);replace K:=U (Rg.acc K.u hb);clear hb;have A0:=U aN.1;have A1:=U aN.2.1;have A2:=U aN.2.2;clear aN;refine k7 rfl ?_;go_frame;go_upto_region 1 with fail;refine c6<|k8 (j4 (cT _ _))<|k8 (g7 (.int .i64 m) ⟨w.heap.size,0,none⟩ (af A0.u.cell))<|k8 (g7 (.int .i64 n) ⟨nb,0,none⟩ (af N0.u.cell))<|k8 (g8 (.bool bb) .neq (h:=aE _ nA.u)) ?_;go_frame;refine k7 rfl ?_;go_frame;go_wp2;go_ret;exact ⟨rfl,K.u⟩
theorem Ds (n:Int) (pv:Value) (pl:List Int) (nb:Nat) (w:World) (h:w.cell? ⟨nb,0,none⟩=some (.int .i64 n)) (vO:nb<w.heap.size) (hp:Rg.Ints w pv pl) :
  Calls Tryz.prog 103 #[pv,.pointer (some ⟨nb,0,none⟩)] w fun e w'=>e=.returned (.bool (decide ((pl.length:Int)≠n)))/\BE w w':=by
 obtain ⟨m,pa,pc,hm,rfl,-⟩:=hp.len;rw [hm];have N0:=U (CL.mk h vO);have K:=U (bi w);obtain ⟨bb,nA⟩:∃ b,Hid (decide (((m:Nat):Int)≠n)=b):=⟨_,U rfl⟩;rw [nA.u];clear h vO hp hm
 go_enter Tryz.func103,Tryz.ntmps103
 go_upto_region 0 with fail;refine c6<|k7 rfl ?_;go_frame;go_upto_region 1 with fail;refine c6<|j8 rfl<|k8 (g9 Tryz.underlying27)<|k8 (g7 (.int .i64 n) ⟨nb,0,none⟩ (af N0.u.cell))<|k8 (g8 (.bool bb) .neq (h:=aE _ nA.u)) ?_;go_frame;refine k7 rfl ?_;go_frame;go_wp2;go_ret;exact ⟨rfl,K.u⟩
def dv (n:Int) (p:Int):Bool:=decide (p<0) || decide (n<=p)
theorem rX (n x:Int) (nb:Nat) (w:World) (h:w.cell? ⟨nb,0,none⟩=some (.int .i64 n)) (vO:nb<w.heap.size) :
  Calls Tryz.prog 104 #[.int .i64 x,.pointer (some ⟨nb,0,none⟩)] w fun e w'=>e=.returned (.bool (dv n x))/\BE w w':=by
 have N0:=U (CL.mk h vO);have K:=U (bi w);obtain ⟨b2,dh⟩:∃ b,Hid (decide (n<=x)=b):=⟨_,U rfl⟩;clear h vO
 by_cases h0:x<0
 case pos =>
  have HE:=U (show dv n x=true by unfold dv; rw [decide_eq_true h0]; rfl);rw [HE.u]
  go_enter Tryz.func104,Tryz.ntmps104
  go_upto_region 0 with fail;refine c6<|k7 rfl ?_;go_frame;go_upto_region 1 with fail;refine c6<|j7 rfl<|k8 (g8 (.bool true) .lss (h:=aI _ f7))<|k7 rfl<|f9 7 ?_;go_frame;refine f9 8<|f9 9<|k8 (i8 (.bool true))<|k7 rfl ?_;go_frame;go_wp2;go_ret;exact ⟨rfl,K.u⟩
 case neg =>
  have HE:=U (show dv n x=b2 by unfold dv; rw [decide_eq_false h0,dh.u]; rfl);rw [HE.u]
  go_enter Tryz.func104,Tryz.ntmps104
  go_upto_region 0 with fail;refine c6<|k7 rfl ?_;go_frame;go_upto_region 1 with fail;refine c6<|j7 rfl<|k8 (g8 (.bool false) .lss (h:=aI _ f8))<|k7 rfl<|j7 rfl ?_;go_frame;refine k8 (g7 (.int .i64 n) ⟨nb,0,none⟩ (af N0.u.cell))<|k8 (g8 (.bool b2) .geq (h:=nG _ dh.u))<|k8 (i7 (.bool b2))<|k7 rfl ?_;go_frame;go_wp2;go_ret;exact ⟨rfl,K.u⟩
theorem I3 (n:Int) (b cap nb:Nat) (CS:List dA) (w:World) (hc:mU b CS w) (h:w.cell? ⟨nb,0,none⟩=some (.int .i64 n)) (vO:nb<w.heap.size) (hl:CS.length<=1000) :
  Calls Tryz.prog 134 #[.slice (some ⟨b,0,none⟩) CS.length cap,.func (.func 101) #[] #[.pointer (some ⟨nb,0,none⟩)]] w fun e w'=>(∃ i:Int,e=.returned (.int .i64 i)/\decide (0<=i)=CS.any (fun c=>decide (c.1≠n)))/\BE w w':=by
 have HC:=U hc;have N0:=U (CL.mk h vO);have K:=U (bi w);clear hc h vO
 go_enter Tryz.func134,Tryz.ntmps134
 go_upto_region 0 with fail;refine c6<|j7 rfl ?_;go_frame;go_upto_region 1 with fail;refine c6<|j8 rfl<|k8 (g9 Tryz.underlying71)<|j7 rfl ?_;go_frame;go_wp2
 go_loopw [8] (fun iv wr=>∃ k:Nat,iv=.int .i64 ((k:Nat):Int)/\k<=CS.length/\Hid (∀ i (h:i<CS.length),i<k->CS[i].1=n)/\Hid (BE w wr)) (fun iv _=>CS.length - (intOf iv).toNat)
 case atStart=>exact ⟨0,rfl,Nat.zero_le _,U (fun i h h0=>absurd h0 (Nat.not_lt_zero _)),K⟩
 case round =>
  obtain ⟨k,rfl,hk,HA,KR⟩:=hrel;generalize wr=wA at *;replace HC:=U (HC.u.p KR.u);replace N0:=U (N0.u.p KR.u);clear K
  by_cases az:k<CS.length
  case neg =>
   obtain rfl:k=CS.length:=by omega
   have HX:=U (show decide ((0:Int)<=-1)=CS.any (fun c=>decide (c.1≠n)) by
    symm
    rw [show decide ((0:Int)<=-1)=false from rfl,List.any_eq_false];intro c hc;obtain ⟨i,hi,rfl⟩:=List.getElem_of_mem hc
    simp [HA.u i hi hi])
   go_upto_region 2 with fail;refine c6<|k8 (g8 (.bool false) .lss (h:=aI _ f8)) ?_;go_frame;go_upto_region 7 with fail;refine c6<|j7 rfl ?_;go_frame;go_wp2;go_ret;exact ⟨⟨_,rfl,HX.u⟩,KR.u⟩
  case pos =>
   obtain ⟨oa,on,oc,ra,rn,rc,q0,q1,q2,q3⟩:=HC.u.at_ k az;obtain ⟨m,hm⟩:∃ m,Hid (CS[k].1=m):=⟨_,U rfl⟩;rw [hm.u] at q0;have sG:=jA q0 q1 q2;clear q0 q1 q2 q3;obtain ⟨bb,nA⟩:∃ b,Hid (decide (m≠n)=b):=⟨_,U rfl⟩;have S1:=Ps n m (.slice oa on oc) (.slice ra rn rc) nb wA N0.u.cell N0.u.lt;rw [nA.u] at S1;go_upto_region 2 with fail;refine c6<|k8 (g8 (.bool true) .lss (h:=aI _ f7)) ?_;go_frame;go_upto_region 3 with fail;refine c6<|j7 rfl<|j7 rfl ?_;go_frame;go_upto_region 4 with fail;refine c6<|j6 ((.func (.func 101) #[] #[.pointer (some ⟨nb,0,none⟩)])) rfl<|j8 rfl<|j7 rfl<|k8 (bn _ _ rfl Tryz.underlying71 fU b (CS.length) (cap) (k) rfl rfl (by omega)) ?_;go_frame;refine k8 (Rg.eK (v:=(.agg #[.int .i64 m,.slice oa on oc,.slice ra rn rc])) _ _ rfl ⟨b,k*3,none⟩ rfl sG) ?_;go_frame;refine f4 16 (KH 101 _ _ _ rfl rfl rfl (by kernel_rfl)) ?_;refine (S1).mono ?_;rintro e1 dr ⟨rfl,hb⟩;refine ⟨_,rfl,?_⟩;go_frame;replace HC:=U (HC.u.p hb);replace N0:=U (N0.u.p hb);replace KR:=U (Rg.acc KR.u hb);clear hb;clear sG S1
   cases bb
   case true =>
    have HX:=U (show decide ((0:Int)<=(k:Int))=CS.any (fun c=>decide (c.1≠n)) by
     symm
     rw [decide_eq_true (Int.natCast_nonneg k),List.any_eq_true]
     exact ⟨CS[k],List.getElem_mem az,by rw [hm.u]; exact nA.u⟩)
    go_upto_region 5 with fail;refine c6<|j7 rfl<|j7 rfl ?_;go_frame;go_wp2;go_ret;exact ⟨⟨_,rfl,HX.u⟩,KR.u⟩
   case false =>
    have HB:=U (show ∀ i (h:i<CS.length),i<k+1->CS[i].1=n from fun i h hi=>by
     by_cases e:i=k
     ·subst e
      have:=of_decide_eq_false nA.u;rw [hm.u];exact Classical.not_not.1 this
     ·exact HA.u i h (by omega))
    go_upto_region 6 with fail;refine c6<|k8 (g8 (.int .i64 (((k+1):Nat):Int)) .add (h:=bD _ (by omega) (by omega)))<|j7 rfl ?_;go_frame;clear HA HC N0;go_wp2;go_roundw
    case rel=>exact ⟨k+1,by go_num,az,HB,KR⟩
    case measure=>simp [intOf]; omega
theorem mE (n:Int) (b cap nb:Nat) (CS:List dA) (w:World) (hc:mU b CS w) (h:w.cell? ⟨nb,0,none⟩=some (.int .i64 n)) (vO:nb<w.heap.size) (hl:CS.length<=1000) :
  Calls Tryz.prog 100 #[.slice (some ⟨b,0,none⟩) CS.length cap,.func (.func 101) #[] #[.pointer (some ⟨nb,0,none⟩)]] w fun e w'=>e=.returned (.bool (CS.any (fun c=>decide (c.1≠n))))/\BE w w':=by
 have HI:=U (I3 n b cap nb CS w hc h vO hl);have K:=U (bi w);clear hc h vO
 go_enter Tryz.func100,Tryz.ntmps100
 go_upto_region 0 with fail;refine c6<|k7 rfl ?_;go_frame;go_upto_region 1 with fail;refine c6<|j8 rfl<|j6 ((.func (.func 101) #[] #[.pointer (some ⟨nb,0,none⟩)])) rfl ?_;go_frame;refine f4 7 (ax 134 _ _ _ rfl rfl rfl (Zw _ _)) ?_;refine (HI.u).mono ?_;rintro e1 w1 ⟨⟨ix,rfl,ze⟩,hb⟩;have HX:=U ze;refine ⟨_,rfl,?_⟩;go_frame;replace K:=U (Rg.acc K.u hb);clear hb;refine k8 (g8 (.bool (decide ((0:Int)<=ix))) .geq (h:=nG _ rfl))<|k7 rfl ?_;go_frame;clear ze HI;rw [HX.u];go_wp2;go_ret;exact ⟨rfl,K.u⟩

theorem LA (args:Array Value) (w:World):(callFunc 100 args).run Tryz.prog w=.ok (.enter 100 args) w:=by kernel_rfl
theorem S2 (args:Array Value) (w:World):(callFunc 102 args).run Tryz.prog w=.ok (.enter 102 args) w:=by kernel_rfl
theorem EU (args:Array Value) (w:World):(callFunc 105 args).run Tryz.prog w=.ok (.enter 105 args) w:=by kernel_rfl
theorem Zx (args:Array Value) (w:World):(callFunc 106 args).run Tryz.prog w=.ok (.enter 106 args) w:=by kernel_rfl
theorem yf (b:Nat) (w:World):(Instr.fieldAt 73 (.pointer (some ⟨b,0,none⟩)) 0).run Tryz.prog w=.ok (.pointer (some ⟨b,0,none⟩)) w:=by kernel_rfl
theorem S3 (b:Nat) (w:World):(Instr.fieldAt 73 (.pointer (some ⟨b,0,none⟩)) 1).run Tryz.prog w=.ok (.pointer (some ⟨b,1,none⟩)) w:=by kernel_rfl
theorem abj (b:Nat) (w:World):(Instr.fieldAt 73 (.pointer (some ⟨b,0,none⟩)) 2).run Tryz.prog w=.ok (.pointer (some ⟨b,2,none⟩)) w:=by kernel_rfl
theorem abk (b:Nat) (w:World):(Instr.fieldAt 73 (.pointer (some ⟨b,0,none⟩)) 3).run Tryz.prog w=.ok (.pointer (some ⟨b,3,none⟩)) w:=by kernel_rfl
noncomputable def hU:List dA->Int
 | []=>0
 | c :: l=>if bI c.1 c.2.1 c.2.2=0 then hU l else bI c.1 c.2.1 c.2.2
def oT (s:List Int):Prop:=∀ j (h:j<s.length),1<=j->s[j - 1]'(by omega)<s[j]
open Classical in
noncomputable def gK (n:Int) (s:List Int):Int:=if s.any (dv n)=true then 2 else if oT s then 0 else 9
noncomputable def gL (n:Int):List (List Int)->Int
 | []=>0
 | s :: l=>if gK n s=0 then gL n l else gK n s
def iO (n:Int) (t:List Int):Int:=if 64<t.length then 4 else if t.any (dv n)=true then 2 else 0
def iV (n:Int):List (List Int)->Int
 | []=>0
 | t :: l=>if iO n t=0 then iV n l else iO n t
theorem Dt {CS:List dA} {k:Nat} (hk:k<CS.length) (h:bI CS[k].1 CS[k].2.1 CS[k].2.2=0):hU (CS.drop k)=hU (CS.drop (k+1)):=by rw [List.drop_eq_getElem_cons hk,hU,if_pos h]
theorem I4 {CS:List dA} {k:Nat} (hk:k<CS.length) (h:¬ bI CS[k].1 CS[k].2.1 CS[k].2.2=0):hU (CS.drop k)=bI CS[k].1 CS[k].2.1 CS[k].2.2:=by rw [List.drop_eq_getElem_cons hk,hU,if_neg h]
theorem Pt {n:Int} {SS:List (List Int)} {k:Nat} (hk:k<SS.length) (h:gK n SS[k]=0):gL n (SS.drop k)=gL n (SS.drop (k+1)):=by rw [List.drop_eq_getElem_cons hk,gL,if_pos h]
theorem I5 {n:Int} {SS:List (List Int)} {k:Nat} (hk:k<SS.length) (h:¬ gK n SS[k]=0):gL n (SS.drop k)=gK n SS[k]:=by rw [List.drop_eq_getElem_cons hk,gL,if_neg h]
theorem Pu {n:Int} {SS:List (List Int)} {k:Nat} (hk:k<SS.length) (h:iO n SS[k]=0):iV n (SS.drop k)=iV n (SS.drop (k+1)):=by rw [List.drop_eq_getElem_cons hk,iV,if_pos h]
theorem I6 {n:Int} {SS:List (List Int)} {k:Nat} (hk:k<SS.length) (h:¬ iO n SS[k]=0):iV n (SS.drop k)=iO n SS[k]:=by rw [List.drop_eq_getElem_cons hk,iV,if_neg h]
theorem Pv {QS:List (List Nat)} (h:Rg.Rows W v (QS.map Ma.ah)):Rg.jq W v QS:=h
def sH (c:dA):Int:=if cd (c.2.1.map mQ) c.1.toNat c.1.toNat<=5040 then 0 else 5
noncomputable def eJ (n:Int) (CS:List dA) (PS SS TS:List (List Int)) (c0:dA):Int :=
 if hU CS≠0 then hU CS else if Ma.df PS≠0 then Ma.df PS else if (CS.any fun c=>decide (c.1≠n))=true∨(PS.any fun x=>decide ((x.length:Int)≠n))=true then 10 else
 if gL n SS≠0 then gL n SS else if iV n TS≠0 then iV n TS else sH c0
theorem kc:∀ {CS:List dA},hU CS=0->∀ c∈CS,bI c.1 c.2.1 c.2.2=0
 | [],_,_,hc=>by simp at hc
 | c :: l,h,d,hd=>by
  rw [hU] at h
  by_cases e:bI c.1 c.2.1 c.2.2=0
  ·rw [if_pos e] at h
   rcases List.mem_cons.1 hd with rfl | hd
   ·exact e
   ·exact kc h d hd
  ·rw [if_neg e] at h; exact absurd h e
theorem rY:∀ {ll:List (List Int)},Ma.df ll=0->∀ l∈ll,Ma.bY l=0
 | [],_,_,hc=>by simp at hc
 | c :: l,h,d,hd=>by
  rw [Ma.df] at h
  by_cases e:Ma.bY c=0
  ·rw [if_pos e] at h
   rcases List.mem_cons.1 hd with rfl | hd
   ·exact e
   ·exact rY h d hd
  ·rw [if_neg e] at h; exact absurd h e
theorem I9:∀ {PS:List (List Int)},(∀ l∈PS,Ma.bY l=0)->∃ QS:List (List Nat),PS=QS.map Ma.ah
 | [],_=>⟨[],rfl⟩
 | x :: l,h=>by
  obtain ⟨QS,rfl⟩:=I9 (fun z hz=>h z (List.mem_cons_of_mem _ hz));obtain ⟨q,rfl,_⟩:=Ma.mf (Ma.jl (h x (List.mem_cons_self ..))).2.2;exact ⟨q :: QS,rfl⟩
theorem S4 {QS:List (List Nat)} (h5:PS=QS.map Ma.ah) (W:World) (a:Option Addr) (c:Nat) (h:Rg.Rows W (.slice a PS.length c) PS):Rg.jq W (.slice a PS.length c) QS:=by
 rw [h5] at h;have:=Pv h
 rwa [h5]
theorem abl {CS:List dA} {c0:dA} {n:Int} {h1:0<CS.length} (h:CS[0]=c0) (hn:c0.1=n) (h0:hU CS=0) (_:1<=CS.length):bI n c0.2.1 c0.2.2=0:=by
 subst h hn;exact kc h0 _ (List.getElem_mem h1)
theorem S5 {n:Int} {w:World} (h0:bI n OO RR=0) (hn:n<=12) (h:bl w ov rv OO RR) :
  Calls Tryz.prog 106 #[.agg #[.int .i64 n,ov,rv]] w fun e w'=>e=.returned (.int .i64 (sH (n,OO,RR)))/\BE w w':=by
 obtain ⟨N,O,R,rfl,h1,h2,rfl,rfl,bT,hH⟩:=eU h0;refine (EP hH h1 (by omega) bT h).mono ?_;rintro e w' ⟨rfl,hb⟩;refine ⟨?_,hb⟩;unfold sH;simp only [mC,Int.toNat_natCast]
theorem vP {b cc:Nat} {CS:List dA} {AK I_ Ja:Value} {SS TS:List (List Int)} {w:World} (hC:mU b CS w) (h1:1<=CS.length) (mh:CS.length<=100) (hP:Rg.Rows w AK PS) (qt:PS.length<=100) (hS:Rg.Rows w I_ SS) (kG:SS.length<=100) (iU:∀ s∈SS,s.length<=100) (hT:Rg.Rows w Ja TS) (D9:TS.length<=100) (sI:∀ s∈TS,s.length<=100) (hn:(CS[0]'(by omega)).1<=12) :
  Calls Tryz.prog 78 #[.agg #[.slice (some ⟨b,0,none⟩) CS.length cc,AK,I_,Ja]] w fun e w'=>e=.returned (.int .i64 (eJ (CS[0]'(by omega)).1 CS PS SS TS (CS[0]'(by omega))))/\BE w w':=by
 obtain ⟨pa,pc,rfl,-⟩:=hP.shape;obtain ⟨sa,sc,rfl,-⟩:=hS.shape;obtain ⟨ta,tc,rfl,-⟩:=hT.shape;obtain ⟨c0,cI⟩:∃ c,Hid (CS[0]'(by omega)=c):=⟨_,U rfl⟩;rw [cI.u] at hn ⊢;obtain ⟨n,sY⟩:∃ n,Hid (c0.1=n):=⟨_,U rfl⟩;rw [sY.u];obtain ⟨G,hG⟩:∃ z,Hid (eJ n CS PS SS TS c0=z):=⟨_,U rfl⟩;rw [hG.u];have HN:=U hn;have HC:=U hC;have RP:=U (gJ.mk hP);have cB:=U (gJ.mk hS);have RT:=U (gJ.mk hT);have xu:=U iU;have lG:=U sI;have K:=U (bi w);clear hC hP hS hT iU sI hn
 go_enter Tryz.func78,Tryz.ntmps78
 go_upto_region 0 with fail;refine c6 ?_;have aN:=ET w (.slice (some ⟨b,0,none⟩) CS.length cc) (.slice pa PS.length pc) (.slice sa SS.length sc) (.slice ta TS.length tc) 73;refine k8 (Rg.aY _ _ rfl rfl) ?_;go_frame;have hb:=be w (.cells #[.slice (some ⟨b,0,none⟩) CS.length cc,.slice pa PS.length pc,.slice sa SS.length sc,.slice ta TS.length tc] 73);generalize w.alloc (.cells #[.slice (some ⟨b,0,none⟩) CS.length cc,.slice pa PS.length pc,.slice sa SS.length sc,.slice ta TS.length tc] 73)=w1 at *;replace HC:=U (HC.u.p hb);replace RP:=U (RP.u.p hb);replace cB:=U (cB.u.p hb);replace RT:=U (RT.u.p hb);replace K:=U (Rg.acc K.u hb);clear hb;have B0:=U aN.1;have B1:=U aN.2.1;have B2:=U aN.2.2.1;have B3:=U aN.2.2.2;clear aN;refine j7 rfl ?_;go_frame;go_upto_region 1 with fail;refine c6<|k8 (j4 (yf _ _))<|k8 (g7 (.slice (some ⟨b,0,none⟩) CS.length cc) ⟨w.heap.size,0,none⟩ (Rg.ae _ _ Tryz.underlying71 B0.u.cell))<|k8 (g9 Tryz.underlying71)<|j7 rfl ?_;go_frame;have KL:=U (bi w1);have fV:=U (show hU (CS.drop 0)=hU CS from rfl);go_wp2
 go_loopw [19] (fun iv wr=>∃ k:Nat,iv=.int .i64 ((k:Nat):Int)/\k<=CS.length/\Hid (hU (CS.drop k)=hU CS)/\Hid (BE w1 wr)) (fun iv _=>CS.length - (intOf iv).toNat)
 case atStart=>exact ⟨0,rfl,Nat.zero_le _,fV,KL⟩
 case round =>
  clear fV KL;obtain ⟨k,rfl,hk,HA,KL⟩:=hrel;generalize wr=wA at *;replace HC:=U (HC.u.p KL.u);replace RP:=U (RP.u.p KL.u);replace cB:=U (cB.u.p KL.u);replace RT:=U (RT.u.p KL.u);replace B0:=U (B0.u.p KL.u);replace B1:=U (B1.u.p KL.u);replace B2:=U (B2.u.p KL.u);replace B3:=U (B3.u.p KL.u)
  by_cases az:k<CS.length
  case pos =>
   skip;go_upto_region 2 with fail;refine c6<|k8 (g8 (.bool true) .lss (h:=aI _ f7)) ?_;go_frame;obtain ⟨oa,on,oc,ra,rn,rc,q0,q1,q2,q3⟩:=HC.u.at_ k az;obtain ⟨m,hm⟩:∃ m,Hid (CS[k].1=m):=⟨_,U rfl⟩;rw [hm.u] at q0;have sG:=jA q0 q1 q2;have CE:=U q3;clear q0 q1 q2 q3;go_upto_region 3 with fail;refine c6<|k8 (bn _ _ rfl Tryz.underlying71 fU b (CS.length) (cc) (k) rfl rfl (by omega))<|k8 (Rg.eK (v:=(.agg #[.int .i64 m,.slice oa on oc,.slice ra rn rc])) _ _ rfl ⟨b,k*3,none⟩ rfl sG)<|k8 (bj rfl)<|Rg.aG none rfl rfl (Rg.ak _ _ _ rfl _ rfl _ rfl (aJ _ _ _ _ _ _ _ (cj.new wA (.int .i64 0) (.slice none 0 0) (.slice none 0 0)))) ?_;go_frame;have jf:=(cj.new wA (.int .i64 0) (.slice none 0 0) (.slice none 0 0)).set (.int .i64 m) (.slice oa on oc) (.slice ra rn rc);have hb:=(((be wA (.cells #[.int .i64 0,.slice none 0 0,.slice none 0 0] 25)).setCell (p:=⟨wA.heap.size,0,none⟩) (Nat.le_refl _) (.int .i64 m)).setCell (p:=⟨wA.heap.size,1,none⟩) (Nat.le_refl _) (.slice oa on oc)).setCell (p:=⟨wA.heap.size,2,none⟩) (Nat.le_refl _) (.slice ra rn rc);generalize (((wA.alloc (.cells #[.int .i64 0,.slice none 0 0,.slice none 0 0] 25)).setCell ⟨wA.heap.size,0,none⟩ (.int .i64 m)).setCell ⟨wA.heap.size,1,none⟩ (.slice oa on oc)).setCell ⟨wA.heap.size,2,none⟩ (.slice ra rn rc)=u_ at *;replace HC:=U (HC.u.p hb);replace RP:=U (RP.u.p hb);replace cB:=U (cB.u.p hb);replace RT:=U (RT.u.p hb);replace B0:=U (B0.u.p hb);replace B1:=U (B1.u.p hb);replace B2:=U (B2.u.p hb);replace B3:=U (B3.u.p hb);replace CE:=U (CE.u.p hb);replace KL:=U (Rg.acc KL.u hb);clear hb;have TC:=U jf;clear jf;clear sG;obtain ⟨ck,dI⟩:∃ c,Hid (bI m CS[k].2.1 CS[k].2.2=c):=⟨_,U rfl⟩;go_upto_region 4 with fail
   refine c6<|k8 (g7 ((.agg #[.int .i64 m,.slice oa on oc,.slice ra rn rc])) ⟨wA.heap.size,0,none⟩ (aC TC.u.c0 TC.u.c1 TC.u.c2)) ?_;go_frame;refine f4 24 (aA 73 _ _ rfl rfl (ED _ _)) ?_;refine (pI CE.u).mono ?_;rintro e1 w13 ⟨rfl,hb⟩;rw [dI.u];refine ⟨_,rfl,?_⟩;go_frame;replace HC:=U (HC.u.p hb);replace RP:=U (RP.u.p hb);replace cB:=U (cB.u.p hb);replace RT:=U (RT.u.p hb);replace B0:=U (B0.u.p hb);replace B1:=U (B1.u.p hb);replace B2:=U (B2.u.p hb);replace B3:=U (B3.u.p hb);replace CE:=U (CE.u.p hb);replace TC:=U (TC.u.p hb);replace KL:=U (Rg.acc KL.u hb);clear hb;refine j7 rfl ?_;go_frame;have rm:=U (show bI CS[k].1 CS[k].2.1 CS[k].2.2=ck by rw [hm.u]; exact dI.u)
   by_cases hz:ck=0
   case neg =>
    have HX:=U (show ck=G by
     rw [<- hG.u];unfold eJ
     have e1:hU CS=ck:=by rw [<- HA.u,I4 az (by rw [rm.u]; exact hz),rm.u]
     rw [if_pos (by rw [e1]; exact hz),e1])
    go_upto_region 5 with fail;refine c6<|j7 rfl<|k8 (g8 (.bool true) .neq (h:=aE _ (decide_eq_true hz))) ?_;go_frame;go_upto_region 6 with fail;refine c6<|j7 rfl<|j7 rfl ?_;go_frame;go_wp2;go_ret;exact ⟨by rw [<- HX.u]; rfl,K.u.trans (KL.u.mono K.u.size)⟩
   case pos =>
    subst hz;have fC:=U ((Dt az rm.u).symm.trans HA.u);go_upto_region 5 with fail;refine c6<|j7 rfl<|k8 (g8 (.bool false) .neq (h:=aE _ f8)) ?_;go_frame;go_upto_region 7 with fail;refine c6<|k8 (g8 (.int .i64 (((k+1):Nat):Int)) .add (h:=bD _ (by omega) (by omega)))<|j7 rfl ?_;go_frame;clear HA CE TC rm dI;go_wp2;go_roundw
    case rel=>exact ⟨k+1,by go_num,az,fC,KL⟩
    case measure=>simp [intOf]; omega
  obtain rfl:k=CS.length:=by omega
  have mz:=U (show hU CS=0 by rw [<- HA.u,List.drop_length]; rfl);replace K:=U (K.u.trans (KL.u.mono K.u.size));clear HA KL;go_upto_region 2 with fail;refine c6<|k8 (g8 (.bool false) .lss (h:=aI _ f8)) ?_;go_frame;go_upto_region 8 with fail;refine c6<|k8 (j4 (S3 _ _))<|k8 (g7 (.slice pa PS.length pc) ⟨w.heap.size,1,none⟩ (Rg.ae _ _ Tryz.underlying41 B1.u.cell))<|k8 (g9 Tryz.underlying41)<|j7 rfl ?_;go_frame;have KL:=U (bi wA);have fV:=U (show Ma.df (PS.drop 0)=Ma.df PS from rfl);go_wp2
  go_loopw [32] (fun iv wr=>∃ k:Nat,iv=.int .i64 ((k:Nat):Int)/\k<=PS.length/\Hid (Ma.df (PS.drop k)=Ma.df PS)/\Hid (BE wA wr)) (fun iv _=>PS.length - (intOf iv).toNat)
  case atStart=>exact ⟨0,rfl,Nat.zero_le _,fV,KL⟩
  case round =>
   clear fV KL;obtain ⟨k,rfl,hk,HA,KL⟩:=hrel;generalize wr=wB at *;replace HC:=U (HC.u.p KL.u);replace RP:=U (RP.u.p KL.u);replace cB:=U (cB.u.p KL.u);replace RT:=U (RT.u.p KL.u);replace B0:=U (B0.u.p KL.u);replace B1:=U (B1.u.p KL.u);replace B2:=U (B2.u.p KL.u);replace B3:=U (B3.u.p KL.u)
   by_cases az:k<PS.length
   case pos =>
    obtain ⟨lb,lo,_,_,e1,bZ,dp,cA⟩:=fQ RP.u.r (i:=k) az;subst e1;obtain ⟨pm,xa,xc,kl,dG,-⟩:=cA.len;rw [dG] at dp cA;have CX:=U (CL.mk dp bZ);have NX:=U (dM.mk cA);obtain ⟨ck,dI⟩:∃ c,Hid (Ma.bY PS[k]=c):=⟨_,U rfl⟩;clear bZ dp cA kl dG;go_upto_region 9 with fail;refine c6<|k8 (g8 (.bool true) .lss (h:=aI _ f7)) ?_;go_frame;go_upto_region 10 with fail;refine c6<|k8 (ag aM _ _ rfl lb (lo) (PS.length) pc (k) rfl rfl (by omega))<|k8 (g7 (.slice xa pm xc) ⟨lb,lo+k,none⟩ (Rg.ae _ _ Tryz.underlying27 CX.u.cell))<|j8 rfl ?_;go_frame;go_upto_region 11 with fail;refine c6<|j8 rfl ?_;go_frame;refine f4 37 (aA 68 _ _ rfl rfl (z1 _ _)) ?_;refine (fJ _ _ wB NX.u.i).mono ?_;rintro e1 lQ ⟨rfl,hb⟩;rw [dI.u];refine ⟨_,rfl,?_⟩;go_frame;replace HC:=U (HC.u.p hb);replace RP:=U (RP.u.p hb);replace cB:=U (cB.u.p hb);replace RT:=U (RT.u.p hb);replace B0:=U (B0.u.p hb);replace B1:=U (B1.u.p hb);replace B2:=U (B2.u.p hb);replace B3:=U (B3.u.p hb);replace CX:=U (CX.u.p hb);replace NX:=U (NX.u.p hb);replace KL:=U (Rg.acc KL.u hb);clear hb;refine j7 rfl ?_;go_frame
    by_cases hz:ck=0
    case neg =>
     have HX:=U (show ck=G by
      rw [<- hG.u];unfold eJ
      have e1:Ma.df PS=ck:=by rw [<- HA.u,Ma.wx az (by rw [dI.u]; exact hz),dI.u]
      rw [if_neg (fun h=>h mz.u),if_pos (by rw [e1]; exact hz),e1])
     go_upto_region 12 with fail;refine c6<|j7 rfl<|k8 (g8 (.bool true) .neq (h:=aE _ (decide_eq_true hz))) ?_;go_frame;go_upto_region 13 with fail;refine c6<|j7 rfl<|j7 rfl ?_;go_frame;go_wp2;go_ret;exact ⟨by rw [<- HX.u]; rfl,K.u.trans (KL.u.mono K.u.size)⟩
    case pos =>
     subst hz;have fC:=U ((Ma.sW az dI.u).symm.trans HA.u);go_upto_region 12 with fail;refine c6<|j7 rfl<|k8 (g8 (.bool false) .neq (h:=aE _ f8)) ?_;go_frame;go_upto_region 14 with fail;refine c6<|k8 (g8 (.int .i64 (((k+1):Nat):Int)) .add (h:=bD _ (by omega) (by omega)))<|j7 rfl ?_;go_frame;clear HA CX NX dI;go_wp2;go_roundw
     case rel=>exact ⟨k+1,by go_num,az,fC,KL⟩
     case measure=>simp [intOf]; omega
   obtain rfl:k=PS.length:=by omega
   have yP:=U (show Ma.df PS=0 by rw [<- HA.u,List.drop_length]; rfl);replace K:=U (K.u.trans (KL.u.mono K.u.size));clear HA KL;obtain ⟨oa,on,oc,ra,rn,rc,q0,q1,q2,q3⟩:=HC.u.at_ 0 h1;have CN:=U (show CL wB b (0*3) (.int .i64 n) from CL.mk (by rw [q0,cI.u,sY.u]) HC.u.lt);clear q0 q1 q2 q3;go_upto_region 9 with fail;refine c6<|k8 (g8 (.bool false) .lss (h:=aI _ f8)) ?_;go_frame;go_upto_region 15 with fail;refine c6<|k8 (j4 (yf _ _))<|k8 (g7 (.slice (some ⟨b,0,none⟩) CS.length cc) ⟨w.heap.size,0,none⟩ (Rg.ae _ _ Tryz.underlying71 B0.u.cell))<|k8 (bn _ _ rfl Tryz.underlying71 fU b (CS.length) (cc) (0) rfl rfl h1)<|k8 (j4 (cT _ _)) ?_;go_frame;refine k8 (g7 (.int .i64 n) ⟨b,0,none⟩ (af CN.u.cell))<|k8 (pF rfl)<|Rg.aG none rfl rfl (Rg.ak _ _ _ rfl _ rfl _ rfl (dS n (CW.new wB (.int .i64 0) 3).c (CW.new wB (.int .i64 0) 3).f)) ?_;go_frame;have jf:=(CW.new wB (.int .i64 0) 3).set (.int .i64 n);have hb:=(be wB (.cells #[.int .i64 0] 3)).setCell (p:=⟨wB.heap.size,0,none⟩) (Nat.le_refl _) (.int .i64 n);generalize (wB.alloc (.cells #[.int .i64 0] 3)).setCell ⟨wB.heap.size,0,none⟩ (.int .i64 n)=tE at *;replace HC:=U (HC.u.p hb);replace RP:=U (RP.u.p hb);replace cB:=U (cB.u.p hb);replace RT:=U (RT.u.p hb);replace B0:=U (B0.u.p hb);replace B1:=U (B1.u.p hb);replace B2:=U (B2.u.p hb);replace B3:=U (B3.u.p hb);replace CN:=U (CN.u.p hb);replace K:=U (Rg.acc K.u hb);clear hb;have BN:=U jf;clear jf;clear CN;obtain ⟨bt,wX⟩:∃ t,Hid ((CS.any fun c=>decide (c.1≠n))=t):=⟨_,U rfl⟩;obtain ⟨QS,hQS⟩:=I9 (rY yP.u);have S6:=U hQS;clear hQS;obtain ⟨bp,JG⟩:∃ t,Hid ((QS.any fun x=>decide ((x.length:Int)≠n))=t):=⟨_,U rfl⟩
   have Zy:=U (show (PS.any fun x=>decide ((x.length:Int)≠n))=bp by rw [S6.u,List.any_map,<- JG.u]; congr 1; funext x; simp [Ma.aB])
   cases bt
   case true =>
    have HX:=U (show (10:Int)=G by
     rw [<- hG.u];unfold eJ
     rw [if_neg (fun h=>h mz.u),if_neg (fun h=>h yP.u),if_pos (.inl wX.u)])
    go_upto_region 16 with fail;refine c6<|k8 (j4 (yf _ _))<|k8 (g7 (.slice (some ⟨b,0,none⟩) CS.length cc) ⟨w.heap.size,0,none⟩ (Rg.ae _ _ Tryz.underlying71 B0.u.cell))<|k8 (eN (v:=.pointer (some ⟨wB.heap.size,0,none⟩)) _ _ rfl rfl) ?_;go_frame;refine f4 50 (ax 100 _ _ _ rfl rfl rfl (LA _ _)) ?_;refine (mE n b cc wB.heap.size CS tE HC.u BN.u.c BN.u.lt (by omega)).mono ?_;rintro e1 w63 ⟨rfl,hb⟩;rw [wX.u];refine ⟨_,rfl,?_⟩;go_frame;replace HC:=U (HC.u.p hb);replace RP:=U (RP.u.p hb);replace cB:=U (cB.u.p hb);replace RT:=U (RT.u.p hb);replace B0:=U (B0.u.p hb);replace B1:=U (B1.u.p hb);replace B2:=U (B2.u.p hb);replace B3:=U (B3.u.p hb);replace BN:=U (BN.u.p hb);replace K:=U (Rg.acc K.u hb);clear hb;refine k7 rfl<|f9 52<|f9 53<|f9 54<|f9 55 ?_;go_frame;refine k8 (i8 (.bool true)) ?_;go_frame;go_upto_region 17 with fail;refine c6<|j7 rfl ?_;go_frame;go_wp2;go_ret;exact ⟨by rw [<- HX.u]; rfl,K.u⟩
   case false =>
    skip;have zy:=U (S4 S6.u)
    cases bp
    case true =>
     skip;go_upto_region 16 with fail;refine c6<|k8 (j4 (yf _ _))<|k8 (g7 (.slice (some ⟨b,0,none⟩) CS.length cc) ⟨w.heap.size,0,none⟩ (Rg.ae _ _ Tryz.underlying71 B0.u.cell))<|k8 (eN (v:=.pointer (some ⟨wB.heap.size,0,none⟩)) _ _ rfl rfl) ?_;go_frame;refine f4 50 (ax 100 _ _ _ rfl rfl rfl (LA _ _)) ?_;refine (mE n b cc wB.heap.size CS tE HC.u BN.u.c BN.u.lt (by omega)).mono ?_;rintro e1 w73 ⟨rfl,hb⟩;rw [wX.u];refine ⟨_,rfl,?_⟩;go_frame;replace HC:=U (HC.u.p hb);replace RP:=U (RP.u.p hb);replace cB:=U (cB.u.p hb);replace RT:=U (RT.u.p hb);replace B0:=U (B0.u.p hb);replace B1:=U (B1.u.p hb);replace B2:=U (B2.u.p hb);replace B3:=U (B3.u.p hb);replace BN:=U (BN.u.p hb);replace K:=U (Rg.acc K.u hb);clear hb;refine k7 rfl<|k8 (j4 (S3 _ _))<|k8 (g7 (.slice pa PS.length pc) ⟨w.heap.size,1,none⟩ (Rg.ae _ _ Tryz.underlying41 B1.u.cell))<|k8 (eN (v:=.pointer (some ⟨wB.heap.size,0,none⟩)) _ _ rfl rfl) ?_;go_frame;refine eL (some 55) rfl rfl _ _ (ax 102 _ _ _ rfl rfl rfl (S2 _ _)) ?_;refine (mV _ QS _ _ (fun x=>decide ((x.length:Int)≠n)) w73 (zy.u _ _ _ RP.u.r) (by have h5:=congrArg List.length S6.u; rw [List.length_map] at h5; omega) (fun _ _=>by kernel_rfl) (fun x _ w1 u hb hu=>(Ds n u (Ma.ah x) wB.heap.size w1 ((hb.cell (p:=⟨wB.heap.size,0,none⟩) (BN.u).lt).trans (BN.u).c) (Nat.lt_of_lt_of_le (BN.u).lt hb.size) hu).mono fun e w2 h=>⟨by rw [h.1,Ma.aB],h.2⟩)).mono ?_;rintro e1 w74 ⟨rfl,hb⟩;rw [JG.u];refine ⟨_,rfl,?_⟩;go_frame;replace HC:=U (HC.u.p hb);replace RP:=U (RP.u.p hb);replace cB:=U (cB.u.p hb);replace RT:=U (RT.u.p hb);replace B0:=U (B0.u.p hb);replace B1:=U (B1.u.p hb);replace B2:=U (B2.u.p hb);replace B3:=U (B3.u.p hb);replace BN:=U (BN.u.p hb)
     replace K:=U (Rg.acc K.u hb);clear hb;refine k8 (i7 (.bool true)) ?_;go_frame
     have HX:=U (show (10:Int)=G by
      rw [<- hG.u];unfold eJ
      rw [if_neg (fun h=>h mz.u),if_neg (fun h=>h yP.u),if_pos (.inr Zy.u)])
     go_upto_region 17 with fail;refine c6<|j7 rfl ?_;go_frame;go_wp2;go_ret;exact ⟨by rw [<- HX.u]; rfl,K.u⟩
    case false =>
     skip;go_upto_region 16 with fail;refine c6<|k8 (j4 (yf _ _))<|k8 (g7 (.slice (some ⟨b,0,none⟩) CS.length cc) ⟨w.heap.size,0,none⟩ (Rg.ae _ _ Tryz.underlying71 B0.u.cell))<|k8 (eN (v:=.pointer (some ⟨wB.heap.size,0,none⟩)) _ _ rfl rfl) ?_;go_frame;refine f4 50 (ax 100 _ _ _ rfl rfl rfl (LA _ _)) ?_;refine (mE n b cc wB.heap.size CS tE HC.u BN.u.c BN.u.lt (by omega)).mono ?_;rintro e1 w83 ⟨rfl,hb⟩;rw [wX.u];refine ⟨_,rfl,?_⟩;go_frame;replace HC:=U (HC.u.p hb);replace RP:=U (RP.u.p hb);replace cB:=U (cB.u.p hb);replace RT:=U (RT.u.p hb);replace B0:=U (B0.u.p hb);replace B1:=U (B1.u.p hb);replace B2:=U (B2.u.p hb);replace B3:=U (B3.u.p hb);replace BN:=U (BN.u.p hb);replace K:=U (Rg.acc K.u hb);clear hb;refine k7 rfl<|k8 (j4 (S3 _ _))<|k8 (g7 (.slice pa PS.length pc) ⟨w.heap.size,1,none⟩ (Rg.ae _ _ Tryz.underlying41 B1.u.cell))<|k8 (eN (v:=.pointer (some ⟨wB.heap.size,0,none⟩)) _ _ rfl rfl) ?_;go_frame;refine eL (some 55) rfl rfl _ _ (ax 102 _ _ _ rfl rfl rfl (S2 _ _)) ?_;refine (mV _ QS _ _ (fun x=>decide ((x.length:Int)≠n)) w83 (zy.u _ _ _ RP.u.r) (by have h5:=congrArg List.length S6.u; rw [List.length_map] at h5; omega) (fun _ _=>by kernel_rfl) (fun x _ w1 u hb hu=>(Ds n u (Ma.ah x) wB.heap.size w1 ((hb.cell (p:=⟨wB.heap.size,0,none⟩) (BN.u).lt).trans (BN.u).c) (Nat.lt_of_lt_of_le (BN.u).lt hb.size) hu).mono fun e w2 h=>⟨by rw [h.1,Ma.aB],h.2⟩)).mono ?_;rintro e1 VP ⟨rfl,hb⟩;rw [JG.u];refine ⟨_,rfl,?_⟩;go_frame;replace HC:=U (HC.u.p hb);replace RP:=U (RP.u.p hb);replace cB:=U (cB.u.p hb);replace RT:=U (RT.u.p hb);replace B0:=U (B0.u.p hb);replace B1:=U (B1.u.p hb);replace B2:=U (B2.u.p hb);replace B3:=U (B3.u.p hb);replace BN:=U (BN.u.p hb)
     replace K:=U (Rg.acc K.u hb);clear hb;refine k8 (i7 (.bool false)) ?_;go_frame
     have S7:=U (show ¬ ((CS.any fun c=>decide (c.1≠n))=true∨(PS.any fun x=>decide ((x.length:Int)≠n))=true) from fun h=>by
      rcases h with h | h
      ·rw [wX.u] at h; cases h
      ·rw [Zy.u] at h; cases h)
     clear wX Zy JG S6 zy;go_upto_region 18 with fail;refine c6<|k8 (eN (v:=.pointer (some ⟨wB.heap.size,0,none⟩)) _ _ rfl rfl)<|j6 ((.func (.func 104) #[] #[.pointer (some ⟨wB.heap.size,0,none⟩)])) rfl ?_;go_frame;go_upto_region 19 with fail;refine c6<|k8 (j4 (abj _ _))<|k8 (g7 (.slice sa SS.length sc) ⟨w.heap.size,2,none⟩ (Rg.ae _ _ Tryz.underlying22 B2.u.cell))<|k8 (g9 Tryz.underlying22)<|j7 rfl ?_;go_frame;have KL:=U (bi VP);have fV:=U (show gL n (SS.drop 0)=gL n SS from rfl);go_wp2
     go_loopw [61] (fun iv wr=>∃ k:Nat,iv=.int .i64 ((k:Nat):Int)/\k<=SS.length/\Hid (gL n (SS.drop k)=gL n SS)/\Hid (BE VP wr)) (fun iv _=>SS.length - (intOf iv).toNat)
     case atStart=>exact ⟨0,rfl,Nat.zero_le _,fV,KL⟩
     case round =>
      clear fV KL;obtain ⟨k,rfl,hk,HA,KL⟩:=hrel;generalize wr=wC at *;replace HC:=U (HC.u.p KL.u);replace RP:=U (RP.u.p KL.u);replace cB:=U (cB.u.p KL.u);replace RT:=U (RT.u.p KL.u);replace B0:=U (B0.u.p KL.u);replace B1:=U (B1.u.p KL.u);replace B2:=U (B2.u.p KL.u);replace B3:=U (B3.u.p KL.u);replace BN:=U (BN.u.p KL.u)
      by_cases az:k<SS.length
      case pos =>
       obtain ⟨lb,lo,_,_,e1,bZ,dp,cA⟩:=fQ cB.u.r (i:=k) az;subst e1;obtain ⟨s,hs⟩:∃ s,Hid (SS[k]=s):=⟨_,U rfl⟩;rw [hs.u] at dp cA;have Zz:=U (show s.length<=100 from hs.u▸xu.u _ (List.getElem_mem az));obtain ⟨pm,xa,xc,kl,dG,-⟩:=cA.len;rw [dG,<- kl] at dp cA;clear kl dG;have CX:=U (CL.mk dp bZ);have NX:=U (dM.mk cA);clear bZ dp cA;have tU:s.length<=100:=Zz.u;obtain ⟨bo,sD⟩:∃ t,Hid (s.any (dv n)=t):=⟨_,U rfl⟩;go_upto_region 20 with fail;refine c6<|k8 (g8 (.bool true) .lss (h:=aI _ f7)) ?_;go_frame;go_upto_region 21 with fail;refine c6<|k8 (ag bM _ _ rfl lb (lo) (SS.length) sc (k) rfl rfl (by omega))<|k8 (g7 (.slice xa s.length xc) ⟨lb,lo+k,none⟩ (Rg.ae _ _ Tryz.underlying26 CX.u.cell))<|j8 rfl ?_;go_frame
       cases bo
       case true =>
        skip;go_upto_region 22 with fail;refine c6<|j8 rfl<|j6 ((.func (.func 104) #[] #[.pointer (some ⟨wB.heap.size,0,none⟩)])) rfl ?_;go_frame;refine f4 67 (ax 105 _ _ _ rfl rfl rfl (EU _ _)) ?_;refine (gD _ s _ _ (dv n) wC NX.u.i (by omega) (fun _ _=>by kernel_rfl) (fun x _ w1 hb=>by exact rX n x wB.heap.size w1 ((hb.cell (p:=⟨wB.heap.size,0,none⟩) (BN.u).lt).trans (BN.u).c) (Nat.lt_of_lt_of_le (BN.u).lt hb.size))).mono ?_;rintro e1 w95 ⟨rfl,hb⟩;rw [sD.u];refine ⟨_,rfl,?_⟩;go_frame;replace HC:=U (HC.u.p hb);replace RP:=U (RP.u.p hb);replace cB:=U (cB.u.p hb);replace RT:=U (RT.u.p hb);replace B0:=U (B0.u.p hb);replace B1:=U (B1.u.p hb);replace B2:=U (B2.u.p hb);replace B3:=U (B3.u.p hb);replace BN:=U (BN.u.p hb);replace CX:=U (CX.u.p hb);replace NX:=U (NX.u.p hb);replace KL:=U (Rg.acc KL.u hb);clear hb
        have HX:=U (show (2:Int)=G by
         have e0:gK n SS[k]=2:=by unfold gK; rw [hs.u,if_pos sD.u]
         have e1:gL n SS=2:=by rw [<- HA.u,I5 az (by rw [e0]; decide),e0]
         rw [<- hG.u];unfold eJ
         rw [if_neg (fun h=>h mz.u),if_neg (fun h=>h yP.u),if_neg S7.u,if_pos (by rw [e1]; decide),e1])
        go_upto_region 23 with fail;refine c6<|j7 rfl ?_;go_frame;go_wp2;go_ret;exact ⟨by rw [<- HX.u]; rfl,K.u.trans (KL.u.mono K.u.size)⟩
       case false =>
        skip;go_upto_region 22 with fail;refine c6<|j8 rfl<|j6 ((.func (.func 104) #[] #[.pointer (some ⟨wB.heap.size,0,none⟩)])) rfl ?_;go_frame;refine f4 67 (ax 105 _ _ _ rfl rfl rfl (EU _ _)) ?_;refine (gD _ s _ _ (dv n) wC NX.u.i (by omega) (fun _ _=>by kernel_rfl) (fun x _ w1 hb=>by exact rX n x wB.heap.size w1 ((hb.cell (p:=⟨wB.heap.size,0,none⟩) (BN.u).lt).trans (BN.u).c) (Nat.lt_of_lt_of_le (BN.u).lt hb.size))).mono ?_;rintro e1 Du ⟨rfl,hb⟩;rw [sD.u];refine ⟨_,rfl,?_⟩;go_frame;replace HC:=U (HC.u.p hb);replace RP:=U (RP.u.p hb);replace cB:=U (cB.u.p hb);replace RT:=U (RT.u.p hb);replace B0:=U (B0.u.p hb);replace B1:=U (B1.u.p hb);replace B2:=U (B2.u.p hb);replace B3:=U (B3.u.p hb);replace BN:=U (BN.u.p hb);replace CX:=U (CX.u.p hb);replace NX:=U (NX.u.p hb);replace KL:=U (Rg.acc KL.u hb);clear hb;go_upto_region 24 with fail;refine c6<|j8 rfl<|k8 (g9 Tryz.underlying26)<|j7 rfl ?_;go_frame;have KI:=U (bi Du);have HI0:=U (show ∀ i (h:i<s.length),i<0->1<=i->s[i - 1]'(by omega)<s[i] from fun i h h0=>absurd h0 (Nat.not_lt_zero _));go_wp2
        go_loopw [70] (fun iv wr=>∃ j:Nat,iv=.int .i64 ((j:Nat):Int)/\j<=s.length/\Hid (∀ i (h:i<s.length),i<j->1<=i->s[i - 1]'(by omega)<s[i])/\Hid (BE Du wr)) (fun iv _=>s.length - (intOf iv).toNat)
        case atStart=>exact ⟨0,rfl,Nat.zero_le _,HI0,KI⟩
        case round =>
         clear HI0 KI;obtain ⟨j,rfl,hj,HI,KI⟩:=hrel;generalize wr=wD at *;replace HC:=U (HC.u.p KI.u);replace RP:=U (RP.u.p KI.u);replace cB:=U (cB.u.p KI.u);replace RT:=U (RT.u.p KI.u);replace B0:=U (B0.u.p KI.u);replace B1:=U (B1.u.p KI.u);replace B2:=U (B2.u.p KI.u);replace B3:=U (B3.u.p KI.u);replace BN:=U (BN.u.p KI.u);replace CX:=U (CX.u.p KI.u);replace NX:=U (NX.u.p KI.u);have ZA:=U (Rg.acc KL.u KI.u)
         by_cases wZ:j<s.length
         case pos =>
          go_upto_region 25 with fail;refine c6<|k8 (g8 (.bool true) .lss (h:=aI _ f7)) ?_;go_frame;go_upto_region 26 with fail;refine c6<|j7 rfl<|j7 rfl ?_;go_frame
          by_cases U1:0<j
          case neg =>
           obtain rfl:j=0:=by omega
           go_upto_region 27 with fail;have aj:BE wD wD.drew:=(Below.refl _ _).drew;replace HC:=U (HC.u.p aj);replace RP:=U (RP.u.p aj);replace cB:=U (cB.u.p aj);replace RT:=U (RT.u.p aj);replace B0:=U (B0.u.p aj);replace B1:=U (B1.u.p aj);replace B2:=U (B2.u.p aj);replace B3:=U (B3.u.p aj);replace BN:=U (BN.u.p aj);replace CX:=U (CX.u.p aj);replace NX:=U (NX.u.p aj);replace KI:=U (Rg.acc KI.u aj);clear aj;refine Rg.Any.begin (S:=Rg.aK 13 (fun _=>True) (fun W=>Below wD.drew.heap.size wD.drew W)) mix ?_;generalize wD.drew=AL at *;have hS:∀ (l:Array Bool) W,BE AL W->Rg.aK 13 (fun _=>True) (fun W=>BE AL W) l W:=fun l W h=>⟨.inr trivial,h⟩;have hI:BE AL AL:=Below.refl _ _;refine d8 0 13 (.int .i64 ((0:Nat):Int)) 73 (hS _ _ hI)<|d7 1 13 (.bool false) 74 rfl rfl (j3 fun w=>cg (R:=.bool false) .gtr _ _ _ rfl rfl rfl (bA _ f8)) (hS _ _ hI)<|d8 2 13 (.bool false) 75 (hS _ _ hI)<|d7 3 13 (undef) 76 rfl rfl (.inr ⟨rfl,rfl⟩) (hS _ _ hI)<|d7 4 13 (undef) 77 rfl rfl (.inr ⟨rfl,rfl⟩) (hS _ _ hI) ?_;go_frame;refine d7 5 13 (undef) 78 rfl rfl (.inr ⟨rfl,rfl⟩) (hS _ _ hI)<|d7 6 13 (undef) 79 rfl rfl (.inr ⟨rfl,rfl⟩) (hS _ _ hI)<|d7 7 13 (undef) 80 rfl rfl (.inr ⟨rfl,rfl⟩) (hS _ _ hI)<|d7 8 13 (undef) 81 rfl rfl (.inr ⟨rfl,rfl⟩) (hS _ _ hI)<|d7 9 13 (undef) 82 rfl rfl (.inr ⟨rfl,rfl⟩) (hS _ _ hI) ?_;go_frame;refine d7 10 13 (undef) 83 rfl rfl (.inr ⟨rfl,rfl⟩) (hS _ _ hI)<|d7 11 13 (undef) 84 rfl rfl (.inr ⟨rfl,rfl⟩) (hS _ _ hI)<|d7 12 13 (undef) 85 rfl rfl (.inr ⟨rfl,rfl⟩) (hS _ _ hI)<|j1 13 86 rfl rfl (i7 (.bool false)) (hS _ _ hI) ?_;go_frame
           refine Rg.Any.done (by kernel_rfl) ?_ _;clear hS hI;go_upto_region 29 with fail;refine c6<|k8 (g8 (.int .i64 (((0+1):Nat):Int)) .add (h:=bD _ (by omega) (by omega)))<|j7 rfl ?_;go_frame;have JR:=U (show ∀ i (h:i<s.length),i<0+1->1<=i->s[i - 1]'(by omega)<s[i] from fun i h h0 h1=>by omega);clear HI ZA;go_wp2;go_roundw
           case rel=>exact ⟨0+1,by go_num,wZ,JR,KI⟩
           case measure=>simp [intOf]; omega
          case pos =>
           obtain ⟨fW,fX,e1,dh,gI⟩:=l7 NX.u.i wZ;subst e1;obtain ⟨lb3,lo3,e1,BV,B6⟩:=l7 NX.u.i (k:=j - 1) (by omega);simp only [Option.some.injEq,Addr.mk.injEq,and_true] at e1;obtain ⟨rfl,rfl⟩:=e1;obtain ⟨x,hx⟩:∃ x,Hid (s[j]=x):=⟨_,U rfl⟩;obtain ⟨y,hy⟩:∃ y,Hid (s[j - 1]'(by omega)=y):=⟨_,U rfl⟩;rw [hx.u] at gI;rw [hy.u] at B6;have C2:=U (CL.mk gI dh);have C3:=U (CL.mk B6 BV);have pC:=U (show j - 1<s.length by omega);clear dh gI BV B6
           by_cases BJ:x<=y
           case pos =>
            have HX:=U (show (9:Int)=G by
             have hna:¬ oT s:=fun h=>by
              have:=h j wZ U1;rw [hx.u,hy.u] at this;omega
             have e0:gK n SS[k]=9:=by unfold gK; rw [hs.u,if_neg (by rw [sD.u]; decide),if_neg hna]
             have e1:gL n SS=9:=by rw [<- HA.u,I5 az (by rw [e0]; decide),e0]
             rw [<- hG.u];unfold eJ
             rw [if_neg (fun h=>h mz.u),if_neg (fun h=>h yP.u),if_neg S7.u,if_pos (by rw [e1]; decide),e1])
            go_upto_region 27 with fail;have aj:BE wD wD.drew:=(Below.refl _ _).drew;replace HC:=U (HC.u.p aj);replace RP:=U (RP.u.p aj);replace cB:=U (cB.u.p aj);replace RT:=U (RT.u.p aj);replace B0:=U (B0.u.p aj);replace B1:=U (B1.u.p aj);replace B2:=U (B2.u.p aj);replace B3:=U (B3.u.p aj);replace BN:=U (BN.u.p aj);replace CX:=U (CX.u.p aj);replace NX:=U (NX.u.p aj);replace C2:=U (C2.u.p aj);replace C3:=U (C3.u.p aj);replace KI:=U (Rg.acc KI.u aj);clear aj;refine Rg.Any.begin (S:=Rg.aK 13 (fun _=>True) (fun W=>Below wD.drew.heap.size wD.drew W)) mix ?_;generalize wD.drew=AM at *;have hS:∀ (l:Array Bool) W,BE AM W->Rg.aK 13 (fun _=>True) (fun W=>BE AM W) l W:=fun l W h=>⟨.inr trivial,h⟩;have hI:BE AM AM:=Below.refl _ _;refine d8 0 13 (.int .i64 (j:Int)) 73 (hS _ _ hI)<|d7 1 13 (.bool true) 74 rfl rfl (j3 fun w=>cg (R:=.bool true) .gtr _ _ _ rfl rfl rfl (bA _ f7)) (hS _ _ hI)<|d8 2 13 (.bool true) 75 (hS _ _ hI)<|d8 3 13 (.slice (some ⟨fW,fX,none⟩) s.length xc) 76 (hS _ _ hI)<|d8 4 13 (.int .i64 (j:Int)) 77 (hS _ _ hI) ?_;go_frame;refine d7 5 13 (.pointer (some ⟨fW,fX+j,none⟩)) 78 rfl rfl (Rg.ai aQ _ _ rfl rfl fW (fX) (s.length) xc (j) rfl rfl (by omega)) (hS _ _ hI)<|d7 6 13 (.int .i64 x) 79 rfl rfl (j2 ⟨fW,fX+j,none⟩ (fun W hW=>af ((Below.cell (p:=⟨fW,fX+j,none⟩) hW C2.u.lt).trans C2.u.cell))) (hS _ _ hI)<|d8 7 13 (.slice (some ⟨fW,fX,none⟩) s.length xc) 80 (hS _ _ hI)<|d8 8 13 (.int .i64 (j:Int)) 81 (hS _ _ hI)<|d7 9 13 (.int .i64 (((j - 1):Nat):Int)) 82 rfl rfl (j3 fun w=>cg (R:=.int .i64 (((j - 1):Nat):Int)) .sub _ _ _ rfl rfl rfl (nC _ (by omega) (by omega))) (hS _ _ hI) ?_;go_frame
            refine d7 10 13 (.pointer (some ⟨fW,fX+(j - 1),none⟩)) 83 rfl rfl (Rg.ai aQ _ _ rfl rfl fW (fX) (s.length) xc ((j - 1)) rfl rfl pC.u) (hS _ _ hI)<|d7 11 13 (.int .i64 y) 84 rfl rfl (j2 ⟨fW,fX+(j - 1),none⟩ (fun W hW=>af ((Below.cell (p:=⟨fW,fX+(j - 1),none⟩) hW C3.u.lt).trans C3.u.cell))) (hS _ _ hI)<|d7 12 13 (.bool true) 85 rfl rfl (j3 fun w=>cg (R:=.bool true) .leq _ _ _ rfl rfl rfl (DW _ (decide_eq_true BJ))) (hS _ _ hI)<|j1 13 86 rfl rfl (i8 (.bool true)) (hS _ _ hI) ?_;go_frame;refine Rg.Any.done (by kernel_rfl) ?_ _;clear hS hI;go_upto_region 28 with fail;refine c6<|j7 rfl ?_;go_frame;go_wp2;go_ret;exact ⟨by rw [<- HX.u]; rfl,K.u.trans ((Rg.acc KL.u KI.u).mono K.u.size)⟩
           case neg =>
            skip;go_upto_region 27 with fail;have aj:BE wD wD.drew:=(Below.refl _ _).drew;replace HC:=U (HC.u.p aj);replace RP:=U (RP.u.p aj);replace cB:=U (cB.u.p aj);replace RT:=U (RT.u.p aj);replace B0:=U (B0.u.p aj);replace B1:=U (B1.u.p aj);replace B2:=U (B2.u.p aj);replace B3:=U (B3.u.p aj);replace BN:=U (BN.u.p aj);replace CX:=U (CX.u.p aj);replace NX:=U (NX.u.p aj);replace C2:=U (C2.u.p aj);replace C3:=U (C3.u.p aj);replace KI:=U (Rg.acc KI.u aj);clear aj;refine Rg.Any.begin (S:=Rg.aK 13 (fun _=>True) (fun W=>Below wD.drew.heap.size wD.drew W)) mix ?_;generalize wD.drew=AO at *;have hS:∀ (l:Array Bool) W,BE AO W->Rg.aK 13 (fun _=>True) (fun W=>BE AO W) l W:=fun l W h=>⟨.inr trivial,h⟩;have hI:BE AO AO:=Below.refl _ _;refine d8 0 13 (.int .i64 (j:Int)) 73 (hS _ _ hI)<|d7 1 13 (.bool true) 74 rfl rfl (j3 fun w=>cg (R:=.bool true) .gtr _ _ _ rfl rfl rfl (bA _ f7)) (hS _ _ hI)<|d8 2 13 (.bool true) 75 (hS _ _ hI)<|d8 3 13 (.slice (some ⟨fW,fX,none⟩) s.length xc) 76 (hS _ _ hI)<|d8 4 13 (.int .i64 (j:Int)) 77 (hS _ _ hI) ?_;go_frame;refine d7 5 13 (.pointer (some ⟨fW,fX+j,none⟩)) 78 rfl rfl (Rg.ai aQ _ _ rfl rfl fW (fX) (s.length) xc (j) rfl rfl (by omega)) (hS _ _ hI)<|d7 6 13 (.int .i64 x) 79 rfl rfl (j2 ⟨fW,fX+j,none⟩ (fun W hW=>af ((Below.cell (p:=⟨fW,fX+j,none⟩) hW C2.u.lt).trans C2.u.cell))) (hS _ _ hI)<|d8 7 13 (.slice (some ⟨fW,fX,none⟩) s.length xc) 80 (hS _ _ hI)<|d8 8 13 (.int .i64 (j:Int)) 81 (hS _ _ hI)<|d7 9 13 (.int .i64 (((j - 1):Nat):Int)) 82 rfl rfl (j3 fun w=>cg (R:=.int .i64 (((j - 1):Nat):Int)) .sub _ _ _ rfl rfl rfl (nC _ (by omega) (by omega))) (hS _ _ hI) ?_;go_frame
            refine d7 10 13 (.pointer (some ⟨fW,fX+(j - 1),none⟩)) 83 rfl rfl (Rg.ai aQ _ _ rfl rfl fW (fX) (s.length) xc ((j - 1)) rfl rfl pC.u) (hS _ _ hI)<|d7 11 13 (.int .i64 y) 84 rfl rfl (j2 ⟨fW,fX+(j - 1),none⟩ (fun W hW=>af ((Below.cell (p:=⟨fW,fX+(j - 1),none⟩) hW C3.u.lt).trans C3.u.cell))) (hS _ _ hI)<|d7 12 13 (.bool false) 85 rfl rfl (j3 fun w=>cg (R:=.bool false) .leq _ _ _ rfl rfl rfl (DW _ (decide_eq_false BJ))) (hS _ _ hI)<|j1 13 86 rfl rfl (i8 (.bool false)) (hS _ _ hI) ?_;go_frame;refine Rg.Any.done (by kernel_rfl) ?_ _;clear hS hI;go_upto_region 29 with fail;refine c6<|k8 (g8 (.int .i64 (((j+1):Nat):Int)) .add (h:=bD _ (by omega) (by omega)))<|j7 rfl ?_;go_frame
            have JR:=U (show ∀ i (h:i<s.length),i<j+1->1<=i->s[i - 1]'(by omega)<s[i] from fun i h h0 h1=>by
             by_cases e:i=j
             ·subst e; rw [hx.u,hy.u]; omega
             ·exact HI.u i h (by omega) h1)
            clear HI ZA C2 C3;go_wp2;go_roundw
            case rel=>exact ⟨j+1,by go_num,wZ,JR,KI⟩
            case measure=>simp [intOf]; omega
         obtain rfl:j=s.length:=by omega
         have fC:=U (show gL n (SS.drop (k+1))=gL n SS by
          rw [<- HA.u,Pt az];unfold gK
          rw [hs.u,if_neg (by rw [sD.u]; decide),if_pos (show oT s from fun i h h1=>HI.u i h h h1)])
         clear HI;go_upto_region 25 with fail;refine c6<|k8 (g8 (.bool false) .lss (h:=aI _ f8)) ?_;go_frame;go_upto_region 30 with fail;refine c6<|k8 (g8 (.int .i64 (((k+1):Nat):Int)) .add (h:=bD _ (by omega) (by omega)))<|j7 rfl ?_;go_frame;clear CX NX KI;go_wp2;go_roundw
         case rel=>exact ⟨k+1,by go_num,az,fC,ZA⟩
         case measure=>simp [intOf]; omega
      obtain rfl:k=SS.length:=by omega
      have jS:=U (show gL n SS=0 by rw [<- HA.u,List.drop_length]; rfl);replace K:=U (K.u.trans (KL.u.mono K.u.size));clear HA KL;go_upto_region 20 with fail;refine c6<|k8 (g8 (.bool false) .lss (h:=aI _ f8)) ?_;go_frame;go_upto_region 31 with fail;refine c6<|k8 (j4 (abk _ _))<|k8 (g7 (.slice ta TS.length tc) ⟨w.heap.size,3,none⟩ (Rg.ae _ _ Tryz.underlying22 B3.u.cell))<|k8 (g9 Tryz.underlying22)<|j7 rfl ?_;go_frame;have KL:=U (bi wC);have fV:=U (show iV n (TS.drop 0)=iV n TS from rfl);go_wp2
      go_loopw [92] (fun iv wr=>∃ k:Nat,iv=.int .i64 ((k:Nat):Int)/\k<=TS.length/\Hid (iV n (TS.drop k)=iV n TS)/\Hid (BE wC wr)) (fun iv _=>TS.length - (intOf iv).toNat)
      case atStart=>exact ⟨0,rfl,Nat.zero_le _,fV,KL⟩
      case round =>
       clear fV KL;obtain ⟨k,rfl,hk,HA,KL⟩:=hrel;generalize wr=wE at *;replace HC:=U (HC.u.p KL.u);replace RP:=U (RP.u.p KL.u);replace cB:=U (cB.u.p KL.u);replace RT:=U (RT.u.p KL.u);replace B0:=U (B0.u.p KL.u);replace B1:=U (B1.u.p KL.u);replace B2:=U (B2.u.p KL.u);replace B3:=U (B3.u.p KL.u);replace BN:=U (BN.u.p KL.u)
       by_cases az:k<TS.length
       case pos =>
        obtain ⟨lb,lo,_,_,e1,bZ,dp,cA⟩:=fQ RT.u.r (i:=k) az;subst e1;obtain ⟨s,hs⟩:∃ s,Hid (TS[k]=s):=⟨_,U rfl⟩;rw [hs.u] at dp cA;have Zz:=U (show s.length<=100 from hs.u▸lG.u _ (List.getElem_mem az));obtain ⟨pm,xa,xc,kl,dG,-⟩:=cA.len;rw [dG,<- kl] at dp cA;clear kl dG;have CX:=U (CL.mk dp bZ);have NX:=U (dM.mk cA);clear bZ dp cA;have tU:s.length<=100:=Zz.u;obtain ⟨bo,sD⟩:∃ t,Hid (s.any (dv n)=t):=⟨_,U rfl⟩;go_upto_region 32 with fail;refine c6<|k8 (g8 (.bool true) .lss (h:=aI _ f7)) ?_;go_frame;go_upto_region 33 with fail;refine c6<|k8 (ag bM _ _ rfl lb (lo) (TS.length) tc (k) rfl rfl (by omega))<|k8 (g7 (.slice xa s.length xc) ⟨lb,lo+k,none⟩ (Rg.ae _ _ Tryz.underlying26 CX.u.cell))<|j8 rfl ?_;go_frame
        by_cases uC:64<s.length
        case pos =>
         have HX:=U (show (4:Int)=G by
          have e0:iO n TS[k]=4:=by unfold iO; rw [hs.u,if_pos uC]
          have e1:iV n TS=4:=by rw [<- HA.u,I6 az (by rw [e0]; decide),e0]
          rw [<- hG.u];unfold eJ
          rw [if_neg (fun h=>h mz.u),if_neg (fun h=>h yP.u),if_neg S7.u,if_neg (fun h=>h jS.u),if_pos (by rw [e1]; decide),e1])
         go_upto_region 34 with fail;refine c6<|j8 rfl<|k8 (g9 Tryz.underlying26)<|k8 (g8 (.bool true) .gtr (h:=bA _ f7)) ?_;go_frame;go_upto_region 35 with fail;refine c6<|j7 rfl ?_;go_frame;go_wp2;go_ret;exact ⟨by rw [<- HX.u]; rfl,K.u.trans (KL.u.mono K.u.size)⟩
        case neg =>
         skip;go_upto_region 34 with fail;refine c6<|j8 rfl<|k8 (g9 Tryz.underlying26)<|k8 (g8 (.bool false) .gtr (h:=bA _ f8)) ?_;go_frame
         cases bo
         case true =>
          have HX:=U (show (2:Int)=G by
           have e0:iO n TS[k]=2:=by unfold iO; rw [hs.u,if_neg uC,if_pos sD.u]
           have e1:iV n TS=2:=by rw [<- HA.u,I6 az (by rw [e0]; decide),e0]
           rw [<- hG.u];unfold eJ
           rw [if_neg (fun h=>h mz.u),if_neg (fun h=>h yP.u),if_neg S7.u,if_neg (fun h=>h jS.u),if_pos (by rw [e1]; decide),e1])
          go_upto_region 36 with fail;refine c6<|j8 rfl<|j6 ((.func (.func 104) #[] #[.pointer (some ⟨wB.heap.size,0,none⟩)])) rfl ?_;go_frame;refine f4 101 (ax 105 _ _ _ rfl rfl rfl (EU _ _)) ?_;refine (gD _ s _ _ (dv n) wE NX.u.i (by omega) (fun _ _=>by kernel_rfl) (fun x _ w1 hb=>by exact rX n x wB.heap.size w1 ((hb.cell (p:=⟨wB.heap.size,0,none⟩) (BN.u).lt).trans (BN.u).c) (Nat.lt_of_lt_of_le (BN.u).lt hb.size))).mono ?_;rintro e1 abX ⟨rfl,hb⟩;rw [sD.u];refine ⟨_,rfl,?_⟩;go_frame;replace HC:=U (HC.u.p hb);replace RP:=U (RP.u.p hb);replace cB:=U (cB.u.p hb);replace RT:=U (RT.u.p hb);replace B0:=U (B0.u.p hb);replace B1:=U (B1.u.p hb);replace B2:=U (B2.u.p hb);replace B3:=U (B3.u.p hb);replace BN:=U (BN.u.p hb);replace CX:=U (CX.u.p hb);replace NX:=U (NX.u.p hb);replace KL:=U (Rg.acc KL.u hb);clear hb;go_upto_region 37 with fail;refine c6<|j7 rfl ?_;go_frame;go_wp2;go_ret;exact ⟨by rw [<- HX.u]; rfl,K.u.trans (KL.u.mono K.u.size)⟩
         case false =>
          have fC:=U (show iV n (TS.drop (k+1))=iV n TS by
           rw [<- HA.u,Pu az];unfold iO
           rw [hs.u,if_neg uC,if_neg (by rw [sD.u]; decide)])
          go_upto_region 36 with fail;refine c6<|j8 rfl<|j6 ((.func (.func 104) #[] #[.pointer (some ⟨wB.heap.size,0,none⟩)])) rfl ?_;go_frame;refine f4 101 (ax 105 _ _ _ rfl rfl rfl (EU _ _)) ?_;refine (gD _ s _ _ (dv n) wE NX.u.i (by omega) (fun _ _=>by kernel_rfl) (fun x _ w1 hb=>by exact rX n x wB.heap.size w1 ((hb.cell (p:=⟨wB.heap.size,0,none⟩) (BN.u).lt).trans (BN.u).c) (Nat.lt_of_lt_of_le (BN.u).lt hb.size))).mono ?_;rintro e1 abY ⟨rfl,hb⟩;rw [sD.u];refine ⟨_,rfl,?_⟩;go_frame;replace HC:=U (HC.u.p hb);replace RP:=U (RP.u.p hb);replace cB:=U (cB.u.p hb);replace RT:=U (RT.u.p hb);replace B0:=U (B0.u.p hb);replace B1:=U (B1.u.p hb);replace B2:=U (B2.u.p hb);replace B3:=U (B3.u.p hb);replace BN:=U (BN.u.p hb);replace CX:=U (CX.u.p hb);replace NX:=U (NX.u.p hb);replace KL:=U (Rg.acc KL.u hb);clear hb;go_upto_region 38 with fail;refine c6<|k8 (g8 (.int .i64 (((k+1):Nat):Int)) .add (h:=bD _ (by omega) (by omega)))<|j7 rfl ?_;go_frame;clear HA CX NX;go_wp2;go_roundw
          case rel=>exact ⟨k+1,by go_num,az,fC,KL⟩
          case measure=>simp [intOf]; omega
       obtain rfl:k=TS.length:=by omega
       have HT0:=U (show iV n TS=0 by rw [<- HA.u,List.drop_length]; rfl);replace K:=U (K.u.trans (KL.u.mono K.u.size));clear HA KL;go_upto_region 32 with fail;refine c6<|k8 (g8 (.bool false) .lss (h:=aI _ f8)) ?_;go_frame;obtain ⟨oa,on,oc,ra,rn,rc,q0,q1,q2,q3⟩:=HC.u.at_ 0 h1;rw [cI.u,sY.u] at q0;have sG:=jA q0 q1 q2;rw [cI.u] at q3;have CE:=U q3;clear q0 q1 q2 q3;go_upto_region 39 with fail;refine c6<|k8 (j4 (yf _ _))<|k8 (g7 (.slice (some ⟨b,0,none⟩) CS.length cc) ⟨w.heap.size,0,none⟩ (Rg.ae _ _ Tryz.underlying71 B0.u.cell))<|k8 (bn _ _ rfl Tryz.underlying71 fU b (CS.length) (cc) (0) rfl rfl h1)<|k8 (Rg.eK (v:=(.agg #[.int .i64 n,.slice oa on oc,.slice ra rn rc])) _ _ rfl ⟨b,0*3,none⟩ rfl sG) ?_;go_frame;refine f4 107 (aA 106 _ _ rfl rfl (Zx _ _)) ?_;refine (S5 (n:=n) (abl cI.u sY.u mz.u h1) (by rw [<- sY.u]; exact HN.u) CE.u).mono ?_;rintro e1 abZ ⟨rfl,hb⟩;refine ⟨_,rfl,?_⟩;go_frame;replace HC:=U (HC.u.p hb);replace RP:=U (RP.u.p hb);replace cB:=U (cB.u.p hb);replace RT:=U (RT.u.p hb);replace B0:=U (B0.u.p hb);replace B1:=U (B1.u.p hb);replace B2:=U (B2.u.p hb);replace B3:=U (B3.u.p hb);replace BN:=U (BN.u.p hb);replace CE:=U (CE.u.p hb);replace K:=U (Rg.acc K.u hb);clear hb;refine j7 rfl ?_;go_frame
       have HX:=U (show sH (n,c0.2.1,c0.2.2)=G by
        rw [<- hG.u];unfold eJ
        rw [if_neg (fun h=>h mz.u),if_neg (fun h=>h yP.u),if_neg S7.u,if_neg (fun h=>h jS.u),if_neg (fun h=>h HT0.u),<- sY.u])
       go_wp2;go_ret;exact ⟨by rw [<- HX.u]; rfl,K.u⟩
end
section
open Go.Proofs.Ob
open Go.Proofs.Cm (Gd Gr ar ap lexLt cz St)
attribute [local go_sem] Oper.semAt_some
attribute [local irreducible] Go.Calls Go.wpList Go.wpListIn
theorem S8 (args:Array Value) (w:World):(callFunc 78 args).run Tryz.prog w=.ok (.enter 78 args) w:=by kernel_rfl
theorem S_ (args:Array Value) (w:World):(callFunc 79 args).run Tryz.prog w=.ok (.enter 79 args) w:=by kernel_rfl
theorem Ta:(Tryz.prog.info? 73).map (fun i=>i.size)=some 4:=by kernel_rfl
theorem yg {w:World} {b:Nat} {x y u:Value} (h0:w.cell? ⟨b,0,none⟩=some x) (h1:w.cell? ⟨b,1,none⟩=some y) (h2:w.cell? ⟨b,2,none⟩=some z) (h3:w.cell? ⟨b,3,none⟩=some u):(loadVar 73 ⟨b,0,none⟩).run Tryz.prog w=.ok (.agg #[x,y,z,u]) w:=by
 obtain ⟨i0,hi,bJ⟩:∃ i,Tryz.prog.info? 73=some i/\i.size=4:=by
  have:=Ta
  cases h:Tryz.prog.info? 73 with
  | none=>rw [h] at this; simp at this
  | some i=>rw [h] at this; simp at this; exact ⟨i,rfl,this⟩
 have zE:(⟨b,0,none⟩:Addr).add 0=⟨b,0,none⟩:=by simp [Addr.add]
 have kF:(⟨b,0,none⟩:Addr).add 1=⟨b,1,none⟩:=by simp [Addr.add]
 have oA:(⟨b,0,none⟩:Addr).add 2=⟨b,2,none⟩:=by simp [Addr.add]
 have ha3:(⟨b,0,none⟩:Addr).add 3=⟨b,3,none⟩:=by simp [Addr.add]
 have hg:(isAgg 73).run Tryz.prog w=.ok true w:=by kernel_rfl
 simp [loadVar,hg,sizeOf,typeInfo,hi,bJ,loadCells,loadCellsFrom,load,zE,kF,oA,ha3];simp [Sem.run,h0,h1,h2,h3]
theorem rB {w:World} {ad:Addr} (h:w.cell? ad=some v):(loadVar 110 ad).run Tryz.prog w=.ok v w:=by
 have hg:(isAgg 110).run Tryz.prog w=.ok false w:=by kernel_rfl
 simp [loadVar,hg,load];simp [Sem.run,h]
theorem xw {o : Oper} {a : Act} {w : World} {x1 recv:Value} {F : FuncId} (f x : Operand) (qu : Array TypeId) (ho : o.op = .call { callee := .invoke f "cayley/search.maps", args := #[x], argTypes := qu }) (hf : a.eval f = tv) (hx : a.eval x = x1)
  (hF : (callMethod tv "cayley/search.maps" #[x1]).run Tryz.prog w = .ok (.enter F #[recv, x1]) w) : (execOp a.eval o).run Tryz.prog w = .ok (.enter F #[recv, x1]) w := by
 unfold execOp;simp [ho,hx,hf,resolve,invoke,Deferred.ofValue,hF]
theorem CL.same {b o:Nat} (h:CL W b o v) (hs:RF.ka W W'):CL W' b o v:=CL.mk ((hs.cell _).trans h.cell) (Nat.lt_of_lt_of_le h.lt hs.size)
theorem CW.same {b:Nat} (h:CW W b v) (hs:RF.ka W W'):CW W' b v:=⟨(hs.cell _).trans h.c,(hs.frozen _).trans h.f,Nat.lt_of_lt_of_le h.lt hs.size⟩
theorem _root_.Go.Proofs.Rg.FI.p {l:List Int} (h:Rg.FI F W v l) (hb:BE W W'):Rg.FI F W' v l:=Rg.FI.kp h (M:=fun _=>False) (Rg.Kp.aD hb) (fun _ _=>id)
structure mF (N:Nat) (tv:Value) (Pb:List Nat->Bool) (Fk:Nat->Prop) (A:World->Prop) (W:World):Prop where
 th:ThU N tv Pb Fk A
 a:A W
theorem mF.p {Pb:List Nat->Bool} {A:World->Prop} (h:mF N tv Pb Fk A W) (hb:BE W W'):mF N tv Pb Fk A W':=⟨h.th,h.th.kp _ _ _ h.a (Rg.Kp.aD hb) (fun _ _=>id)⟩
theorem mF.same {N:Nat} {tv:Value} {Pb:List Nat->Bool} {Fk:Nat->Prop} {A:World->Prop} {W W':World} (h:mF N tv Pb Fk A W) (hs:RF.ka W W'):mF N tv Pb Fk A W':=⟨h.th,h.th.same _ _ h.a hs⟩
theorem mF.kp {N:Nat} {tv:Value} {Pb:List Nat->Bool} {Fk C:Nat->Prop} {A:World->Prop} {W W':World} (h:mF N tv Pb Fk A W) (hk:Rg.Kp C W W') (hC:∀ z,Fk z->¬ C z):mF N tv Pb Fk A W':=⟨h.th,h.th.kp _ _ _ h.a hk hC⟩
theorem e_ {n:Int} {CS:List dA} {SS TS:List (List Int)} {c0:dA} (h:eJ n CS PS SS TS c0=0):hU CS=0/\Ma.df PS=0/\¬ ((CS.any fun c=>decide (c.1≠n))=true∨(PS.any fun x=>decide ((x.length:Int)≠n))=true)/\gL n SS=0/\iV n TS=0/\sH c0=0:=by
 unfold eJ at h
 by_cases h1:hU CS=0
 case neg=>rw [if_pos h1] at h; exact absurd h h1
 rw [if_neg (fun g=>g h1)] at h
 by_cases h2:Ma.df PS=0
 case neg=>rw [if_pos h2] at h; exact absurd h h2
 rw [if_neg (fun g=>g h2)] at h
 by_cases h3:(CS.any fun c=>decide (c.1≠n))=true∨(PS.any fun x=>decide ((x.length:Int)≠n))=true
 case pos=>rw [if_pos h3] at h; exact absurd h (by decide)
 rw [if_neg h3] at h
 by_cases h4:gL n SS=0
 case neg=>rw [if_pos h4] at h; exact absurd h h4
 rw [if_neg (fun g=>g h4)] at h
 by_cases h5:iV n TS=0
 case neg=>rw [if_pos h5] at h; exact absurd h h5
 rw [if_neg (fun g=>g h5)] at h;exact ⟨h1,h2,h3,h4,h5,h⟩
def Dv (LL:List (List Nat)) (Pb:List Nat->Bool) (e:Ending) (w':World):Prop :=
 ((∀ i,i<LL.length->Pb (LL.getD i [])=false)/\e=.returned (.tuple #[.slice none 0 0,.int .i64 18])) ∨
 ∃ k x,k<LL.length/\Pb (LL.getD k [])=true/\(∀ i,i<k->Pb (LL.getD i [])=false)/\e=.returned (.tuple #[x,.int .i64 0])/\Rg.NP w' x (LL.getD k [])
def mG (c:dA) (N:Nat) (O:List (List Nat)) (R:List (List (List Nat))):Prop :=
 c.1=((N:Nat):Int)/\1<=N/\N<=64/\c.2.1=O.map Ma.ah/\c.2.2=R.map (List.map Ma.ah)/\ar N (Gr N (·∈R.flatten)) O R/\∀ s∈R.flatten,Gd N s
theorem yh (n:Int) (ov rv:Value) (w:World) :
  Calls Tryz.prog 79 #[.agg #[.int .i64 n,ov,rv]] w fun e w'=>∃ cb,w.heap.size<=cb/\e=.returned (.func (.func 107) #[] #[.pointer (some ⟨cb,0,none⟩)])/\(CL w' cb 0 (.int .i64 n)/\CL w' cb 1 ov/\CL w' cb 2 rv)/\BE w w' :=
 (Ls n ov rv w).mono fun _ _ h=>⟨_,Nat.le_refl _,h⟩
theorem nr {w:World} {ll:List (List (List Int))} (h:gC w v ll):aV (fun k=>k<w.heap.size) w v ll:=by
 obtain ⟨us,⟨a,cap,h1,h2,h3,h4,h5⟩,h6,h7⟩:=h;refine ⟨us,⟨a,cap,h1,h2,h3,h4,fun h0=>?_⟩,h6,fun i p q=>Rg.aL.o5 (h7 i p q)⟩;obtain ⟨b,o,e1,e2,e4⟩:=h5 h0;exact ⟨b,o,e1,e2,e2,e4⟩
def kd (ck:Int) (c0:dA) (Pb:List Nat->Bool) (w:World) (e:Ending) (w':World):Prop:=BE w w' /\
 ((ck≠0/\e=.returned (.tuple #[.slice none 0 0,.int .i64 ck]))∨(ck=0/\∃ N O R,mG c0 N O R/\Dv (dR N O R) Pb e w'))
structure FsI (N:Nat) (LL:List (List Nat)) (Pb:List Nat->Bool) (Fk:Nat->Prop) (A:World->Prop) (Bt B4 B5:Nat) (tv:Value) (t:Nat) (C:Nat->Prop) (W:World):Prop where
 e:C=fun z=>z=B4∨z=B5
 a:mF N tv Pb Fk A W
 ct:CL W Bt 0 tv
 c4:CW W B4 (.slice none 0 0)
 c5:CW W B5 (.int .i64 0)
 no:∀ i,i<t->Pb (LL.getD i [])=false
structure FsX (LL:List (List Nat)) (Pb:List Nat->Bool) (B4 B5:Nat) (c:Code) (W:World):Prop where
 e:c=.ret
 g:∃ k x,k<LL.length/\Pb (LL.getD k [])=true/\(∀ i,i<k->Pb (LL.getD i [])=false)/\CW W B4 x/\CW W B5 (.int .i64 0)/\Rg.FI (fun z=>¬ (z=B4∨z=B5)) W x (Ma.ah (LL.getD k []))
theorem EV {b cc:Nat} {CS:List dA} {AK I_ Ja:Value} {SS TS:List (List Int)} {w:World} (hC:mU b CS w) (h1:1<=CS.length) (mh:CS.length<=100) (hP:Rg.Rows w AK PS) (qt:PS.length<=100) (hS:Rg.Rows w I_ SS) (kG:SS.length<=100) (iU:∀ s∈SS,s.length<=100) (hT:Rg.Rows w Ja TS) (D9:TS.length<=100) (sI:∀ s∈TS,s.length<=100) (hn:(CS[0]'(by omega)).1<=12)
  {ty:TypeId} {vv:Value} {Pb:List Nat->Bool} {A:World->Prop} (EW:eJ (CS[0]'(by omega)).1 CS PS SS TS (CS[0]'(by omega))=0->mF (CS[0]'(by omega)).1.toNat (.iface ty vv) Pb Fk A w/\∀ z,Fk z->z<w.heap.size) :
  Calls Tryz.prog 63 #[.agg #[.slice (some ⟨b,0,none⟩) CS.length cc,AK,I_,Ja],.iface ty vv] w (kd (eJ (CS[0]'(by omega)).1 CS PS SS TS (CS[0]'(by omega))) (CS[0]'(by omega)) Pb w):=by
 obtain ⟨pa,pc,rfl,-⟩:=hP.shape;obtain ⟨sa,sc,rfl,-⟩:=hS.shape;obtain ⟨ta,tc,rfl,-⟩:=hT.shape;obtain ⟨ck,dI⟩:∃ z,Hid (eJ (CS[0]'(by omega)).1 CS PS SS TS (CS[0]'(by omega))=z):=⟨_,U rfl⟩;rw [dI.u] at EW ⊢;obtain ⟨c0,cI⟩:∃ c,Hid (CS[0]'(by omega)=c):=⟨_,U rfl⟩;rw [cI.u] at EW ⊢;have Tb:=U EW;have HN:=U hn;have HC:=U hC;have EY:=U hC;have RP:=U (gJ.mk hP);have cB:=U (gJ.mk hS);have RT:=U (gJ.mk hT);have xu:=U iU;have lG:=U sI;have K:=U (bi w);have Gp:w.heap.size=w.heap.size+0:=rfl;clear hC hP hS hT iU sI hn EW;refine RF.iK Tryz.func63 rfl ?_;simp only [Tryz.ntmps63,List.size_toArray,List.length_cons,List.length_nil,Nat.reduceAdd,Nat.reduceSub,Array.replicate_succ,Array.replicate_zero,List.push_toArray,List.append_toArray,List.nil_append,List.cons_append];go_upto_region 0 with fail;refine c6 ?_;have aN:=ET w (.slice (some ⟨b,0,none⟩) CS.length cc) (.slice pa PS.length pc) (.slice sa SS.length sc) (.slice ta TS.length tc) 73
 have hs:(w.alloc (.cells #[.slice (some ⟨b,0,none⟩) CS.length cc,.slice pa PS.length pc,.slice sa SS.length sc,.slice ta TS.length tc] 73)).heap.size=w.heap.size+1:=by simp
 refine k8 (Rg.aY _ _ rfl rfl) ?_;go_frame;have hb:=be w (.cells #[.slice (some ⟨b,0,none⟩) CS.length cc,.slice pa PS.length pc,.slice sa SS.length sc,.slice ta TS.length tc] 73);generalize w.alloc (.cells #[.slice (some ⟨b,0,none⟩) CS.length cc,.slice pa PS.length pc,.slice sa SS.length sc,.slice ta TS.length tc] 73)=w1 at *;replace HC:=U (HC.u.p hb);replace RP:=U (RP.u.p hb);replace cB:=U (cB.u.p hb);replace RT:=U (RT.u.p hb);replace K:=U (Rg.acc K.u hb);clear hb;have B0:=U aN.1;have B1:=U aN.2.1;have B2:=U aN.2.2.1;have B3:=U aN.2.2.2
 have nB:w1.heap.size=w.heap.size+1:=by omega
 clear aN hs;have cO:=CW.new w1 (.iface ty vv) 110
 have hs:(w1.alloc (.cells #[.iface ty vv] 110)).heap.size=w1.heap.size+1:=by simp
 refine k8 (jt (v:=.iface ty vv) _ _ rfl rfl rfl) ?_;go_frame;have hb:=be w1 (.cells #[.iface ty vv] 110);generalize w1.alloc (.cells #[.iface ty vv] 110)=w2 at *;replace HC:=U (HC.u.p hb);replace RP:=U (RP.u.p hb);replace cB:=U (cB.u.p hb);replace RT:=U (RT.u.p hb);replace B0:=U (B0.u.p hb);replace B1:=U (B1.u.p hb);replace B2:=U (B2.u.p hb);replace B3:=U (B3.u.p hb);replace K:=U (Rg.acc K.u hb);clear hb;have BT:=U cO;rw [nB] at BT ⊢
 have jC:w2.heap.size=w.heap.size+2:=by omega
 clear cO hs;have cO:=CW.new w2 (.slice none 0 0) 27
 have hs:(w2.alloc (.cells #[.slice none 0 0] 27)).heap.size=w2.heap.size+1:=by simp
 refine k8 (sS rfl) ?_;go_frame;have hb:=be w2 (.cells #[.slice none 0 0] 27);generalize w2.alloc (.cells #[.slice none 0 0] 27)=w3 at *;replace HC:=U (HC.u.p hb);replace RP:=U (RP.u.p hb);replace cB:=U (cB.u.p hb);replace RT:=U (RT.u.p hb);replace B0:=U (B0.u.p hb);replace B1:=U (B1.u.p hb);replace B2:=U (B2.u.p hb);replace B3:=U (B3.u.p hb);replace BT:=U (BT.u.p hb);replace K:=U (Rg.acc K.u hb);clear hb;have C4:=U cO;rw [jC] at C4 ⊢
 have Eu:w3.heap.size=w.heap.size+3:=by omega
 clear cO hs;have cO:=CW.new w3 (.int .i64 0) 30
 have hs:(w3.alloc (.cells #[.int .i64 0] 30)).heap.size=w3.heap.size+1:=by simp
 refine k8 (vu rfl) ?_;go_frame;have hb:=be w3 (.cells #[.int .i64 0] 30);generalize w3.alloc (.cells #[.int .i64 0] 30)=w4 at *;replace HC:=U (HC.u.p hb);replace RP:=U (RP.u.p hb);replace cB:=U (cB.u.p hb);replace RT:=U (RT.u.p hb);replace B0:=U (B0.u.p hb);replace B1:=U (B1.u.p hb);replace B2:=U (B2.u.p hb);replace B3:=U (B3.u.p hb);replace BT:=U (BT.u.p hb);replace C4:=U (C4.u.p hb);replace K:=U (Rg.acc K.u hb);clear hb;have C5:=U cO;rw [Eu] at C5 ⊢
 have Rz:w4.heap.size=w.heap.size+4:=by omega
 clear cO hs;go_upto_region 1 with fail;refine c6<|k8 (g7 ((.agg #[.slice (some ⟨b,0,none⟩) CS.length cc,.slice pa PS.length pc,.slice sa SS.length sc,.slice ta TS.length tc])) ⟨w.heap.size,0,none⟩ (yg B0.u.cell B1.u.cell B2.u.cell B3.u.cell)) ?_;go_frame;refine f4 9 (aA 78 _ _ rfl rfl (S8 _ _)) ?_;refine (vP (cc:=cc) HC.u h1 mh RP.u.r qt cB.u.r kG xu.u RT.u.r D9 lG.u HN.u).mono ?_;rintro e1 w5 ⟨rfl,hb⟩;rw [dI.u];refine ⟨_,rfl,?_⟩;go_frame;replace HC:=U (HC.u.p hb);replace RP:=U (RP.u.p hb);replace cB:=U (cB.u.p hb);replace RT:=U (RT.u.p hb);replace B0:=U (B0.u.p hb);replace B1:=U (B1.u.p hb);replace B2:=U (B2.u.p hb);replace B3:=U (B3.u.p hb);replace BT:=U (BT.u.p hb);replace C4:=U (C4.u.p hb);replace C5:=U (C5.u.p hb);replace K:=U (Rg.acc K.u hb);clear hb;refine j7 rfl ?_;go_frame;have kI:=U (show w.heap.size+4<=w5.heap.size by have:=C5.u.lt; omega);clear Gp nB jC Eu
 by_cases hz:ck=0
 case neg =>
  skip;go_upto_region 2 with fail;refine c6<|j7 rfl<|k8 (g8 (.bool true) .neq (h:=aE _ (decide_eq_true hz))) ?_;go_frame;go_upto_region 3 with fail;refine c6<|j7 rfl<|Rg.aG none rfl rfl (Rg.ak _ _ _ rfl _ rfl _ rfl (Rg.bz _ cX C4.u.c C4.u.f))<|Rg.aG none rfl rfl (Rg.ak _ _ _ rfl _ rfl _ rfl (dt ck (C5.u.other (.slice none 0 0) (b':=w.heap.size+2) (o:=0) (by omega)).c (C5.u.other (.slice none 0 0) (b':=w.heap.size+2) (o:=0) (by omega)).f)) ?_;go_frame;have y4:=(C4.u.set (.slice none 0 0)).other (.int .i64 ck) (b':=w.heap.size+3) (o:=0) (by omega);have y5:=(C5.u.other (.slice none 0 0) (b':=w.heap.size+2) (o:=0) (by omega)).set (.int .i64 ck);have hk:BE w ((w5.setCell ⟨w.heap.size+2,0,none⟩ (.slice none 0 0)).setCell ⟨w.heap.size+3,0,none⟩ (.int .i64 ck)):=(K.u.setCell (p:=⟨w.heap.size+2,0,none⟩) (show w.heap.size<=w.heap.size+2 by omega) _).setCell (p:=⟨w.heap.size+3,0,none⟩) (show w.heap.size<=w.heap.size+3 by omega) _;generalize (w5.setCell ⟨w.heap.size+2,0,none⟩ (.slice none 0 0)).setCell ⟨w.heap.size+3,0,none⟩ (.int .i64 ck)=dB at *;go_wp2;exact RF.leaves w.heap.size [] _ (by simp) (by simp) (fun W' l1 l2 _=>⟨_,ji rfl _ rfl rfl (Rg.ae _ _ Tryz.underlying27 ((l2 _).trans y4.c)) (pG ((l2 _).trans y5.c)),hk.trans l1,.inl ⟨hz,rfl⟩⟩)
 case pos =>
  subst hz;go_upto_region 2 with fail;refine c6<|j7 rfl<|k8 (g8 (.bool false) .neq (h:=aE _ f8)) ?_;go_frame;obtain ⟨bJ,dZ,ZB,ZC,ZD,VQ⟩:=e_ dI.u;obtain ⟨N,O,R,en,aU,aZ,eo,er,bT,hH⟩:=eU (kc bJ _ (List.getElem_mem (show 0<CS.length by omega)));obtain ⟨DU,az⟩:=Tb.u rfl;have ZE:=U az;have mR:=U (show mG c0 N O R from by rw [<- cI.u]; exact ⟨en,aU,aZ,eo,er,bT,hH⟩)
  have Tc:(CS[0]'(by omega)).1.toNat=N:=by rw [en]; simp
  have TH:=U (show mF N (.iface ty vv) Pb Fk A w from by rw [<- Tc,cI.u]; exact DU);replace TH:=U (TH.u.p K.u);have dc:=U bT;have lX:=U hH;obtain ⟨oa,on,oc,ra,rn,rc,q0,q1,q2,q3⟩:=EY.u.at_ 0 (by omega);rw [en] at q0;rw [eo,er] at q3;have sG:=jA ((K.u.cell (p:=⟨b,0*3,none⟩) EY.u.lt).trans q0) ((K.u.cell (p:=⟨b,0*3+1,none⟩) EY.u.lt).trans q1) ((K.u.cell (p:=⟨b,0*3+2,none⟩) EY.u.lt).trans q2);have Td:=U q3;clear q0 q1 q2 q3 bJ dZ ZB ZC ZD VQ az DU Tc en eo er bT hH Tb;go_upto_region 4 with fail;refine c6<|k8 (j4 (yf _ _))<|k8 (g7 (.slice (some ⟨b,0,none⟩) CS.length cc) ⟨w.heap.size,0,none⟩ (Rg.ae _ _ Tryz.underlying71 B0.u.cell))<|k8 (bn _ _ rfl Tryz.underlying71 fU b (CS.length) (cc) (0) rfl rfl (by omega))<|k8 (Rg.eK (v:=(.agg #[.int .i64 (N:Int),.slice oa on oc,.slice ra rn rc])) _ _ rfl ⟨b,0*3,none⟩ rfl sG) ?_;go_frame;refine f4 17 (aA 79 _ _ rfl rfl (S_ _ _)) ?_;refine (yh ((N:Int)) (.slice oa on oc) (.slice ra rn rc) w5).mono ?_;rintro e1 ug ⟨cb,tV,rfl,zt,hb⟩;refine ⟨_,rfl,?_⟩;go_frame;replace HC:=U (HC.u.p hb);replace RP:=U (RP.u.p hb);replace cB:=U (cB.u.p hb);replace RT:=U (RT.u.p hb);replace B0:=U (B0.u.p hb);replace B1:=U (B1.u.p hb);replace B2:=U (B2.u.p hb);replace B3:=U (B3.u.p hb);replace BT:=U (BT.u.p hb);replace C4:=U (C4.u.p hb);replace C5:=U (C5.u.p hb);replace TH:=U (TH.u.p hb);replace K:=U (Rg.acc K.u hb);clear hb;have E0:=U zt.1;have E1:=U zt.2.1;have E2:=U zt.2.2;clear zt sG;have cR:=kI.u;have ph:cb<ug.heap.size:=E0.u.lt;have Aq:=U (Rg.Kp.aD (M:=fun _=>False) K.u);have Te:Rg.aL (fun z=>z<ug.heap.size/\¬ (z=w.heap.size+2∨z=w.heap.size+3)) ug (.slice oa on oc) (O.map Ma.ah):=((Rg.aL.o5 Td.u.1).kp Aq.u (fun _ _=>id)).mono (fun z hz=>⟨by have:=K.u.size; omega,by omega⟩)
  have Tf:aV (fun z=>z<ug.heap.size/\¬ (z=w.heap.size+2∨z=w.heap.size+3)) ug (.slice ra rn rc) (R.map (List.map Ma.ah)):=((nr Td.u.2).kp Aq.u (fun _ _=>id)).mono (fun z hz=>⟨by have:=K.u.size; omega,by omega⟩);go_wp2
  refine AB aU aZ (Gr.dE lX.u) dc.u (cb:=cb) (by exact rfl) (by exact rfl) (F:=fun z=>z<ug.heap.size/\¬ (z=w.heap.size+2∨z=w.heap.size+3)) (C0:=fun z=>z=w.heap.size+2∨z=w.heap.size+3) ⟨ph,by omega⟩ E0.u.cell E1.u.cell E2.u.cell Te Tf (fun z hz=>hz.1) (fun z hz=>hz.2)
   (FsI N (dR N O R) Pb Fk A (w.heap.size+1) (w.heap.size+2) (w.heap.size+3) (.iface ty vv)) (FsX (dR N O R) Pb (w.heap.size+2) (w.heap.size+3)) (fun t C W W' h hb=>⟨h.e,h.a.p hb,h.ct.p hb,h.c4.p hb,h.c5.p hb,h.no⟩) (fun t C W W' h hb=>⟨h.e,h.a.same hb,h.ct.same hb,h.c4.same hb,h.c5.same hb,h.no⟩)
   (fun c W W' h hs=>⟨h.e,by obtain ⟨k,x,g1,g2,g3,g4,g5,g6⟩:=h.g; exact ⟨k,x,g1,g2,g3,g4.same hs,g5.same hs,FI.same g6 hs⟩⟩)
   (fun t C W h z hz=>by rw [h.e] at hz; rcases hz with rfl | rfl <;> first | exact ⟨h.c4.lt,by omega,by omega⟩ | exact ⟨h.c5.lt,by omega,by omega⟩)
   ⟨rfl,TH.u,CL.mk BT.u.c BT.u.lt,C4.u,C5.u,fun i hi=>absurd hi (Nat.not_lt_zero _)⟩ (fun x=>{ tmps:=#[(.agg #[.slice (some ⟨b,0,none⟩) CS.length cc,.slice pa PS.length pc,.slice sa SS.length sc,.slice ta TS.length tc]),.iface ty vv,.pointer (some ⟨w.heap.size,0,none⟩),.pointer (some ⟨(w.heap.size+1),0,none⟩),.pointer (some ⟨(w.heap.size+2),0,none⟩),.pointer (some ⟨(w.heap.size+3),0,none⟩),.int .i64 0,x,(.agg #[.slice (some ⟨b,0,none⟩) CS.length cc,.slice pa PS.length pc,.slice sa SS.length sc,.slice ta TS.length tc]),.int .i64 0,.int .i64 0,.bool false,undef,.pointer (some ⟨w.heap.size,0,none⟩),.slice (some ⟨b,0,none⟩) CS.length cc,.pointer (some ⟨b,0*3,none⟩),(.agg #[.int .i64 (N:Int),.slice oa on oc,.slice ra rn rc]),(.func (.func 107) #[] #[.pointer (some ⟨cb,0,none⟩)]),x,undef,undef,undef,undef],defers:=[] }) ?asg ?body ?done ?stop
  case asg =>
   intro n l x W K hK
   gi_wp2
   exact hK
  case body =>
   rintro n l t C x W hi ht EZ hsW;obtain rfl:=hi.e;obtain ⟨xm,xa,xc,hxm,rfl,-⟩:=EZ.len;obtain ⟨F0,recv,hinv,jJ⟩:=hi.a.th.m;obtain ⟨q,hq⟩:∃ q,Hid ((dR N O R).getD t []=q):=⟨_,U rfl⟩;rw [hq.u] at EZ;have GQ:=U (show Gd N q by rw [<- hq.u,List.getD_eq_getElem?_getD,List.getElem?_eq_getElem ht]; exact (Gr.dE lX.u).gd _ (((fS lX.u dc.u).2 _).1 (List.getElem_mem ht)));obtain ⟨pb,k_⟩:∃ z,Hid (Pb q=z):=⟨_,U rfl⟩;have FX:=U EZ;have D3:=U hi.no;have HT:=U ht;have TT:=U hi.a;have TC:=U hi.ct;have D4:=U hi.c4;have D5:=U hi.c5;have KR:=U (bi W);clear hi EZ ht Te Tf Aq
   gi_upto_region 6 with fail
   refine wpIn_region_list ?_;refine Rg.aH (some 19) rfl rfl (fun _ hh=>by cases hh) (g7 (.iface ty vv) ⟨w.heap.size+1,0,none⟩ (rB TC.u.cell)) ?_;go_frame;refine Rg.aH (some 20) rfl rfl (fun _ hh=>by cases hh) (b5 (.slice xa xm xc) _ rfl rfl) ?_;go_frame;refine Rg.rT (some 21) rfl rfl (fun _ hh=>by cases hh) _ _ (xw (recv:=recv) _ _ _ rfl rfl rfl (hinv _ _)) ?_;refine (jJ W _ q TT.u.a (FX.u.ints) GQ.u).mono ?_;rintro e1 Tg ⟨rfl,hb⟩;rw [k_.u];refine ⟨_,rfl,?_⟩;go_frame;replace FX:=U (FX.u.p hb);replace TT:=U (TT.u.p hb);replace TC:=U (TC.u.p hb);replace D4:=U (D4.u.p hb);replace D5:=U (D5.u.p hb);replace KR:=U (Rg.acc KR.u hb);clear hb
   cases pb
   case false =>
    gi_wp2
    refine ⟨_,⟨rfl,TT.u,TC.u,D4.u,D5.u,fun i hi=>?_⟩,Rg.Kp.aD KR.u,fun z h=>.inl h⟩
    by_cases e:i=t
    ·rw [e,hq.u]; exact k_.u
    ·exact D3.u i (by omega)
   case true =>
    skip
    gi_upto_region 7 with fail
    refine wpIn_region_list ?_;refine Rg.aH (some 22) rfl rfl (fun _ hh=>by cases hh) (b5 (.slice xa xm xc) _ rfl rfl) ?_;go_frame;refine Rg.iy none rfl rfl (fun _ hh=>by cases hh) (Rg.ak _ _ _ rfl _ rfl _ rfl (Rg.bz _ cX D4.u.c D4.u.f)) ?_;go_frame;refine Rg.iy none rfl rfl (fun _ hh=>by cases hh) (Rg.ak _ _ _ rfl _ rfl _ rfl (dt 0 (D5.u.other (.slice xa xm xc) (b':=w.heap.size+2) (o:=0) (by omega)).c (D5.u.other (.slice xa xm xc) (b':=w.heap.size+2) (o:=0) (by omega)).f)) ?_;go_frame;have y4:=(D4.u.set (.slice xa xm xc)).other (.int .i64 0) (b':=w.heap.size+3) (o:=0) (by omega);have y5:=(D5.u.other (.slice xa xm xc) (b':=w.heap.size+2) (o:=0) (by omega)).set (.int .i64 0);have dF:Rg.Kp (fun z=>z=w.heap.size+2∨z=w.heap.size+3) Tg ((Tg.setCell ⟨w.heap.size+2,0,none⟩ (.slice xa xm xc)).setCell ⟨w.heap.size+3,0,none⟩ (.int .i64 0)):=(Rg.Kp.aR (.inl rfl)).trans (Rg.Kp.aR (.inr rfl)) (fun _ _ h=>h);generalize (Tg.setCell ⟨w.heap.size+2,0,none⟩ (.slice xa xm xc)).setCell ⟨w.heap.size+3,0,none⟩ (.int .i64 0)=dB at *
    gi_wp2
    exact ⟨⟨rfl,t,_,HT.u,by rw [hq.u]; exact k_.u,D3.u,y4,y5,by rw [hq.u]; exact Rg.FI.kp FX.u dF (fun _ h=>h)⟩,(Rg.Kp.aD KR.u).trans dF (fun _ _ h=>h)⟩
  case stop =>
   rintro c W ⟨rfl,k,x,g1,g2,g3,g4,g5,g6⟩ hD hk;obtain ⟨xm,xa,xc,hxm,rfl,-⟩:=g6.len;have Pw:=Rg.Kp.p K.u hk (fun z hz=>by omega);go_wp2;exact RF.leaves w.heap.size [_] _ (by simp) (by intro D iR; simp at iR; subst iR; exact ⟨hD,by omega⟩) (fun W' l1 l2 _=>⟨_,ji rfl _ rfl rfl (Rg.ae _ _ Tryz.underlying27 ((l2 _).trans g4.c)) (pG ((l2 _).trans g5.c)),Pw.trans l1,.inr ⟨rfl,N,O,R,mR.u,.inr ⟨k,_,g1,g2,g3,rfl,Rg.FI.ints (ft l2 l1.size g6)⟩⟩⟩)
  case done =>
   rintro C W hi hD hk;have Pw:=Rg.Kp.p K.u hk (fun z hz=>by omega);have D4:=U hi.c4;have D5:=U hi.c5;have D3:=U hi.no;go_upto_region 8 with fail;refine c6<|Rg.aG none rfl rfl (Rg.ak _ _ _ rfl _ rfl _ rfl (Rg.bz _ cX D4.u.c D4.u.f))<|Rg.aG none rfl rfl (Rg.ak _ _ _ rfl _ rfl _ rfl (dt 18 (D5.u.other (.slice none 0 0) (b':=w.heap.size+2) (o:=0) (by omega)).c (D5.u.other (.slice none 0 0) (b':=w.heap.size+2) (o:=0) (by omega)).f)) ?_;go_frame;have y4:=(D4.u.set (.slice none 0 0)).other (.int .i64 18) (b':=w.heap.size+3) (o:=0) (by omega);have y5:=(D5.u.other (.slice none 0 0) (b':=w.heap.size+2) (o:=0) (by omega)).set (.int .i64 18);have jN:BE w ((W.setCell ⟨w.heap.size+2,0,none⟩ (.slice none 0 0)).setCell ⟨w.heap.size+3,0,none⟩ (.int .i64 18)):=(Pw.setCell (p:=⟨w.heap.size+2,0,none⟩) (show w.heap.size<=w.heap.size+2 by omega) _).setCell (p:=⟨w.heap.size+3,0,none⟩) (show w.heap.size<=w.heap.size+3 by omega) _;have Ko:=(hD.setCell ⟨w.heap.size+2,0,none⟩ (.slice none 0 0)).setCell ⟨w.heap.size+3,0,none⟩ (.int .i64 18);generalize (W.setCell ⟨w.heap.size+2,0,none⟩ (.slice none 0 0)).setCell ⟨w.heap.size+3,0,none⟩ (.int .i64 18)=dB at *;go_wp2;exact RF.leaves w.heap.size [_] _ (by simp) (by intro D iR; simp at iR; subst iR; exact ⟨Ko,by omega⟩) (fun W' l1 l2 _=>⟨_,ji rfl _ rfl rfl (Rg.ae _ _ Tryz.underlying27 ((l2 _).trans y4.c)) (pG ((l2 _).trans y5.c)),jN.trans l1,.inr ⟨rfl,N,O,R,mR.u,.inl ⟨D3.u,rfl⟩⟩⟩)
end
section
open Go.Proofs.Ob
open Go.Proofs.Cm (Gd)
attribute [local irreducible] Go.Calls Go.wpList
structure IB (w:World) (v:Value) (l:List Int):Prop where
 i:Rg.eV maxLen w v l
theorem IB.p {w w':World} {v:Value} {l:List Int} (h:IB w v l) (hb:BE w w'):IB w' v l:=⟨Rg.eV.p h.i hb⟩
theorem pz.zero {w:World} {c:Int} (h:pz w d ll cv c) (hc:c≠0):cv=kH:=by
 rcases h with ⟨_,h⟩ | ⟨h,_⟩
 ·exact h
 ·exact absurd h hc
end
section
open Go.Proofs.Ob
open Go.Proofs.Cm (Gd Gr ar)
attribute [local irreducible] Go.Calls Go.wpList
theorem LB {d:Nat} (hg:∀ s∈gs,Gd d s) (h:ar d (Gr d (·∈gs)) O R) (hA:gV d gs A):eS (O.map Ma.ah)=A.length:=by
 rw [gV.len hg h hA,K_ (fun i hi=>h.len i hi) h.i_]
theorem gV.pos {d:Nat} (h:gV d gs A):0<A.length:=List.length_pos_of_mem ((h.2 _).2 .one)
theorem rZ.Dw (h1:1<=N) (h2:N<=64) (hg:∀ s∈gs,Gd N s) (hc:ar N (Gr N (·∈gs)) O R):bI ((N:Nat):Int) (O.map Ma.ah) (R.map (List.map Ma.ah))=0:=pH (Db h1 h2 hg hc)
theorem uh (h1:1<=N) (h2:N<=64) (hg:∀ s∈gs,Gd N s) (hc:ar N (Gr N (·∈gs)) O R) {y:List Nat} (gy:Gd N y):iA ((N:Nat):Int) (O.map Ma.ah) (R.map (List.map Ma.ah)) (Ma.ah y)=0 :=
 Di (rZ.Dw h1 h2 hg hc) (Ma.nZ (by rw [Ma.aB,gy.2]; exact h1) (by rw [Ma.aB,gy.2]; exact h2) (Ma.uw gy.1)) (by rw [Ma.aB,gy.2])
theorem vQ {d:Nat} (hg:∀ s∈gs,Gd d s) (hA:gV d gs A):ar d (Gr d (·∈gs)) (lV A d) (lW A d):=Ik hg hA
end
section
open Go.Proofs.Ob
open Go.Proofs.Cm (Gd Gr ar ap lexLt cz St)
attribute [local irreducible] Go.Calls Go.wpList
theorem r7 (h1:1<=N) (h2:N<=64) (hg:∀ s∈gs,Gd N s) (hc:ar N (Gr N (·∈gs)) O R) {y:List Nat} (gy:Gd N y) :
  sC (N:Int) (O.map Ma.ah) (R.map (List.map Ma.ah)) (Ma.ah y)=true↔Gr N (·∈gs) y:=by
 rw [ML (uh h1 h2 hg hc gy),decide_eq_true_iff,<- RN (Gr.dE hg) hc gy];omega
theorem abm (hg:∀ s∈gs,Gd N s) {g:List Nat} (gg:Gd N g) (hn:¬ Gr N (·∈gs) g) {B:List (List Nat)} (hA:gV N gs A) (hB:gV N (gs++[g]) B):2*A.length<=B.length:=by
 have hG:=Gr.dE hg
 have hG2:cz N (Gr N (·∈gs++[g])):=Gr.dE fun s hs=>(List.mem_append.1 hs).elim (hg s) fun h=>by rw [List.mem_singleton] at h; exact h▸gg
 have hm:∀ x,x∈A->Gr N (·∈gs++[g]) x:=fun x hx=>Gr.mono (fun s hs=>List.mem_append.2 (.inl hs)) ((hA.2 x).1 hx);have DP:Gr N (·∈gs++[g]) g:=Gr.gen g (by simp);have eH:∀ x,x∈A->Gd N x:=fun x hx=>hG.gd x ((hA.2 x).1 hx)
 have:=eZ (l:=A++A.map fun x=>Ma.aq g x) (m:=B) (by
  rw [List.nodup_append];refine ⟨ju hA.1,?_,?_⟩
  ·rw [List.nodup_iff_pairwise_ne,List.pairwise_map]
   refine List.Pairwise.imp_of_mem ?_ (List.nodup_iff_pairwise_ne.1 (ju hA.1));intro x y hx hy BJ e
   apply BJ
   have h1:Ma.aq (Ma.bf g) (Ma.aq g x)=Ma.aq (Ma.bf g) (Ma.aq g y):=by rw [show Ma.aq g x=Ma.aq g y from e]
   rw [<- Cm.mul_assoc (Cm.aX gg) gg,<- Cm.mul_assoc (Cm.aX gg) gg,Cm.inv_mul gg,Cm.one_mul (eH x hx),Cm.one_mul (eH y hy)] at h1;exact h1
  ·intro x hx y hy e
   subst e;obtain ⟨z,hz,e⟩:=List.mem_map.1 hy
   apply hn
   have h1:Ma.aq (Ma.aq g z) (Ma.bf z)=g:=by
    rw [Cm.mul_assoc gg (eH z hz),Cm.uJ (eH z hz),Cm.mul_one gg]
   rw [<- h1,e]
   exact hG.mul _ _ ((hA.2 _).1 hx) (hG.inv _ ((hA.2 z).1 hz))) (fun x hx=>by
  rcases List.mem_append.1 hx with hx | hx
  ·exact (hB.2 x).2 (hm x hx)
  ·obtain ⟨z,hz,rfl⟩:=List.mem_map.1 hx
   exact (hB.2 _).2 (hG2.mul _ _ DP (hm z hz)))
 rw [List.length_append,List.length_map] at this;omega
structure vR (N:Nat) (LL:List (List Nat)) (Pb:List Nat->Bool) (t:Nat) (gs:List (List Nat)):Prop where
 gd:∀ s∈gs,Gd N s
 VR:∀ s∈gs,s∈LL/\Pb s=true
 ZF:∀ i,i<t->i<LL.length->Pb (LL.getD i [])=true->Gr N (·∈gs) (LL.getD i [])
 two:∃ A,gV N gs A/\2 ^ gs.length<=A.length
section
variable {N:Nat} {LL:List (List Nat)} {Pb:List Nat->Bool} {t:Nat} {gs:List (List Nat)}
theorem vR.nil (hc:ar N (Gr N (·∈([]:List (List Nat)))) O R):vR N LL Pb 0 []:=by
 have hg:∀ s∈([]:List (List Nat)),Gd N s:=fun s hs=>by simp at hs
 refine ⟨hg,fun s hs=>by simp at hs,fun i hi=>by omega,_,fS hg hc,?_⟩;have:=List.length_pos_of_mem (((fS hg hc).2 _).2 Gr.one);exact this
theorem vR.skip (h:vR N LL Pb t gs) (hq:t<LL.length->Pb (LL.getD t [])=true->Gr N (·∈gs) (LL.getD t [])):vR N LL Pb (t+1) gs :=
 ⟨h.gd,h.VR,fun i hi hl hp=>by
  by_cases e:i=t
  ·subst e; exact hq hl hp
  ·exact h.ZF i (by omega) hl hp,h.two⟩
theorem vR.push (h:vR N LL Pb t gs) (ht:t<LL.length) {q:List Nat} (hq:LL.getD t []=q) (gq:Gd N q) (hp:Pb q=true) (hn:¬ Gr N (·∈gs) q) (hc:ar N (Gr N (·∈gs++[q])) O R):vR N LL Pb (t+1) (gs++[q]):=by
 have hg:∀ s∈gs++[q],Gd N s:=fun s hs=>(List.mem_append.1 hs).elim (h.gd s) fun e=>by rw [List.mem_singleton] at e; exact e▸gq
 refine ⟨hg,fun s hs=>?_,fun i hi hl nD=>?_,_,fS hg hc,?_⟩
 ·rcases List.mem_append.1 hs with hs | hs
  ·exact h.VR s hs
  ·rw [List.mem_singleton] at hs
   subst hs;refine ⟨?_,hp⟩;rw [<- hq,List.getD_eq_getElem?_getD,List.getElem?_eq_getElem ht];exact List.getElem_mem ht
 ·by_cases e:i=t
  ·subst e; rw [hq]; exact Gr.gen q (by simp)
  ·exact Gr.mono (fun s hs=>List.mem_append.2 (.inl hs)) (h.ZF i (by omega) hl nD)
 ·obtain ⟨A,hA,h2⟩:=h.two
  have:=abm h.gd gq hn hA (fS hg hc);rw [List.length_append,List.length_singleton,Nat.pow_succ];omega
theorem vR.le {G0:List (List Nat)} (h0:∀ s∈G0,Gd N s) (h:vR N LL Pb t gs) (hL:gV N G0 LL) (hl:LL.length<=5040):gs.length<=12:=by
 obtain ⟨A,hA,h2⟩:=h.two;have h3:=eZ (m:=LL) (ju hA.1) fun x hx=>(hL.2 x).2 (Gr.sub (Gr.dE h0) (fun s hs=>(hL.2 s).1 (h.VR s hs).1) ((hA.2 x).1 hx));refine Nat.not_lt.1 fun hc=>?_;have h4:2 ^ 13<=2 ^ gs.length:=Nat.pow_le_pow_right (by decide) hc;omega
theorem vR.done (h:vR N LL Pb LL.length gs) {x:List Nat} (hx:x∈LL) (hp:Pb x=true):Gr N (·∈gs) x:=by
 obtain ⟨i,hi,rfl⟩:=List.getElem_of_mem hx;have:=h.ZF i hi hi;rw [List.getD_eq_getElem?_getD,List.getElem?_eq_getElem hi] at this;exact this hp
end
theorem Dx {w:World} (h:Rg.aL F w v ll):Rg.aL (fun z=>F z/\z<w.heap.size) w v ll:=by
 obtain ⟨us,⟨a,cap,h1,h2,h3,h4,h5⟩,h6,h7⟩:=h;refine ⟨us,⟨a,cap,h1,h2,h3,h4,fun h0=>?_⟩,h6,fun i p q=>xn (h7 i p q)⟩;obtain ⟨b,o,e1,e2,e3,e4⟩:=h5 h0;exact ⟨b,o,e1,e2,⟨e3,e2⟩,e4⟩
theorem LC {w:World} {ll:List (List (List Int))} (h:aV F w v ll):aV (fun z=>F z/\z<w.heap.size) w v ll:=by
 obtain ⟨us,⟨a,cap,h1,h2,h3,h4,h5⟩,h6,h7⟩:=h;refine ⟨us,⟨a,cap,h1,h2,h3,h4,fun h0=>?_⟩,h6,fun i p q=>Dx (h7 i p q)⟩;obtain ⟨b,o,e1,e2,e3,e4⟩:=h5 h0;exact ⟨b,o,e1,e2,⟨e3,e2⟩,e4⟩
theorem vS (h1:1<=N) (h2:N<=64) (hl:gs.length<=4096) (hg:∀ s∈gs,Gd N s) (gv:Value) (w:World) (h:Rg.Rows w gv (gs.map Ma.ah)) :
  Calls Tryz.prog 42 #[.int .i64 ((N:Nat):Int),gv] w fun e w'=>∃ oa on oc ra rn rc O R,e=.returned (.tuple #[.agg #[.int .i64 ((N:Nat):Int),.slice oa on oc,.slice ra rn rc],.int .i64 0]) /\
   (Rg.aL (fun z=>w.heap.size<=z/\z<w'.heap.size) w' (.slice oa on oc) (O.map Ma.ah)/\aV (fun z=>w.heap.size<=z/\z<w'.heap.size) w' (.slice ra rn rc) (R.map (List.map Ma.ah))/\ar N (Gr N (·∈gs)) O R)/\BE w w':=by
 refine (OE gv _ _ w h).mono ?_;rw [x_ h1 h2 hl hg]
 rintro e w' ⟨cv,rfl,(⟨hx,_⟩ | ⟨_,n,gs',e1,e2,h3,h4,ov,rv,O,R,rfl,h5,h6,h7⟩),hb⟩
 ·exact absurd rfl hx
 ·have en:n=N:=by omega
  subst en;have eg:gs'=gs:=(dT e2).symm;subst eg;obtain ⟨oa,oc,rfl,-⟩:=(aL.rows h5).shape;obtain ⟨ra,rc,rfl⟩:=(aV.rows h6).shape;exact ⟨oa,_,oc,ra,_,rc,O,R,rfl,⟨Dx h5,LC h6,h7⟩,hb⟩
end
section
open Go.Proofs.Ob
open Go.Proofs.Cm (Gd Gr ar ap lexLt cz St)
attribute [local go_sem] Oper.semAt_some
attribute [local irreducible] Go.Calls Go.wpList Go.wpListIn
theorem E3 (args:Array Value) (w:World):(callFunc 42 args).run Tryz.prog w=.ok (.enter 42 args) w:=by kernel_rfl
def rC (b8 b9:Nat) (v:Value) (z:Nat):Prop:=z=b8∨z=b9∨v.ownBlock=some z
structure ld (N b8 b9:Nat) (gs:List (List Nat)) (v u8 ov rv:Value) (W:World):Prop where
 row:bW b9 (fun z=>z<W.heap.size/\¬ rC b8 b9 v z) (fun z=>z=b8∨z=b9) W v gs
 c8:CW W b8 u8
 c9:cj W b9 (.int .i64 ((N:Nat):Int)) ov rv
 ne:b8<b9
structure xx (N b8 b9:Nat) (gs:List (List Nat)) (v ov rv:Value) (O:List (List Nat)) (R:List (List (List Nat))) (W:World):Prop where
 o:Rg.aL (fun z=>b8<=z/\z<W.heap.size/\¬ rC b8 b9 v z) W ov (O.map Ma.ah)
 r:aV (fun z=>b8<=z/\z<W.heap.size/\¬ rC b8 b9 v z) W rv (R.map (List.map Ma.ah))
 ch:ar N (Gr N (·∈gs)) O R
theorem bW.AP {l:List (List Nat)} (h:bW B F M W v l) (hF:∀ k,F k->F' k) (ho:∀ k,v.ownBlock=some k->¬ F' k):bW B F' M W v l:=by
 obtain ⟨us,h1,h2⟩:=h.own;exact ⟨h.size,⟨us,h1,h2.mono hF⟩,fun k e=>⟨ho k e,(h.off k e).2⟩⟩
theorem bW.same {B:Nat} {F M:Nat->Prop} {W W':World} {v:Value} {l:List (List Nat)} (h:bW B F M W v l) (hs:RF.ka W W'):bW B F M W' v l:=by
 obtain ⟨us,⟨h0,h1⟩,h2,h3⟩:=h.own;refine ⟨Nat.le_trans h.size hs.size,⟨us,⟨h0,?_⟩,h2,fun i a b=>FI.same (h3 i a b) hs⟩,h.off⟩
 rcases h1 with h1 | ⟨g,cap,cur,e1,e2,e3,e4⟩
 ·exact .inl h1
 ·exact .inr ⟨g,cap,cur,e1,e2,hs.blk _ _ _ _ e3,e4⟩
theorem vT (h:Rg.aL F W v ll) (hc:∀ a,W'.cell? a=W.cell? a) (hs:W.heap.size<=W'.heap.size):Rg.aL F W' v ll:=by
 obtain ⟨us,h1,h2,h3⟩:=h;exact ⟨us,ft hc hs h1,h2,fun i a b=>ft hc hs (h3 i a b)⟩
theorem B_ {ll:List (List (List Int))} (h:aV F W v ll) (hc:∀ a,W'.cell? a=W.cell? a) (hs:W.heap.size<=W'.heap.size):aV F W' v ll:=by
 obtain ⟨us,h1,h2,h3⟩:=h;exact ⟨us,ft hc hs h1,h2,fun i a b=>vT (h3 i a b) hc hs⟩
theorem mH {b8 b9 z:Nat} (h:rC b8 b9 (.slice none 0 0) z):z=b8∨z=b9:=by
 rcases h with h | h | h
 ·exact .inl h
 ·exact .inr h
 ·simp [Value.ownBlock] at h
theorem eD (W:World) (b:Nat) (x y z:Value):Rg.Kp (fun k=>k=b) W (((W.setCell ⟨b,0,none⟩ x).setCell ⟨b,1,none⟩ y).setCell ⟨b,2,none⟩ z):=by
 have k1:Rg.Kp (fun k=>k=b) W (W.setCell ⟨b,0,none⟩ x):=Rg.Kp.aR rfl;have k2:Rg.Kp (fun k=>k=b) (W.setCell ⟨b,0,none⟩ x) ((W.setCell ⟨b,0,none⟩ x).setCell ⟨b,1,none⟩ y):=Rg.Kp.aR rfl;have k3:Rg.Kp (fun k=>k=b) ((W.setCell ⟨b,0,none⟩ x).setCell ⟨b,1,none⟩ y) (((W.setCell ⟨b,0,none⟩ x).setCell ⟨b,1,none⟩ y).setCell ⟨b,2,none⟩ z):=Rg.Kp.aR rfl;exact (k1.trans k2 (fun _ _ h=>h)).trans k3 (fun _ _ h=>h)
structure Px (w0 W:World):Prop where
 h:BE w0 W
theorem Px.p (h:Px w0 W) (hb:BE W W'):Px w0 W':=⟨Rg.acc h.h hb⟩
theorem nt (h:Rg.aL F W v ll) (hs:RF.ka W W'):Rg.aL F W' v ll:=by
 obtain ⟨us,h1,h2,h3⟩:=h;exact ⟨us,ft hs.cell hs.size h1,h2,fun i a b=>FI.same (h3 i a b) hs⟩
theorem vU {ll:List (List (List Int))} (h:aV F W v ll) (hs:RF.ka W W'):aV F W' v ll:=by
 obtain ⟨us,h1,h2,h3⟩:=h;exact ⟨us,ft hs.cell hs.size h1,h2,fun i a b=>nt (h3 i a b) hs⟩
theorem cj.same {b:Nat} {x y:Value} (h:cj W b x y z) (hs:RF.ka W W'):cj W' b x y z :=
 ⟨(hs.cell _).trans h.c0,(hs.cell _).trans h.c1,(hs.cell _).trans h.c2,(hs.frozen _).trans h.f0,(hs.frozen _).trans h.f1,(hs.frozen _).trans h.f2,Nat.lt_of_lt_of_le h.lt hs.size⟩
section
variable {N b8 b9:Nat} {gs:List (List Nat)} {v u8 ov rv:Value} {O:List (List Nat)} {R:List (List (List Nat))} {W W':World}
theorem ld.kp (h:ld N b8 b9 gs v u8 ov rv W) {C:Nat->Prop} (hk:Rg.Kp C W W') (hC:∀ z,z<W.heap.size->¬ C z):ld N b8 b9 gs v u8 ov rv W' :=
 ⟨(h.row.kp hk (fun z hz=>hC z hz.1) (fun z hz=>hC z (h.row.lt z hz).2)).AP (fun z hz=>⟨Nat.lt_of_lt_of_le hz.1 hk.size,hz.2⟩) (fun z e hz=>hz.2 (.inr (.inr e))),h.c8.kp hk (hC _ h.c8.lt),h.c9.kp hk (hC _ h.c9.lt),h.ne⟩
theorem ld.p (h:ld N b8 b9 gs v u8 ov rv W) (hb:BE W W'):ld N b8 b9 gs v u8 ov rv W':=h.kp (C:=fun _=>False) (Rg.Kp.aD hb) (fun _ _=>id)
theorem ld.same (h:ld N b8 b9 gs v u8 ov rv W) (hs:RF.ka W W'):ld N b8 b9 gs v u8 ov rv W' :=
 ⟨(h.row.same hs).AP (fun z hz=>⟨Nat.lt_of_lt_of_le hz.1 hs.size,hz.2⟩) (fun z e hz=>hz.2 (.inr (.inr e))),h.c8.same hs,h.c9.same hs,h.ne⟩
theorem xx.p (h:xx N b8 b9 gs v ov rv O R W) (hb:BE W W'):xx N b8 b9 gs v ov rv O R W' :=
 ⟨(h.o.kp (M:=fun _=>False) (Rg.Kp.aD hb) (fun _ _=>id)).mono (fun z hz=>⟨hz.1,Nat.lt_of_lt_of_le hz.2.1 hb.size,hz.2.2⟩),aV.mono (h.r.kp (M:=fun _=>False) (Rg.Kp.aD hb) (fun _ _=>id)) (fun z hz=>⟨hz.1,Nat.lt_of_lt_of_le hz.2.1 hb.size,hz.2.2⟩),h.ch⟩
theorem xx.same (h:xx N b8 b9 gs v ov rv O R W) (hs:RF.ka W W'):xx N b8 b9 gs v ov rv O R W' :=
 ⟨(nt h.o hs).mono (fun z hz=>⟨hz.1,Nat.lt_of_lt_of_le hz.2.1 hs.size,hz.2.2⟩),aV.mono (vU h.r hs) (fun z hz=>⟨hz.1,Nat.lt_of_lt_of_le hz.2.1 hs.size,hz.2.2⟩),h.ch⟩
theorem ld.sl (h:ld N b8 b9 gs v u8 ov rv W):∃ a c,v=.slice a gs.length c:=h.row.shape
theorem xx.ce (h:xx N b8 b9 gs v ov rv O R W):bl W ov rv (O.map Ma.ah) (R.map (List.map Ma.ah)):=⟨aL.rows h.o,aV.rows h.r⟩
theorem ld.push (h:ld N b8 b9 gs v u8 ov rv W) {u:Value} {q:List Nat} (hu:Rg.FI (fun z=>¬ rC b8 b9 v z) W u (Ma.ah q)) (hs:∃ a m c,u=.slice a m c) (hn:gs.length<1000000) (ty:TypeId) :
  ∃ a c X,(Builtin.append_ #[41,41] ty #[v,.slice (some ⟨W.heap.size,0,none⟩) 1 1]).run Tryz.prog (W.alloc (.cells #[u] 27))=.ok (.slice a (gs.length+1) c) X/\ld N b8 b9 (gs++[q]) (.slice a (gs.length+1) c) u8 ov rv X/\Rg.Kp (rC b8 b9 v) W X/\(∀ z,rC b8 b9 (.slice a (gs.length+1) c) z->rC b8 b9 v z∨W.heap.size<=z):=by
 obtain ⟨a,c,X,r1,r2,r3⟩:=h.row.push (u:=u) (x:=q) ((xn hu).mono fun z hz=>⟨hz.2,hz.1⟩) hs (fun z hz=>hz.1) (fun z hz=>by rcases hz with rfl | rfl <;> first | exact h.c8.lt | exact h.c9.lt) hn ty
 have hv8:¬ v.ownBlock=some b8:=fun e=>(h.row.off _ e).2 (.inl rfl);have hv9:¬ v.ownBlock=some b9:=fun e=>(h.row.off _ e).2 (.inr rfl);have VS:=r2.off;refine ⟨a,c,X,r1,⟨r2.AP (fun z hz=>⟨Nat.lt_of_lt_of_le hz.1 r3.size,fun hc=>?_⟩) (fun z e hz=>hz.2 (.inr (.inr e))),h.c8.kp r3 hv8,h.c9.kp r3 hv9,h.ne⟩,r3.gS fun z e=>.inr (.inr e),fun z hz=>?_⟩
 ·rcases hc with hc | hc | hc
  ·exact hz.2 (.inl hc)
  ·exact hz.2 (.inr (.inl hc))
  ·exact (VS z hc).1 hz
 ·rcases hz with hz | hz | hz
  ·exact .inl (.inl hz)
  ·exact .inl (.inr (.inl hz))
  ·by_cases e:v.ownBlock=some z
   ·exact .inl (.inr (.inr e))
   ·refine .inr (Nat.not_lt.1 fun az=>(VS z hz).1 ⟨az,?_⟩)
    rintro (g | g | g)
    ·exact (VS z hz).2 (.inl g)
    ·exact (VS z hz).2 (.inr g)
    ·exact e g
theorem ld.abn (h:ld N b8 b9 gs v u8 ov rv W) (u:Value):ld N b8 b9 gs v u ov rv (W.setCell ⟨b8,0,none⟩ u) :=
 have hk:Rg.Kp (fun z=>z=b8) W (W.setCell ⟨b8,0,none⟩ u):=Rg.Kp.aR rfl;have hne:=h.ne
 ⟨(h.row.kp hk (fun z hz e=>hz.2 (.inl e)) (fun z e e2=>(h.row.off z e).2 (.inl e2))).AP (fun z hz=>⟨Nat.lt_of_lt_of_le hz.1 hk.size,hz.2⟩) (fun z e hz=>hz.2 (.inr (.inr e))),h.c8.set u,h.c9.kp hk (by omega),hne⟩
theorem ld.abo (h:ld N b8 b9 gs v u8 ov rv W) (y z:Value):ld N b8 b9 gs v u8 y z (((W.setCell ⟨b9,0,none⟩ (.int .i64 ((N:Nat):Int))).setCell ⟨b9,1,none⟩ y).setCell ⟨b9,2,none⟩ z)/\Rg.Kp (fun z=>z=b9) W (((W.setCell ⟨b9,0,none⟩ (.int .i64 ((N:Nat):Int))).setCell ⟨b9,1,none⟩ y).setCell ⟨b9,2,none⟩ z) :=
 have hk:=eD W b9 (.int .i64 (N:Int)) y z;have hne:=h.ne
 ⟨⟨(h.row.kp hk (fun z hz e=>hz.2 (.inr (.inl e))) (fun z e e2=>(h.row.off z e).2 (.inr e2))).AP (fun z hz=>⟨Nat.lt_of_lt_of_le hz.1 hk.size,hz.2⟩) (fun z e hz=>hz.2 (.inr (.inr e))),h.c8.kp hk (by omega),h.c9.set _ _ _,hne⟩,hk⟩
theorem xx.mk9 (hM:∀ z,rC b8 b9 v z->z<B) (h8:b8<=B) {W1:World} (ho:Rg.aL (fun z=>B<=z/\z<W.heap.size) W ov (O.map Ma.ah)) (hr:aV (fun z=>B<=z/\z<W.heap.size) W rv (R.map (List.map Ma.ah))) (hc:ar N (Gr N (·∈gs)) O R) (hk:Rg.Kp (fun z=>z=b9) W W1):xx N b8 b9 gs v ov rv O R W1 :=
 have h9:=hM b9 (.inr (.inl rfl))
 ⟨(ho.kp hk (fun z hz e=>by omega)).mono fun z hz=>⟨by omega,Nat.lt_of_lt_of_le hz.2 hk.size,fun hC=>by have:=hM z hC; omega⟩,aV.mono (hr.kp hk (fun z hz e=>by omega)) fun z hz=>⟨by omega,Nat.lt_of_lt_of_le hz.2 hk.size,fun hC=>by have:=hM z hC; omega⟩,hc⟩
theorem ld.lt (h:ld N b8 b9 gs v u8 ov rv W):∀ z,rC b8 b9 v z->z<W.heap.size:=fun z hz=>by
 rcases hz with rfl | rfl | e
 ·exact h.c8.lt
 ·exact h.c9.lt
 ·exact (h.row.lt z e).2
theorem ld.ge (h:ld N b8 b9 gs v u8 ov rv W) (h8:B<=b8):∀ z,rC b8 b9 v z->B<=z:=fun z hz=>by
 have:=h.ne
 rcases hz with rfl | rfl | e
 ·omega
 ·omega
 ·have:=(h.row.lt z e).1; omega
end
theorem MT {b:Nat} {x y:Value} (h:cj W b x y z) (hc:∀ a,W'.cell? a=W.cell? a) (hf:∀ a,W'.frozen? a=W.frozen? a) (hs:W.heap.size<=W'.heap.size):cj W' b x y z :=
 ⟨(hc _).trans h.c0,(hc _).trans h.c1,(hc _).trans h.c2,(hf _).trans h.f0,(hf _).trans h.f1,(hf _).trans h.f2,Nat.lt_of_lt_of_le h.lt hs⟩
theorem Th {c:dA} (h:mG c N O R) (h0:sH c=0):(dR N O R).length<=5040:=by
 obtain ⟨e1,_,_,e2,_⟩:=h;unfold sH at h0;rw [e1,e2,mC,Int.toNat_natCast] at h0;unfold dR;rw [List.length_map,List.length_range]
 by_cases h:cd O N N<=5040
 ·exact h
 ·rw [if_neg h] at h0; exact absurd h0 (by decide)
structure QtI (N:Nat) (LL:List (List Nat)) (Pb:List Nat->Bool) (Fk:Nat->Prop) (A:World->Prop) (Bt B4 b7 b8 b9 B0:Nat) (tv:Value) (t:Nat) (C:Nat->Prop) (W:World):Prop where
 a:mF N tv Pb Fk A W
 ct:CL W Bt 0 tv
 c7:CL W b7 0 (.int .i64 ((N:Nat):Int))
 c4:cj W B4 (.int .i64 0) (.slice none 0 0) (.slice none 0 0)
 VT:∀ z,C z->z<B0∨B0+2<=z
 x:∃ (v:Value) (gs:List (List Nat)) (oa:Option Addr) (on oc:Nat) (ra:Option Addr) (rn rc:Nat) (O:List (List Nat)) (R:List (List (List Nat))),C=rC b8 b9 v/\vR N LL Pb t gs/\ld N b8 b9 gs v v (.slice oa on oc) (.slice ra rn rc) W/\xx N b8 b9 gs v (.slice oa on oc) (.slice ra rn rc) O R W
def abp (N:Nat) (LL:List (List Nat)) (Pb:List Nat->Bool) (w:World) (e:Ending) (w':World):Prop :=
 ∃ (gs:List (List Nat)) (oa:Option Addr) (on oc:Nat) (ra:Option Addr) (rn rc:Nat) (O:List (List Nat)) (R:List (List (List Nat))),e=.returned (.tuple #[.agg #[.int .i64 ((N:Nat):Int),.slice oa on oc,.slice ra rn rc],.int .i64 0])/\Rg.aL (fun z=>w.heap.size<=z) w' (.slice oa on oc) (O.map Ma.ah)/\aV (fun z=>w.heap.size<=z) w' (.slice ra rn rc) (R.map (List.map Ma.ah))/\ar N (Gr N (·∈gs)) O R/\(∀ s∈gs,s∈LL/\Pb s=true)/\∀ x,x∈LL->Pb x=true->Gr N (·∈gs) x
def gM (ck:Int) (c0:dA) (Pb:List Nat->Bool) (w:World) (e:Ending) (w':World):Prop:=BE w w' /\
 ((ck≠0/\e=.returned (.tuple #[.agg #[.int .i64 0,.slice none 0 0,.slice none 0 0],.int .i64 ck]))∨(ck=0/\∃ N O R,mG c0 N O R/\abp N (dR N O R) Pb w e w'))
theorem lf {b cc:Nat} {CS:List dA} {AK I_ Ja:Value} {SS TS:List (List Int)} {w:World} (hC:mU b CS w) (h1:1<=CS.length) (mh:CS.length<=100) (hP:Rg.Rows w AK PS) (qt:PS.length<=100) (hS:Rg.Rows w I_ SS) (kG:SS.length<=100) (iU:∀ s∈SS,s.length<=100) (hT:Rg.Rows w Ja TS) (D9:TS.length<=100) (sI:∀ s∈TS,s.length<=100) (hn:(CS[0]'(by omega)).1<=12)
  {ty:TypeId} {vv:Value} {Pb:List Nat->Bool} {A:World->Prop} (EW:eJ (CS[0]'(by omega)).1 CS PS SS TS (CS[0]'(by omega))=0->mF (CS[0]'(by omega)).1.toNat (.iface ty vv) Pb Fk A w/\∀ z,Fk z->z<w.heap.size) :
  Calls Tryz.prog 52 #[.agg #[.slice (some ⟨b,0,none⟩) CS.length cc,AK,I_,Ja],.iface ty vv] w (gM (eJ (CS[0]'(by omega)).1 CS PS SS TS (CS[0]'(by omega))) (CS[0]'(by omega)) Pb w):=by
 obtain ⟨pa,pc,rfl,-⟩:=hP.shape;obtain ⟨sa,sc,rfl,-⟩:=hS.shape;obtain ⟨ta,tc,rfl,-⟩:=hT.shape;obtain ⟨ck,dI⟩:∃ z,Hid (eJ (CS[0]'(by omega)).1 CS PS SS TS (CS[0]'(by omega))=z):=⟨_,U rfl⟩;rw [dI.u] at EW ⊢;obtain ⟨c0,cI⟩:∃ c,Hid (CS[0]'(by omega)=c):=⟨_,U rfl⟩;rw [cI.u] at EW ⊢;have Tb:=U EW;have HN:=U hn;have HC:=U hC;have EY:=U hC;have RP:=U (gJ.mk hP);have cB:=U (gJ.mk hS);have RT:=U (gJ.mk hT);have xu:=U iU;have lG:=U sI;have K:=U (bi w);have Gp:w.heap.size=w.heap.size+0:=rfl;clear hC hP hS hT iU sI hn EW;refine RF.iK Tryz.func52 rfl ?_;simp only [Tryz.ntmps52,List.size_toArray,List.length_cons,List.length_nil,Nat.reduceAdd,Nat.reduceSub,Array.replicate_succ,Array.replicate_zero,List.push_toArray,List.append_toArray,List.nil_append,List.cons_append];go_upto_region 0 with fail;refine c6 ?_;have aN:=ET w (.slice (some ⟨b,0,none⟩) CS.length cc) (.slice pa PS.length pc) (.slice sa SS.length sc) (.slice ta TS.length tc) 73
 have hs:(w.alloc (.cells #[.slice (some ⟨b,0,none⟩) CS.length cc,.slice pa PS.length pc,.slice sa SS.length sc,.slice ta TS.length tc] 73)).heap.size=w.heap.size+1:=by simp
 refine k8 (Rg.aY _ _ rfl rfl) ?_;go_frame;have hb:=be w (.cells #[.slice (some ⟨b,0,none⟩) CS.length cc,.slice pa PS.length pc,.slice sa SS.length sc,.slice ta TS.length tc] 73);generalize w.alloc (.cells #[.slice (some ⟨b,0,none⟩) CS.length cc,.slice pa PS.length pc,.slice sa SS.length sc,.slice ta TS.length tc] 73)=w1 at *;replace HC:=U (HC.u.p hb);replace RP:=U (RP.u.p hb);replace cB:=U (cB.u.p hb);replace RT:=U (RT.u.p hb);replace K:=U (Rg.acc K.u hb);clear hb;have B0:=U aN.1;have B1:=U aN.2.1;have B2:=U aN.2.2.1;have B3:=U aN.2.2.2
 have nB:w1.heap.size=w.heap.size+1:=by omega
 clear aN hs;have cO:=CW.new w1 (.iface ty vv) 110
 have hs:(w1.alloc (.cells #[.iface ty vv] 110)).heap.size=w1.heap.size+1:=by simp
 refine k8 (jt (v:=.iface ty vv) _ _ rfl rfl rfl) ?_;go_frame;have hb:=be w1 (.cells #[.iface ty vv] 110);generalize w1.alloc (.cells #[.iface ty vv] 110)=w2 at *;replace HC:=U (HC.u.p hb);replace RP:=U (RP.u.p hb);replace cB:=U (cB.u.p hb);replace RT:=U (RT.u.p hb);replace B0:=U (B0.u.p hb);replace B1:=U (B1.u.p hb);replace B2:=U (B2.u.p hb);replace B3:=U (B3.u.p hb);replace K:=U (Rg.acc K.u hb);clear hb;have BT:=U cO;rw [nB] at BT ⊢
 have jC:w2.heap.size=w.heap.size+2:=by omega
 clear cO hs;have cO:=cj.new w2 (.int .i64 0) (.slice none 0 0) (.slice none 0 0)
 have hs:(w2.alloc (.cells #[.int .i64 0,.slice none 0 0,.slice none 0 0] 25)).heap.size=w2.heap.size+1:=by simp
 refine k8 (bj rfl) ?_;go_frame;have hb:=be w2 (.cells #[.int .i64 0,.slice none 0 0,.slice none 0 0] 25);generalize w2.alloc (.cells #[.int .i64 0,.slice none 0 0,.slice none 0 0] 25)=w3 at *;replace HC:=U (HC.u.p hb);replace RP:=U (RP.u.p hb);replace cB:=U (cB.u.p hb);replace RT:=U (RT.u.p hb);replace B0:=U (B0.u.p hb);replace B1:=U (B1.u.p hb);replace B2:=U (B2.u.p hb);replace B3:=U (B3.u.p hb);replace BT:=U (BT.u.p hb);replace K:=U (Rg.acc K.u hb);clear hb;have C4:=U cO;rw [jC] at C4 ⊢
 have Eu:w3.heap.size=w.heap.size+3:=by omega
 clear cO hs;refine j7 rfl ?_;go_frame;go_upto_region 1 with fail;refine c6<|k8 (g7 ((.agg #[.slice (some ⟨b,0,none⟩) CS.length cc,.slice pa PS.length pc,.slice sa SS.length sc,.slice ta TS.length tc])) ⟨w.heap.size,0,none⟩ (yg B0.u.cell B1.u.cell B2.u.cell B3.u.cell)) ?_;go_frame;refine f4 15 (aA 78 _ _ rfl rfl (S8 _ _)) ?_;refine (vP (cc:=cc) HC.u h1 mh RP.u.r qt cB.u.r kG xu.u RT.u.r D9 lG.u HN.u).mono ?_;rintro e1 w4 ⟨rfl,hb⟩;rw [dI.u];refine ⟨_,rfl,?_⟩;go_frame;replace HC:=U (HC.u.p hb);replace RP:=U (RP.u.p hb);replace cB:=U (cB.u.p hb);replace RT:=U (RT.u.p hb);replace B0:=U (B0.u.p hb);replace B1:=U (B1.u.p hb);replace B2:=U (B2.u.p hb);replace B3:=U (B3.u.p hb);replace BT:=U (BT.u.p hb);replace C4:=U (C4.u.p hb);replace K:=U (Rg.acc K.u hb);clear hb;refine j7 rfl ?_;go_frame;have kI:=U (show w.heap.size+3<=w4.heap.size by have:=C4.u.lt; omega);clear Gp nB jC Eu
 by_cases hz:ck=0
 case neg =>
  skip;go_upto_region 2 with fail;refine c6<|j7 rfl<|k8 (g8 (.bool true) .neq (h:=aE _ (decide_eq_true hz))) ?_;go_frame;go_upto_region 3 with fail;refine c6<|k8 (bF rfl)<|j7 rfl<|Rg.aG none rfl rfl (Rg.ak _ _ _ rfl _ rfl _ rfl (aJ _ _ _ _ _ _ _ C4.u)) ?_;go_frame;have y4:=C4.u.set (.int .i64 0) (.slice none 0 0) (.slice none 0 0);have hk:BE w (((w4.setCell ⟨w.heap.size+2,0,none⟩ (.int .i64 0)).setCell ⟨w.heap.size+2,1,none⟩ (.slice none 0 0)).setCell ⟨w.heap.size+2,2,none⟩ (.slice none 0 0)):=((K.u.setCell (p:=⟨w.heap.size+2,0,none⟩) (show w.heap.size<=w.heap.size+2 by omega) _).setCell (p:=⟨w.heap.size+2,1,none⟩) (show w.heap.size<=w.heap.size+2 by omega) _).setCell (p:=⟨w.heap.size+2,2,none⟩) (show w.heap.size<=w.heap.size+2 by omega) _;generalize ((w4.setCell ⟨w.heap.size+2,0,none⟩ (.int .i64 0)).setCell ⟨w.heap.size+2,1,none⟩ (.slice none 0 0)).setCell ⟨w.heap.size+2,2,none⟩ (.slice none 0 0)=w5 at *;refine j7 rfl ?_;go_frame;go_wp2;exact RF.leaves w.heap.size [] _ (by simp) (by simp) (fun W' l1 l2 l3=>⟨_,aO rfl _ rfl rfl (MT y4 l2 l3 l1.size),hk.trans l1,.inl ⟨hz,rfl⟩⟩)
 case pos =>
  subst hz;go_upto_region 2 with fail;refine c6<|j7 rfl<|k8 (g8 (.bool false) .neq (h:=aE _ f8)) ?_;go_frame;obtain ⟨bJ,dZ,ZB,ZC,ZD,VQ⟩:=e_ dI.u;obtain ⟨N,O,R,en,aU,aZ,eo,er,bT,hH⟩:=eU (kc bJ _ (List.getElem_mem (show 0<CS.length by omega)));obtain ⟨DU,az⟩:=Tb.u rfl;have ZE:=U az;have mR:=U (show mG c0 N O R from by rw [<- cI.u]; exact ⟨en,aU,aZ,eo,er,bT,hH⟩)
  have Tc:(CS[0]'(by omega)).1.toNat=N:=by rw [en]; simp
  have TH:=U (show mF N (.iface ty vv) Pb Fk A w from by rw [<- Tc,cI.u]; exact DU);replace TH:=U (TH.u.p K.u);have dc:=U bT;have lX:=U hH;have tK:=U (Th mR.u (by rw [<- cI.u]; exact VQ));obtain ⟨oa,on,oc,ra,rn,rc,q0,q1,q2,q3⟩:=EY.u.at_ 0 (by omega);rw [en] at q0;rw [eo,er] at q3;have sG:=jA ((K.u.cell (p:=⟨b,0*3,none⟩) EY.u.lt).trans q0) ((K.u.cell (p:=⟨b,0*3+1,none⟩) EY.u.lt).trans q1) ((K.u.cell (p:=⟨b,0*3+2,none⟩) EY.u.lt).trans q2);have Td:=U q3;clear q0 q1 q2 q3 bJ dZ ZB ZC ZD VQ az DU Tc en eo er bT hH Tb;go_upto_region 4 with fail;refine c6<|k8 (j4 (yf _ _))<|k8 (g7 (.slice (some ⟨b,0,none⟩) CS.length cc) ⟨w.heap.size,0,none⟩ (Rg.ae _ _ Tryz.underlying71 B0.u.cell))<|k8 (bn _ _ rfl Tryz.underlying71 fU b (CS.length) (cc) (0) rfl rfl (by omega))<|k8 (Rg.eK (v:=(.agg #[.int .i64 (N:Int),.slice oa on oc,.slice ra rn rc])) _ _ rfl ⟨b,0*3,none⟩ rfl sG) ?_;go_frame;refine k8 (bj rfl)<|Rg.aG none rfl rfl (Rg.ak _ _ _ rfl _ rfl _ rfl (aJ _ _ _ _ _ _ _ (cj.new w4 (.int .i64 0) (.slice none 0 0) (.slice none 0 0)))) ?_;go_frame;have jf:=(cj.new w4 (.int .i64 0) (.slice none 0 0) (.slice none 0 0)).set (.int .i64 (N:Int)) (.slice oa on oc) (.slice ra rn rc);have hb:=(((be w4 (.cells #[.int .i64 0,.slice none 0 0,.slice none 0 0] 25)).setCell (p:=⟨w4.heap.size,0,none⟩) (Nat.le_refl _) (.int .i64 (N:Int))).setCell (p:=⟨w4.heap.size,1,none⟩) (Nat.le_refl _) (.slice oa on oc)).setCell (p:=⟨w4.heap.size,2,none⟩) (Nat.le_refl _) (.slice ra rn rc);generalize (((w4.alloc (.cells #[.int .i64 0,.slice none 0 0,.slice none 0 0] 25)).setCell ⟨w4.heap.size,0,none⟩ (.int .i64 (N:Int))).setCell ⟨w4.heap.size,1,none⟩ (.slice oa on oc)).setCell ⟨w4.heap.size,2,none⟩ (.slice ra rn rc)=iL at *;replace HC:=U (HC.u.p hb);replace RP:=U (RP.u.p hb);replace cB:=U (cB.u.p hb);replace RT:=U (RT.u.p hb)
  replace B0:=U (B0.u.p hb);replace B1:=U (B1.u.p hb);replace B2:=U (B2.u.p hb);replace B3:=U (B3.u.p hb);replace BT:=U (BT.u.p hb);replace C4:=U (C4.u.p hb);replace TH:=U (TH.u.p hb);replace K:=U (Rg.acc K.u hb);clear hb;have T7:=U jf;clear jf;clear sG;have h7:w.heap.size+3<=w4.heap.size:=kI.u;have h78:w4.heap.size<iL.heap.size:=T7.u.lt;go_upto_region 5 with fail;refine c6 ?_;have cO:=CW.new iL (.slice none 0 0) 41;refine k8 (nQ rfl) ?_;go_frame;have hb:=be iL (.cells #[.slice none 0 0] 41);generalize iL.alloc (.cells #[.slice none 0 0] 41)=ug at *;replace HC:=U (HC.u.p hb);replace RP:=U (RP.u.p hb);replace cB:=U (cB.u.p hb);replace RT:=U (RT.u.p hb);replace B0:=U (B0.u.p hb);replace B1:=U (B1.u.p hb);replace B2:=U (B2.u.p hb);replace B3:=U (B3.u.p hb);replace BT:=U (BT.u.p hb);replace C4:=U (C4.u.p hb);replace TH:=U (TH.u.p hb);replace T7:=U (T7.u.p hb);replace K:=U (Rg.acc K.u hb);clear hb;have C8:=U cO;clear cO;have QW:=U (show iL.heap.size<ug.heap.size from C8.u.lt);go_upto_region 6 with fail;refine c6<|k8 (j4 (cT _ _))<|k8 (g7 (.int .i64 (N:Int)) ⟨w4.heap.size,0,none⟩ (af T7.u.c0)) ?_;go_frame;refine f4 27 (ax 42 _ _ _ rfl rfl rfl (E3 _ _)) ?_;refine (vS aU aZ (gs:=[]) (by simp) (fun s hs=>by simp at hs) (.slice none 0 0) ug (cY _)).mono ?_;rintro e1 iC ⟨ma,mn,mc,na,nn,nc,O0,R0,rfl,h_,hb⟩;have K9:=U h_;clear h_;have HY0:=U hb.size;have Jb:Px iC iC:=⟨Below.refl _ _⟩;refine ⟨_,rfl,?_⟩;go_frame;replace HC:=U (HC.u.p hb);replace RP:=U (RP.u.p hb);replace cB:=U (cB.u.p hb);replace RT:=U (RT.u.p hb);replace B0:=U (B0.u.p hb);replace B1:=U (B1.u.p hb);replace B2:=U (B2.u.p hb);replace B3:=U (B3.u.p hb);replace BT:=U (BT.u.p hb);replace C4:=U (C4.u.p hb);replace TH:=U (TH.u.p hb);replace T7:=U (T7.u.p hb);replace C8:=U (C8.u.p hb);replace K:=U (Rg.acc K.u hb);clear hb;have KY:=U Jb
  refine j6 ((.tuple #[.agg #[.int .i64 (N:Int),.slice ma mn mc,.slice na nn nc],.int .i64 0])) rfl<|k8 (i9 (.agg #[.int .i64 (N:Int),.slice ma mn mc,.slice na nn nc]))<|k8 (i9 (.int .i64 0))<|k8 (bj rfl)<|Rg.aG none rfl rfl (Rg.ak _ _ _ rfl _ rfl _ rfl (aJ _ _ _ _ _ _ _ (cj.new iC (.int .i64 0) (.slice none 0 0) (.slice none 0 0)))) ?_;go_frame;have jf:=(cj.new iC (.int .i64 0) (.slice none 0 0) (.slice none 0 0)).set (.int .i64 (N:Int)) (.slice ma mn mc) (.slice na nn nc);have hb:=(((be iC (.cells #[.int .i64 0,.slice none 0 0,.slice none 0 0] 25)).setCell (p:=⟨iC.heap.size,0,none⟩) (Nat.le_refl _) (.int .i64 (N:Int))).setCell (p:=⟨iC.heap.size,1,none⟩) (Nat.le_refl _) (.slice ma mn mc)).setCell (p:=⟨iC.heap.size,2,none⟩) (Nat.le_refl _) (.slice na nn nc);generalize (((iC.alloc (.cells #[.int .i64 0,.slice none 0 0,.slice none 0 0] 25)).setCell ⟨iC.heap.size,0,none⟩ (.int .i64 (N:Int))).setCell ⟨iC.heap.size,1,none⟩ (.slice ma mn mc)).setCell ⟨iC.heap.size,2,none⟩ (.slice na nn nc)=w18 at *;replace HC:=U (HC.u.p hb);replace RP:=U (RP.u.p hb);replace cB:=U (cB.u.p hb);replace RT:=U (RT.u.p hb);replace B0:=U (B0.u.p hb);replace B1:=U (B1.u.p hb);replace B2:=U (B2.u.p hb);replace B3:=U (B3.u.p hb);replace BT:=U (BT.u.p hb);replace C4:=U (C4.u.p hb);replace TH:=U (TH.u.p hb);replace T7:=U (T7.u.p hb);replace C8:=U (C8.u.p hb);replace KY:=U (KY.u.p hb);replace K:=U (Rg.acc K.u hb);clear hb;have T9:=U jf;clear jf;refine j7 rfl ?_;go_frame;clear Jb;have abq:=U (show iL.heap.size<iC.heap.size from Nat.lt_of_lt_of_le QW.u HY0.u);have HB9:=U (show iC.heap.size<=iC.heap.size from Nat.le_refl _);have T9L:=U T9.u.lt;go_upto_region 7 with fail
  refine c6<|k8 (g7 ((.agg #[.int .i64 (N:Int),.slice oa on oc,.slice ra rn rc])) ⟨w4.heap.size,0,none⟩ (aC T7.u.c0 T7.u.c1 T7.u.c2)) ?_;go_frame;refine f4 31 (aA 79 _ _ rfl rfl (S_ _ _)) ?_;refine (yh ((N:Int)) (.slice oa on oc) (.slice ra rn rc) w18).mono ?_;rintro e1 E4 ⟨cb,tV,rfl,zt,hb⟩;refine ⟨_,rfl,?_⟩;go_frame;replace HC:=U (HC.u.p hb);replace RP:=U (RP.u.p hb);replace cB:=U (cB.u.p hb);replace RT:=U (RT.u.p hb);replace B0:=U (B0.u.p hb);replace B1:=U (B1.u.p hb);replace B2:=U (B2.u.p hb);replace B3:=U (B3.u.p hb);replace BT:=U (BT.u.p hb);replace C4:=U (C4.u.p hb);replace TH:=U (TH.u.p hb);replace T7:=U (T7.u.p hb);replace C8:=U (C8.u.p hb);replace KY:=U (KY.u.p hb);replace T9:=U (T9.u.p hb);replace K:=U (Rg.acc K.u hb);clear hb;have E0:=U zt.1;have E1:=U zt.2.1;have E2:=U zt.2.2;clear zt;have h89:iL.heap.size<iC.heap.size:=abq.u;have h79:w4.heap.size<iL.heap.size:=h78;have h9c:iC.heap.size<cb:=Nat.lt_of_lt_of_le T9L.u tV;have ph:cb<E4.heap.size:=E0.u.lt;have Aq:=U (Rg.Kp.aD (M:=fun _=>False) K.u);have Te:Rg.aL (fun z=>z<E4.heap.size/\¬ rC iL.heap.size iC.heap.size (.slice none 0 0) z) E4 (.slice oa on oc) (O.map Ma.ah):=((Rg.aL.o5 Td.u.1).kp Aq.u (fun _ _=>id)).mono (fun z hz=>⟨by have:=K.u.size; omega,fun hc=>by have:=mH hc; omega⟩);have Tf:aV (fun z=>z<E4.heap.size/\¬ rC iL.heap.size iC.heap.size (.slice none 0 0) z) E4 (.slice ra rn rc) (R.map (List.map Ma.ah)):=((nr Td.u.2).kp Aq.u (fun _ _=>id)).mono (fun z hz=>⟨by have:=K.u.size; omega,fun hc=>by have:=mH hc; omega⟩);have hM0:ld N iL.heap.size iC.heap.size [] (.slice none 0 0) (.slice none 0 0) (.slice ma mn mc) (.slice na nn nc) E4:=⟨bW.nil _ _ _ _ (Nat.le_of_lt T9.u.lt),C8.u,T9.u,h89⟩
  have ZG:xx N iL.heap.size iC.heap.size [] (.slice none 0 0) (.slice ma mn mc) (.slice na nn nc) O0 R0 E4:=by
   obtain ⟨g1,g2,g3⟩:=K9.u;have hsY:=KY.u.h.size;have UW:=QW.u;have G7:=HB9.u;exact ⟨(g1.kp (M:=fun _=>False) (Rg.Kp.aD KY.u.h) (fun _ _=>id)).mono (fun z hz=>⟨by omega,by omega,fun hc=>by have:=mH hc; omega⟩),aV.mono (g2.kp (M:=fun _=>False) (Rg.Kp.aD KY.u.h) (fun _ _=>id)) (fun z hz=>⟨by omega,by omega,fun hc=>by have:=mH hc; omega⟩),g3⟩
  go_wp2
  refine AB aU aZ (Gr.dE lX.u) dc.u (cb:=cb) (by exact rfl) (by exact rfl) (F:=fun z=>z<E4.heap.size/\¬ rC iL.heap.size iC.heap.size (.slice none 0 0) z) (C0:=rC iL.heap.size iC.heap.size (.slice none 0 0)) ⟨ph,fun hc=>by have:=mH hc; omega⟩ E0.u.cell E1.u.cell E2.u.cell Te Tf (fun z hz=>hz.1) (fun z hz=>hz.2)
   (QtI N (dR N O R) Pb Fk A (w.heap.size+1) (w.heap.size+2) w4.heap.size iL.heap.size iC.heap.size E4.heap.size (.iface ty vv)) (fun _ _=>False)
   (fun t C W W' h hb=>⟨h.a.p hb,h.ct.p hb,h.c7.p hb,h.c4.p hb,h.VT,by obtain ⟨v,gs,o1,o2,o3,r1,r2,r3,O1,R1,e,g,m,d⟩:=h.x; exact ⟨v,gs,o1,o2,o3,r1,r2,r3,O1,R1,e,g,m.p hb,d.p hb⟩⟩)
   (fun t C W W' h hb=>⟨h.a.same hb,h.ct.same hb,h.c7.same hb,h.c4.same hb,h.VT,by obtain ⟨v,gs,o1,o2,o3,r1,r2,r3,O1,R1,e,g,m,d⟩:=h.x; exact ⟨v,gs,o1,o2,o3,r1,r2,r3,O1,R1,e,g,m.same hb,d.same hb⟩⟩)
   (fun _ _ _ h _=>h) (fun t C W h z hz=>by
    have hf:=h.VT z hz;obtain ⟨v,gs,o1,o2,o3,r1,r2,r3,O1,R1,e,g,m,d⟩:=h.x;rw [e] at hz
    exact ⟨m.lt z hz,by omega,by omega⟩)
   ⟨TH.u,CL.mk BT.u.c BT.u.lt,CL.mk T7.u.c0 T7.u.lt,C4.u,fun z hz=>by have:=mH hz; exact .inl (by omega),⟨_,_,_,_,_,_,_,_,_,_,rfl,vR.nil ZG.ch,hM0,ZG⟩⟩ (fun x=>{ tmps:=#[(.agg #[.slice (some ⟨b,0,none⟩) CS.length cc,.slice pa PS.length pc,.slice sa SS.length sc,.slice ta TS.length tc]),.iface ty vv,.pointer (some ⟨w.heap.size,0,none⟩),.pointer (some ⟨(w.heap.size+1),0,none⟩),.pointer (some ⟨(w.heap.size+2),0,none⟩),.int .i64 ((0:Nat):Int),.int .i64 0,.pointer (some ⟨w4.heap.size,0,none⟩),.pointer (some ⟨iL.heap.size,0,none⟩),.pointer (some ⟨iC.heap.size,0,none⟩),.int .i64 0,x,undef,undef,(.agg #[.slice (some ⟨b,0,none⟩) CS.length cc,.slice pa PS.length pc,.slice sa SS.length sc,.slice ta TS.length tc]),.int .i64 0,.int .i64 0,.bool false,undef,undef,.pointer (some ⟨w.heap.size,0,none⟩),.slice (some ⟨b,0,none⟩) CS.length cc,.pointer (some ⟨b,0*3,none⟩),(.agg #[.int .i64 (N:Int),.slice oa on oc,.slice ra rn rc]),(.tuple #[.agg #[.int .i64 (N:Int),.slice ma mn mc,.slice na nn nc],.int .i64 0]),.pointer (some ⟨w4.heap.size,0,none⟩),.int .i64 (N:Int),(.tuple #[.agg #[.int .i64 (N:Int),.slice ma mn mc,.slice na nn nc],.int .i64 0]),(.agg #[.int .i64 (N:Int),.slice ma mn mc,.slice na nn nc]),.int .i64 0,(.agg #[.int .i64 (N:Int),.slice oa on oc,.slice ra rn rc]),(.func (.func 107) #[] #[.pointer (some ⟨cb,0,none⟩)]),x,undef,undef,undef,undef,undef,undef,undef,undef,undef,undef,undef,undef,undef,undef,undef,undef,undef,undef,undef,undef,undef,undef,undef,undef],defers:=[] }) ?asg ?body ?done (fun _ _ hx=>hx.elim)
  case asg =>
   intro n l x W K hK
   gi_wp2
   exact hK
  case body =>
   rintro n l t C x W hi ht EZ hsW;obtain ⟨v,gs,o1,o2,o3,r1,r2,r3,O1,R1,rfl,hg,hm,hd⟩:=hi.x;obtain ⟨va,vc,rfl⟩:=hm.sl;obtain ⟨xm,xa,xc,hxm,rfl,-⟩:=EZ.len;obtain ⟨F0,recv,hinv,jJ⟩:=hi.a.th.m;obtain ⟨q,hq⟩:∃ q,Hid ((dR N O R).getD t []=q):=⟨_,U rfl⟩;rw [hq.u] at EZ;have GQ:=U (show Gd N q by rw [<- hq.u,List.getD_eq_getElem?_getD,List.getElem?_eq_getElem ht]; exact (Gr.dE lX.u).gd _ (((fS lX.u dc.u).2 _).1 (List.getElem_mem ht)));obtain ⟨pb,k_⟩:∃ z,Hid (Pb q=z):=⟨_,U rfl⟩;obtain ⟨ib,I2⟩:∃ z,Hid (sC ((N:Nat):Int) (O1.map Ma.ah) (R1.map (List.map Ma.ah)) (Ma.ah q)=z):=⟨_,U rfl⟩;have FX:=U EZ;have HG:=U hg;have BR:=U hd.ch;have Ti:=U (hg.le lX.u (fS lX.u dc.u) tK.u);have HT:=U ht;have TT:=U hi.a;have TC:=U hi.ct;have C7:=U hi.c7;have D4:=U hi.c4;have PM:=U hm;have PD:=U hd;have ZH:=U hi.VT;have KR:=U (bi W);clear hi EZ ht Te Tf Aq hM0 ZG hm hd hg
   cases pb
   case false =>
    skip
    gi_upto_region 9 with fail
    refine wpIn_region_list ?_;refine Rg.aH (some 33) rfl rfl (fun _ hh=>by cases hh) (g7 (.iface ty vv) ⟨w.heap.size+1,0,none⟩ (rB TC.u.cell)) ?_;go_frame;refine Rg.aH (some 34) rfl rfl (fun _ hh=>by cases hh) (b5 (.slice xa xm xc) _ rfl rfl) ?_;go_frame;refine Rg.rT (some 35) rfl rfl (fun _ hh=>by cases hh) _ _ (xw (recv:=recv) _ _ _ rfl rfl rfl (hinv _ _)) ?_;refine (jJ W _ q TT.u.a (FX.u.ints) GQ.u).mono ?_;rintro e1 Oh ⟨rfl,hb⟩;rw [k_.u];refine ⟨_,rfl,?_⟩;go_frame;replace FX:=U (FX.u.p hb);replace TT:=U (TT.u.p hb);replace TC:=U (TC.u.p hb);replace C7:=U (C7.u.p hb);replace D4:=U (D4.u.p hb);replace PM:=U (PM.u.p hb);replace PD:=U (PD.u.p hb);replace KR:=U (Rg.acc KR.u hb);clear hb;refine Rg.aH (some 36) rfl rfl (fun _ hh=>by cases hh) (bw _ _ false rfl rfl) ?_;go_frame
    gi_wp2
    exact ⟨_,⟨TT.u,TC.u,C7.u,D4.u,ZH.u,⟨_,_,_,_,_,_,_,_,_,_,rfl,HG.u.skip (by rw [hq.u]; intro _ h; rw [k_.u] at h; cases h),PM.u,PD.u⟩⟩,Rg.Kp.aD KR.u,fun z h=>.inl h⟩
   case true =>
    skip
    gi_upto_region 9 with fail
    refine wpIn_region_list ?_;refine Rg.aH (some 33) rfl rfl (fun _ hh=>by cases hh) (g7 (.iface ty vv) ⟨w.heap.size+1,0,none⟩ (rB TC.u.cell)) ?_;go_frame;refine Rg.aH (some 34) rfl rfl (fun _ hh=>by cases hh) (b5 (.slice xa xm xc) _ rfl rfl) ?_;go_frame;refine Rg.rT (some 35) rfl rfl (fun _ hh=>by cases hh) _ _ (xw (recv:=recv) _ _ _ rfl rfl rfl (hinv _ _)) ?_;refine (jJ W _ q TT.u.a (FX.u.ints) GQ.u).mono ?_;rintro e1 w50 ⟨rfl,hb⟩;rw [k_.u];refine ⟨_,rfl,?_⟩;go_frame;replace FX:=U (FX.u.p hb);replace TT:=U (TT.u.p hb);replace TC:=U (TC.u.p hb);replace C7:=U (C7.u.p hb);replace D4:=U (D4.u.p hb);replace PM:=U (PM.u.p hb);replace PD:=U (PD.u.p hb);replace KR:=U (Rg.acc KR.u hb);clear hb;refine Rg.aH (some 36) rfl rfl (fun _ hh=>by cases hh) (bw _ _ true rfl rfl) ?_;go_frame
    cases ib
    case true =>
     skip
     gi_upto_region 10 with fail
     refine wpIn_region_list ?_;refine Rg.aH (some 38) rfl rfl (fun _ hh=>by cases hh) (g7 ((.agg #[.int .i64 (N:Int),.slice o1 o2 o3,.slice r1 r2 r3])) ⟨iC.heap.size,0,none⟩ (aC PM.u.c9.c0 PM.u.c9.c1 PM.u.c9.c2)) ?_;go_frame;refine Rg.aH (some 39) rfl rfl (fun _ hh=>by cases hh) (b5 (.slice xa xm xc) _ rfl rfl) ?_;go_frame;refine Rg.rT (some 40) rfl rfl (fun _ hh=>by cases hh) _ _ (ax 67 _ _ _ rfl rfl rfl (Lz _ _)) ?_;refine (xh (PD.u.ce) (FX.u.ints)).mono ?_;rintro e1 Jc ⟨rfl,hb⟩;rw [I2.u,uh aU aZ HG.u.gd BR.u GQ.u];refine ⟨_,rfl,?_⟩;go_frame;replace FX:=U (FX.u.p hb);replace TT:=U (TT.u.p hb);replace TC:=U (TC.u.p hb);replace C7:=U (C7.u.p hb);replace D4:=U (D4.u.p hb);replace PM:=U (PM.u.p hb);replace PD:=U (PD.u.p hb);replace KR:=U (Rg.acc KR.u hb);clear hb;refine Rg.aH (some 37) rfl rfl (fun _ hh=>by cases hh) (b5 (.tuple #[.bool true,.int .i64 0]) _ rfl rfl) ?_;go_frame;refine Rg.aH (some 41) rfl rfl (fun _ hh=>by cases hh) (i9 (.bool true)) ?_;go_frame;refine Rg.aH (some 42) rfl rfl (fun _ hh=>by cases hh) (i9 (.int .i64 0)) ?_;go_frame;refine Rg.aH (some 12) rfl rfl (fun _ hh=>by cases hh) (b6 (.bool true) _ rfl rfl) ?_;go_frame;refine Rg.aH (some 13) rfl rfl (fun _ hh=>by cases hh) (b6 (.int .i64 0) _ rfl rfl) ?_;go_frame
     gi_upto_region 11 with fail
     refine wpIn_region_list ?_;refine Rg.aH (some 43) rfl rfl (fun _ hh=>by cases hh) (b5 (.bool true) _ rfl rfl) ?_;go_frame;refine Rg.aH (some 44) rfl rfl (fun _ hh=>by cases hh) (bw _ _ true rfl rfl) ?_;go_frame
     gi_wp2
     exact ⟨_,⟨TT.u,TC.u,C7.u,D4.u,ZH.u,⟨_,_,_,_,_,_,_,_,_,_,rfl,HG.u.skip (by rw [hq.u]; intro _ _; exact (r7 aU aZ HG.u.gd BR.u GQ.u).1 I2.u),PM.u,PD.u⟩⟩,Rg.Kp.aD KR.u,fun z h=>.inl h⟩
    case false =>
     skip
     gi_upto_region 10 with fail
     refine wpIn_region_list ?_;refine Rg.aH (some 38) rfl rfl (fun _ hh=>by cases hh) (g7 ((.agg #[.int .i64 (N:Int),.slice o1 o2 o3,.slice r1 r2 r3])) ⟨iC.heap.size,0,none⟩ (aC PM.u.c9.c0 PM.u.c9.c1 PM.u.c9.c2)) ?_;go_frame;refine Rg.aH (some 39) rfl rfl (fun _ hh=>by cases hh) (b5 (.slice xa xm xc) _ rfl rfl) ?_;go_frame;refine Rg.rT (some 40) rfl rfl (fun _ hh=>by cases hh) _ _ (ax 67 _ _ _ rfl rfl rfl (Lz _ _)) ?_;refine (xh (PD.u.ce) (FX.u.ints)).mono ?_;rintro e1 fB ⟨rfl,hb⟩;rw [I2.u,uh aU aZ HG.u.gd BR.u GQ.u];refine ⟨_,rfl,?_⟩;go_frame;replace FX:=U (FX.u.p hb);replace TT:=U (TT.u.p hb);replace TC:=U (TC.u.p hb);replace C7:=U (C7.u.p hb);replace D4:=U (D4.u.p hb);replace PM:=U (PM.u.p hb);replace PD:=U (PD.u.p hb);replace KR:=U (Rg.acc KR.u hb);clear hb;refine Rg.aH (some 37) rfl rfl (fun _ hh=>by cases hh) (b5 (.tuple #[.bool false,.int .i64 0]) _ rfl rfl) ?_;go_frame;refine Rg.aH (some 41) rfl rfl (fun _ hh=>by cases hh) (i9 (.bool false)) ?_;go_frame;refine Rg.aH (some 42) rfl rfl (fun _ hh=>by cases hh) (i9 (.int .i64 0)) ?_;go_frame;refine Rg.aH (some 12) rfl rfl (fun _ hh=>by cases hh) (b6 (.bool false) _ rfl rfl) ?_;go_frame;refine Rg.aH (some 13) rfl rfl (fun _ hh=>by cases hh) (b6 (.int .i64 0) _ rfl rfl) ?_;go_frame
     gi_upto_region 11 with fail
     refine wpIn_region_list ?_;refine Rg.aH (some 43) rfl rfl (fun _ hh=>by cases hh) (b5 (.bool false) _ rfl rfl) ?_;go_frame;refine Rg.aH (some 44) rfl rfl (fun _ hh=>by cases hh) (bw _ _ false rfl rfl) ?_;go_frame
     gi_upto_region 12 with fail
     refine wpIn_region_list ?_;refine Rg.aH (some 45) rfl rfl (fun _ hh=>by cases hh) (g7 (.slice va gs.length vc) ⟨iL.heap.size,0,none⟩ (Rg.ae _ _ Tryz.underlying41 PM.u.c8.c)) ?_;go_frame;refine Rg.aH (some 46) rfl rfl (fun _ hh=>by cases hh) (b5 (.slice xa xm xc) _ rfl rfl) ?_;go_frame;have kE:=Ti.u;obtain ⟨a9,c9,X9,q1,yH,vE,hC9⟩:=PM.u.push FX.u ⟨_,_,_,rfl⟩ (by omega) 41;refine Rg.aH (some 47) rfl rfl (fun _ hh=>by cases hh) (Rg.aF _ _ _ rfl (.slice xa xm xc) rfl (cn fB _ ⟨_,_,_,rfl⟩)) ?_;go_frame;refine Rg.aH (some 48) rfl rfl (fun _ hh=>by cases hh) (Rg.aT _ _ _ rfl rfl rfl q1) ?_;go_frame;refine Rg.iy none rfl rfl (fun _ hh=>by cases hh) (Rg.ak _ _ _ rfl _ rfl _ rfl (Rg.bz _ fk yH.c8.c yH.c8.f)) ?_;go_frame;have uK:=PM.u.ge (Nat.le_refl iL.heap.size);have xT:Rg.Kp (rC iL.heap.size iC.heap.size (.slice va gs.length vc)) fB (X9.setCell ⟨iL.heap.size,0,none⟩ (.slice a9 (gs.length+1) c9)):=vE.trans (Rg.Kp.aR (.inl rfl)) (fun _ _ h=>h);have Tj:=yH.abn (.slice a9 (gs.length+1) c9);generalize X9.setCell ⟨iL.heap.size,0,none⟩ (.slice a9 (gs.length+1) c9)=ZI at *;have ZJ:=U (TT.u.kp xT (fun z hz hc=>by have:=uK z hc; have:=ZE.u z hz; omega));have ZK:=U (TC.u.kp xT (fun hc=>by have:=uK _ hc; omega));have VU:=U (C7.u.kp xT (fun hc=>by have:=uK _ hc; omega));have ZL:=U (D4.u.kp xT (fun hc=>by have:=uK _ hc; omega));have LD:=U Tj;have HLT:=U Tj.lt;have abr:=U xT;have HC9:=U hC9;have je:=U (show ∀ s∈gs++[q],Gd N s from fun s hs=>(List.mem_append.1 hs).elim (HG.u.gd s) fun e=>by rw [List.mem_singleton] at e; exact e▸GQ.u)
     have ZM:=U (bi ZI);clear yH vE hC9 q1 xT Tj TT TC C7 D4 PM PD FX
     gi_upto_region 13 with fail
     refine wpIn_region_list ?_;refine Rg.aH (some 50) rfl rfl (fun _ hh=>by cases hh) (j4 (cT _ _)) ?_;go_frame;refine Rg.aH (some 51) rfl rfl (fun _ hh=>by cases hh) (g7 (.int .i64 (N:Int)) ⟨w4.heap.size,0,none⟩ (af VU.u.cell)) ?_;go_frame;refine Rg.aH (some 52) rfl rfl (fun _ hh=>by cases hh) (g7 (.slice a9 (gs.length+1) c9) ⟨iL.heap.size,0,none⟩ (Rg.ae _ _ Tryz.underlying41 LD.u.c8.c)) ?_;go_frame;refine Rg.rT (some 53) rfl rfl (fun _ hh=>by cases hh) _ _ (ax 42 _ _ _ rfl rfl rfl (E3 _ _)) ?_;refine (vS aU aZ (gs:=gs++[q]) (by rw [List.length_append]; have:=Ti.u; simp; omega) je.u (.slice a9 (gs.length+1) c9) ZI (LD.u.row.rows (by rw [List.length_append]; have:=Ti.u; simp; omega))).mono ?_;rintro e1 tE ⟨m1,m2,m3,n1,n2,n3,O2,R2,rfl,h_,hb⟩;have HM2:=U h_;clear h_;refine ⟨_,rfl,?_⟩;go_frame;replace ZJ:=U (ZJ.u.p hb);replace ZK:=U (ZK.u.p hb);replace VU:=U (VU.u.p hb);replace ZL:=U (ZL.u.p hb);replace LD:=U (LD.u.p hb);replace ZM:=U (Rg.acc ZM.u hb);clear hb;refine Rg.aH (some 49) rfl rfl (fun _ hh=>by cases hh) (b5 ((.tuple #[.agg #[.int .i64 (N:Int),.slice m1 m2 m3,.slice n1 n2 n3],.int .i64 0])) _ rfl rfl) ?_;go_frame;refine Rg.aH (some 54) rfl rfl (fun _ hh=>by cases hh) (i9 (.agg #[.int .i64 (N:Int),.slice m1 m2 m3,.slice n1 n2 n3])) ?_;go_frame;refine Rg.aH (some 55) rfl rfl (fun _ hh=>by cases hh) (i9 (.int .i64 0)) ?_;go_frame;refine Rg.iy none rfl rfl (fun _ hh=>by cases hh) (Rg.ak _ _ _ rfl _ rfl _ rfl (aJ _ _ _ _ _ _ _ LD.u.c9)) ?_;go_frame;obtain ⟨abt,lR⟩:=LD.u.abo (.slice m1 m2 m3) (.slice n1 n2 n3)
     obtain ⟨g1,g2,g3⟩:=HM2.u;have hpd:=xx.mk9 HLT.u (by have:=HLT.u iL.heap.size (.inl rfl); omega) g1 g2 g3 lR;have ab0:=LD.u.ge (Nat.le_refl iL.heap.size);have Bl:=HC9.u;have ab1:=KR.u.size;generalize ((tE.setCell ⟨iC.heap.size,0,none⟩ (.int .i64 (N:Int))).setCell ⟨iC.heap.size,1,none⟩ (.slice m1 m2 m3)).setCell ⟨iC.heap.size,2,none⟩ (.slice n1 n2 n3)=W14 at *
     gi_wp2
     refine ⟨_,⟨ZJ.u.kp lR (fun z hz hc=>by have:=ZE.u z hz; omega),ZK.u.kp lR (by omega),VU.u.kp lR (by omega),ZL.u.kp lR (by omega),fun z hz=>?_,⟨_,_,_,_,_,_,_,_,_,_,rfl,HG.u.push HT.u hq.u GQ.u k_.u (fun hc=>by have:=(r7 aU aZ HG.u.gd BR.u GQ.u).2 hc; rw [I2.u] at this; cases this) g3,abt,hpd⟩⟩,?_,fun z hz=>?_⟩
     ·rcases Bl z hz with h | h
      ·exact ZH.u z h
      ·exact .inr (by omega)
     ·exact (((Rg.Kp.aD KR.u).trans abr.u (fun _ _ h=>h)).trans (Rg.Kp.aD (M:=fun _=>False) ZM.u) (fun _ _ h=>h.elim)).trans lR (fun z _ h=>.inr (.inl h))
     ·rcases Bl z hz with h | h
      ·exact .inl h
      ·exact .inr (by omega)
  case done =>
   rintro C W hi hD hk;obtain ⟨v,gs,o1,o2,o3,r1,r2,r3,O1,R1,rfl,hg,hm,hd⟩:=hi.x;have Pw:=Rg.Kp.p K.u hk (fun z hz=>by have:=mH hz; omega);have D4:=U hi.c4;have PM:=U hm;have PD:=U hd;have HG:=U hg;have Aq:=U Pw;have HD:=U hD;clear hi hm hd hg hk Pw hD;go_upto_region 14 with fail;refine c6<|k8 (g7 ((.agg #[.int .i64 (N:Int),.slice o1 o2 o3,.slice r1 r2 r3])) ⟨iC.heap.size,0,none⟩ (aC PM.u.c9.c0 PM.u.c9.c1 PM.u.c9.c2))<|Rg.aG none rfl rfl (Rg.ak _ _ _ rfl _ rfl _ rfl (aJ _ _ _ _ _ _ _ D4.u))<|j7 rfl ?_;go_frame;have y4:=D4.u.set (.int .i64 (N:Int)) (.slice o1 o2 o3) (.slice r1 r2 r3);have k4:Rg.Kp (fun z=>z=w.heap.size+2) W (((W.setCell ⟨w.heap.size+2,0,none⟩ (.int .i64 (N:Int))).setCell ⟨w.heap.size+2,1,none⟩ (.slice o1 o2 o3)).setCell ⟨w.heap.size+2,2,none⟩ (.slice r1 r2 r3)):=eD _ _ _ _ _;have jN:=Rg.Kp.p Aq.u k4 (fun z hz=>by omega);have Ko:=((HD.u.setCell ⟨w.heap.size+2,0,none⟩ (.int .i64 (N:Int))).setCell ⟨w.heap.size+2,1,none⟩ (.slice o1 o2 o3)).setCell ⟨w.heap.size+2,2,none⟩ (.slice r1 r2 r3);have g1:=PD.u.o.kp k4 (fun z hz e=>by omega);have g2:=PD.u.r.kp k4 (fun z hz e=>by omega);generalize ((W.setCell ⟨w.heap.size+2,0,none⟩ (.int .i64 (N:Int))).setCell ⟨w.heap.size+2,1,none⟩ (.slice o1 o2 o3)).setCell ⟨w.heap.size+2,2,none⟩ (.slice r1 r2 r3)=dB at *;go_wp2;exact RF.leaves w.heap.size [_] _ (by simp) (by intro D iR; simp at iR; subst iR; exact ⟨Ko,by omega⟩) (fun W' l1 l2 l3=>⟨_,aO rfl _ rfl rfl (MT y4 l2 l3 l1.size),jN.trans l1,.inr ⟨rfl,N,O,R,mR.u,gs,_,_,_,_,_,_,O1,R1,rfl,(vT g1 l2 l1.size).mono (fun z hz=>by omega),aV.mono (B_ g2 l2 l1.size) (fun z hz=>by omega),PD.u.ch,HG.u.VR,fun x h1 h2=>HG.u.done h1 h2⟩⟩)
end
section
open Go.Proofs.Ob
open Go.Proofs.Cm (Gd Gr ar ap lexLt cz St)
attribute [local irreducible] Go.Calls Go.wpList
theorem mI (X:World) (n:Int) (a:Option Addr) (m c:Nat) (a':Option Addr) (m' c':Nat):(Instr.buildSlice 71 1 #[(0,.agg #[.int .i64 n,.slice a m c,.slice a' m' c'])]).run Tryz.prog X=.ok (.slice (some ⟨X.heap.size,0,none⟩) 1 1) (X.alloc (.cells #[.int .i64 n,.slice a m c,.slice a' m' c'] 25)):=by
 obtain ⟨i0,hi,dw,bJ,dZ⟩:=info_parts iu;refine run_buildSlice X 71 25 1 _ _ i0 _ Tryz.underlying71 hi dw (by rw [bJ]; decide) (by rw [bJ]; decide) ?_;generalize (fun x=>((Value.agg #[.int .i64 0,.slice none 0 0,.slice none 0 0]).cells)[x % (Value.agg #[.int .i64 0,.slice none 0 0,.slice none 0 0]).cells.size]!)=f;rw [bJ];have h1:Array.range (1*3)=#[0,1,2]:=rfl;simp [Instr.fill,Value.cells,h1]
theorem Jd (X:World) (a:Option Addr) (m c:Nat) (a':Option Addr) (m' c':Nat):(Instr.buildSlice 41 2 #[(0,.slice a m c),(1,.slice a' m' c')]).run Tryz.prog X=.ok (.slice (some ⟨X.heap.size,0,none⟩) 2 2) (X.alloc (.cells #[.slice a m c,.slice a' m' c'] 27)):=by
 obtain ⟨i0,hi,dw,bJ,dZ⟩:=info_parts cX;refine run_buildSlice X 41 27 2 _ _ i0 _ Tryz.underlying41 hi dw (by rw [bJ]; decide) (by rw [bJ]; decide) ?_;generalize (fun x=>((Value.slice none 0 0).cells)[x % (Value.slice none 0 0).cells.size]!)=f;rw [bJ];have h1:Array.range (2*1)=#[0,1]:=rfl;simp [Instr.fill,Value.cells,h1]
theorem l9 {o:Oper} {a:Act} {w:World} (T:TypeId) (x:Operand) (ho:o.op=.makeInterface T x) (hx:a.eval x=v) (hr:(Instr.makeInterface T v).run Tryz.prog w=.ok (.iface T v) w):(execOp a.eval o).run Tryz.prog w=.ok (.value (.iface T v)) w:=by
 unfold execOp;simp [ho,hx,hr,Result.andThen]
theorem Tk (v:Value) (w:World):(Instr.makeInterface 76 v).run Tryz.prog w=.ok (.iface 76 v) w:=by kernel_rfl
theorem ZN (v:Value) (w:World):(Instr.makeInterface 83 v).run Tryz.prog w=.ok (.iface 83 v) w:=by kernel_rfl
theorem ZO (v:Value) (w:World):(Instr.makeInterface 86 v).run Tryz.prog w=.ok (.iface 86 v) w:=by kernel_rfl
theorem Tl (v:Value) (w:World):(Instr.makeInterface 99 v).run Tryz.prog w=.ok (.iface 99 v) w:=by kernel_rfl
theorem Dy {o:Oper} {ac:Act} {w:World} {a a':Option Addr} {c n' c':Nat} (x y:Operand) (ho:o.op=.build 73 #[(0,x),(1,y)]) (hx:ac.eval x=.slice a n c) (hy:ac.eval y=.slice a' n' c') :
  (execOp ac.eval o).run Tryz.prog w=.ok (.value (.agg #[.slice a n c,.slice a' n' c',.slice none 0 0,.slice none 0 0])) w:=by
 unfold execOp;simp only [ho,Sem.run_bind,Sem.run_pure];simp only [List.map_toArray,List.map_cons,List.map_nil,hx,hy]
 have h:(Instr.build 73 #[(0,.slice a n c),(1,.slice a' n' c')]).run Tryz.prog w=.ok (.agg #[.slice a n c,.slice a' n' c',.slice none 0 0,.slice none 0 0]) w:=by kernel_rfl
 first | (simp [h,Result.andThen]) | (rw [h]; rfl) | (erw [h]; rfl)
theorem Py {o:Oper} {ac:Act} {w:World} {a a':Option Addr} {c n' c':Nat} (x y:Operand) (ho:o.op=.build 73 #[(0,x),(2,y)]) (hx:ac.eval x=.slice a n c) (hy:ac.eval y=.slice a' n' c') :
  (execOp ac.eval o).run Tryz.prog w=.ok (.value (.agg #[.slice a n c,.slice none 0 0,.slice a' n' c',.slice none 0 0])) w:=by
 unfold execOp;simp only [ho,Sem.run_bind,Sem.run_pure];simp only [List.map_toArray,List.map_cons,List.map_nil,hx,hy]
 have h:(Instr.build 73 #[(0,.slice a n c),(2,.slice a' n' c')]).run Tryz.prog w=.ok (.agg #[.slice a n c,.slice none 0 0,.slice a' n' c',.slice none 0 0]) w:=by kernel_rfl
 first | (simp [h,Result.andThen]) | (rw [h]; rfl) | (erw [h]; rfl)
theorem Pz {o:Oper} {ac:Act} {w:World} {a a':Option Addr} {c n' c':Nat} (x y:Operand) (ho:o.op=.build 73 #[(0,x),(3,y)]) (hx:ac.eval x=.slice a n c) (hy:ac.eval y=.slice a' n' c') :
  (execOp ac.eval o).run Tryz.prog w=.ok (.value (.agg #[.slice a n c,.slice none 0 0,.slice none 0 0,.slice a' n' c'])) w:=by
 unfold execOp;simp only [ho,Sem.run_bind,Sem.run_pure];simp only [List.map_toArray,List.map_cons,List.map_nil,hx,hy]
 have h:(Instr.build 73 #[(0,.slice a n c),(3,.slice a' n' c')]).run Tryz.prog w=.ok (.agg #[.slice a n c,.slice none 0 0,.slice none 0 0,.slice a' n' c']) w:=by kernel_rfl
 first | (simp [h,Result.andThen]) | (rw [h]; rfl) | (erw [h]; rfl)
theorem Dz {o:Oper} {ac:Act} {w:World} {a:Option Addr} {c:Nat} (x:Operand) (ho:o.op=.build 73 #[(0,x)]) (hx:ac.eval x=.slice a n c) :
  (execOp ac.eval o).run Tryz.prog w=.ok (.value (.agg #[.slice a n c,.slice none 0 0,.slice none 0 0,.slice none 0 0])) w:=by
 unfold execOp;simp only [ho,Sem.run_bind,Sem.run_pure];simp only [List.map_toArray,List.map_cons,List.map_nil,hx]
 have h:(Instr.build 73 #[(0,.slice a n c)]).run Tryz.prog w=.ok (.agg #[.slice a n c,.slice none 0 0,.slice none 0 0,.slice none 0 0]) w:=by kernel_rfl
 first | (simp [h,Result.andThen]) | (rw [h]; rfl) | (erw [h]; rfl)
theorem l_ {o:Oper} {ac:Act} {w:World} {T:TypeId} (x y:Operand) (ho:o.op=.build T #[(0,x),(1,y)]) (hx:ac.eval x=v1) (hy:ac.eval y=v2) (h:(Instr.build T #[(0,v1),(1,v2)]).run Tryz.prog w=.ok v w):(execOp ac.eval o).run Tryz.prog w=.ok (.value v) w:=by
 unfold execOp;simp only [ho,Sem.run_bind,Sem.run_pure];simp only [List.map_toArray,List.map_cons,List.map_nil,hx,hy]
 first | (simp [h,Result.andThen]) | (rw [h]; rfl) | (erw [h]; rfl)
theorem y6 {a a':Option Addr} {c n' c':Nat} (w:World):(Instr.build 76 #[(0,.slice a n c),(1,.slice a' n' c')]).run Tryz.prog w=.ok (.agg #[.slice a n c,.slice a' n' c']) w/\(Instr.build 83 #[(0,.slice a n c),(1,.slice a' n' c')]).run Tryz.prog w=.ok (.agg #[.slice a n c,.slice a' n' c']) w/\(Instr.build 86 #[(0,.slice a n c),(1,.slice a' n' c')]).run Tryz.prog w=.ok (.agg #[.slice a n c,.slice a' n' c']) w :=
 ⟨by kernel_rfl,by kernel_rfl,by kernel_rfl⟩
theorem mU.one {w:World} {n:Int} {oa:Option Addr} {on oc:Nat} {ra:Option Addr} {rn rc:Nat} (h:bl w (.slice oa on oc) (.slice ra rn rc) OO RR):mU w.heap.size [(n,OO,RR)] (w.alloc (.cells #[.int .i64 n,.slice oa on oc,.slice ra rn rc] 25)) :=
 ⟨by simp,fun i hi=>by
  obtain rfl:i=0:=by simp at hi; omega
  exact ⟨oa,on,oc,ra,rn,rc,by rw [Rg.aW]; rfl,by rw [Rg.aW]; rfl,by rw [Rg.aW]; rfl,h.p ((Below.refl _ _).alloc (Nat.le_refl _) _)⟩⟩
theorem mJ {w:World} {l:List Int} (h:Rg.Ints w v l) (t:TypeId):Rg.Rows (w.alloc (.cells #[v] t)) (.slice (some ⟨w.heap.size,0,none⟩) 1 1) [l]:=by
 have hb:=be w (.cells #[v] t);refine ⟨[v],⟨some ⟨w.heap.size,0,none⟩,1,rfl,Nat.le_refl _,by unfold maxLen; omega,by simp [Rg.oY],fun _=>⟨w.heap.size,0,rfl,by simp,fun j hj=>?_⟩⟩,rfl,fun i p q=>?_⟩
 ·obtain rfl:j=0:=by simp at hj; omega
  rw [Rg.aW]; rfl
 ·obtain rfl:i=0:=by simp at p; omega
  exact Rg.Ints.p h hb
theorem AQ {w:World} {u:Value} {l m:List Int} (h:Rg.Ints w v l) (h2:Rg.Ints w u m) (t:TypeId):Rg.Rows (w.alloc (.cells #[v,u] t)) (.slice (some ⟨w.heap.size,0,none⟩) 2 2) [l,m]:=by
 have hb:=be w (.cells #[v,u] t);refine ⟨[v,u],⟨some ⟨w.heap.size,0,none⟩,2,rfl,Nat.le_refl _,by unfold maxLen; omega,by simp [Rg.oY],fun _=>⟨w.heap.size,0,rfl,by simp,fun j hj=>?_⟩⟩,rfl,fun i p q=>?_⟩
 ·have:j=0∨j=1:=by simp at hj; omega
  rcases this with rfl | rfl <;> rw [Rg.aW] <;> rfl
 ·have:i=0∨i=1:=by simp at p; omega
  rcases this with rfl | rfl
  ·exact Rg.Ints.p h hb
  ·exact Rg.Ints.p h2 hb
structure pZ (Fk:Nat->Prop) (sv tv:Value) (s t:List Int) (W:World):Prop where
 s:Rg.FI Fk W sv s
 t:Rg.FI Fk W tv t
theorem ZP (h1:1<=N) (h2:N<=64) {x y:List Nat} (gx:Gd N x) (h:pZ Fk xv yv (Ma.ah x) (Ma.ah y) W):mF N (.iface 76 (.agg #[xv,yv])) (fun g=>decide (kb x g=y)) Fk (pZ Fk xv yv (Ma.ah x) (Ma.ah y)) W :=
 ⟨⟨⟨201,.agg #[xv,yv],fun gv W=>by kernel_rfl,fun W gv g hA hg gg=>IM h1 h2 xv yv gv x y g W hA.s.ints hA.t.ints hg gx gg⟩,fun W W' hA hs=>⟨FI.same hA.s hs,FI.same hA.t hs⟩,fun C W W' hA hk hC=>⟨hA.s.kp hk hC,hA.t.kp hk hC⟩⟩,h⟩
theorem ZQ (h2:N<=64) {sv:Value} {s t:List Nat} (hs:∀ y∈s,y<N) (hl:s.length<=100000) (h:pZ Fk sv tv (Ma.ah s) (Ma.ah t) W):mF N (.iface 83 (.agg #[sv,tv])) (fun g=>decide (Ob.jB (Ma.ah (s.map (ap g)))=Ma.ah t)) Fk (pZ Fk sv tv (Ma.ah s) (Ma.ah t)) W :=
 ⟨⟨⟨204,.agg #[sv,tv],fun gv W=>by kernel_rfl,fun W gv g hA hg gg=>IW h2 sv tv gv s t g W hA.s.ints hA.t.ints hg hs hl gg⟩,fun W W' hA hs=>⟨FI.same hA.s hs,FI.same hA.t hs⟩,fun C W W' hA hk hC=>⟨hA.s.kp hk hC,hA.t.kp hk hC⟩⟩,h⟩
theorem ZR (h2:N<=64) {sv:Value} {s t:List Nat} (hs:∀ y∈s,y<N) (hl:s.length<=100000) (h:pZ Fk sv tv (Ma.ah s) (Ma.ah t) W):mF N (.iface 86 (.agg #[sv,tv])) (fun g=>decide (s.map (ap g)=t)) Fk (pZ Fk sv tv (Ma.ah s) (Ma.ah t)) W :=
 ⟨⟨⟨206,.agg #[sv,tv],fun gv W=>by kernel_rfl,fun W gv g hA hg gg=>IP h2 sv tv gv s t g W hA.s.ints hA.t.ints hg hs hl gg⟩,fun W W' hA hs=>⟨FI.same hA.s hs,FI.same hA.t hs⟩,fun C W W' hA hk hC=>⟨hA.s.kp hk hC,hA.t.kp hk hC⟩⟩,h⟩
theorem kd.sh {c0:dA} {Pb:List Nat->Bool} {w:World} {e:Ending} (h:kd ck c0 Pb w e w'):∃ a n c k,e=.returned (.tuple #[.slice a n c,.int .i64 k]):=by
 rcases h.2 with ⟨_,h⟩ | ⟨_,N,O,R,_,(⟨_,h⟩ | ⟨k,x,_,_,_,h,hx⟩)⟩
 ·exact ⟨_,_,_,_,h⟩
 ·exact ⟨_,_,_,_,h⟩
 ·obtain ⟨n,a,c,_,rfl,_⟩:=hx.len
  exact ⟨_,_,_,_,h⟩
theorem kd.from {c0:dA} {Pb:List Nat->Bool} {w:World} {e:Ending} (h:kd ck c0 Pb w e w') (hb:BE w0 w):kd ck c0 Pb w0 e w':=⟨hb.trans (h.1.mono hb.size),h.2⟩
theorem gM.sh {c0:dA} {Pb:List Nat->Bool} {w:World} {e:Ending} (h:gM ck c0 Pb w e w'):∃ i oa on oc ra rn rc k,e=.returned (.tuple #[.agg #[.int .i64 i,.slice oa on oc,.slice ra rn rc],.int .i64 k]):=by
 rcases h.2 with ⟨_,h⟩ | ⟨_,N,O,R,_,gs,oa,on,oc,ra,rn,rc,O',R',h,_⟩
 ·exact ⟨_,_,_,_,_,_,_,_,h⟩
 ·exact ⟨_,_,_,_,_,_,_,_,h⟩
theorem gM.kp {ck:Int} {c0:dA} {Pb:List Nat->Bool} {w0 w:World} {e:Ending} {w' w'':World} {b:Nat} (h:gM ck c0 Pb w e w') (hb:BE w0 w) (hk:Rg.Kp (fun z=>z=b) w' w'') (h1:w0.heap.size<=b) (h2:b<w.heap.size):gM ck c0 Pb w0 e w'':=by
 refine ⟨Rg.Kp.p (hb.trans (h.1.mono hb.size)) hk (fun z e=>by omega),?_⟩;have hs:=hb.size
 rcases h.2 with h | ⟨h0,N,O,R,hc,gs,oa,on,oc,ra,rn,rc,O',R',e,g1,g2,g3⟩
 ·exact .inl h
 ·exact .inr ⟨h0,N,O,R,hc,gs,oa,on,oc,ra,rn,rc,O',R',e,(g1.kp hk (fun z hz e=>by omega)).mono (fun z hz=>by omega),aV.mono (g2.kp hk (fun z hz e=>by omega)) (fun z hz=>by omega),g3⟩

def sT (xl yl:List Int) (g:List Nat):Bool:=decide (kb (mQ xl) g=mQ yl)
def yi (s t:List Int) (g:List Nat):Bool:=decide (Ob.jB (Ma.ah ((mQ s).map (ap g)))=Ma.ah (mQ t))
def nu (s t:List Int) (g:List Nat):Bool:=decide ((mQ s).map (ap g)=mQ t)
theorem r8 {o:Oper} {a:Act} {w:World} (T:TypeId) (x y:Operand) (ho:o.op=.buildSlice T 2 #[(0,x),(1,y)]) (hx:a.eval x=u1) (hy:a.eval y=u2)
  (hr:(Instr.buildSlice T 2 #[(0,u1),(1,u2)]).run Tryz.prog w=.ok v w'):(execOp a.eval o).run Tryz.prog w=.ok (.value v) w':=by
 unfold execOp;simp [ho,hx,hy,hr,Result.andThen]
theorem ZS:(Tryz.prog.info? 26).map (fun i=>(i.zero,i.size,i.bytes))=some (some (.slice none 0 0),1,24):=by kernel_rfl
theorem Je (X:World) (a:Option Addr) (m c:Nat):(Instr.buildSlice 22 1 #[(0,.slice a m c)]).run Tryz.prog X=.ok (.slice (some ⟨X.heap.size,0,none⟩) 1 1) (X.alloc (.cells #[.slice a m c] 26)):=by
 obtain ⟨i0,hi,dw,bJ,dZ⟩:=info_parts ZS;refine run_buildSlice X 22 26 1 _ _ i0 _ Tryz.underlying22 hi dw (by rw [bJ]; decide) (by rw [bJ]; decide) ?_;generalize (fun x=>((Value.slice none 0 0).cells)[x % (Value.slice none 0 0).cells.size]!)=f;rw [bJ];have h1:Array.range (1*1)=#[0]:=rfl;simp [Instr.fill,Value.cells,h1]
theorem Jf {n:Int} (hn:n=((N:Nat):Int)) (h1:Ma.bY xl=0) (h2:(xl.length:Int)=n):∃ x,xl=Ma.ah x/\Gd N x:=by
 obtain ⟨x,rfl,hx⟩:=Ma.mf (Ma.jl h1).2.2;rw [Ma.aB] at h2;exact ⟨x,rfl,hx,by omega⟩
theorem lY {n:Int} (hn:n=((N:Nat):Int)) {s:List Int} (h:¬ s.any (dv n)=true):∃ q,s=Ma.ah q/\∀ y∈q,y<N:=by
 have hh:∀ y∈s,0<=y/\y<n:=fun y hy=>by
  refine Classical.byContradiction fun hc=>h (List.any_eq_true.2 ⟨y,hy,?_⟩);unfold dv;simp;omega
 clear h
 induction s with
 | nil=>exact ⟨[],rfl,fun y hy=>by simp at hy⟩
 | cons y l ih =>
  obtain ⟨q,rfl,hq⟩:=ih fun z hz=>hh z (List.mem_cons_of_mem _ hz);obtain ⟨h0,h1⟩:=hh y (List.mem_cons_self ..);refine ⟨y.toNat :: q,?_,fun z hz=>?_⟩
  ·show y :: Ma.ah q=((y.toNat:Nat):Int) :: Ma.ah q
   rw [Int.toNat_of_nonneg h0]
  ·rcases List.mem_cons.1 hz with rfl | hz
   ·omega
   ·exact hq z hz
theorem AR {n:Int}:∀ {SS:List (List Int)},gL n SS=0->∀ s∈SS,gK n s=0
 | [],_,_,hc=>by simp at hc
 | c :: l,h,d,hd=>by
  rw [gL] at h
  by_cases e:gK n c=0
  ·rw [if_pos e] at h
   rcases List.mem_cons.1 hd with rfl | hd
   ·exact e
   ·exact AR h d hd
  ·rw [if_neg e] at h; exact absurd h e
theorem AU {n:Int}:∀ {SS:List (List Int)},iV n SS=0->∀ s∈SS,iO n s=0
 | [],_,_,hc=>by simp at hc
 | c :: l,h,d,hd=>by
  rw [iV] at h
  by_cases e:iO n c=0
  ·rw [if_pos e] at h
   rcases List.mem_cons.1 hd with rfl | hd
   ·exact e
   ·exact AU h d hd
  ·rw [if_neg e] at h; exact absurd h e
theorem mK {n:Int} {s:List Int} (h:gK n s=0):¬ s.any (dv n)=true/\oT s:=by
 unfold gK at h
 by_cases h1:s.any (dv n)=true
 ·rw [if_pos h1] at h; exact absurd h (by decide)
 ·rw [if_neg h1] at h
  refine ⟨h1,?_⟩
  by_cases h2:oT s
  ·exact h2
  ·rw [if_neg h2] at h; exact absurd h (by decide)
theorem vV {n:Int} {s:List Int} (h:iO n s=0):s.length<=64/\¬ s.any (dv n)=true:=by
 unfold iO at h
 by_cases h1:64<s.length
 ·rw [if_pos h1] at h; exact absurd h (by decide)
 ·rw [if_neg h1] at h
  refine ⟨by omega,fun h2=>?_⟩;rw [if_pos h2] at h; exact absurd h (by decide)
theorem AV {n:Int} {l:List dA} (h:hU ((n,OO,RR) :: l)=0):∃ N:Nat,n=((N:Nat):Int)/\1<=N/\N<=64/\n.toNat=N:=by
 obtain ⟨N,O,R,en,h1,h2,_⟩:=eU (kc h _ (List.mem_cons_self ..));exact ⟨N,en,h1,h2,by simp only at en; omega⟩
section
variable {n:Int} {OO:List (List Int)} {RR:List (List (List Int))} {l:List dA} {Fk:Nat->Prop} {sv tv:Value} {s t:List Int} {W:World} {PS SS TS:List (List Int)} {c0:dA}
theorem vW (h:eJ n ((n,OO,RR) :: l) PS SS TS c0=0) (hs:s∈PS) (hn:n=((N:Nat):Int)):∃ x,s=Ma.ah x/\Gd N x:=by
 obtain ⟨_,h2,h3,_⟩:=e_ h;refine Jf hn (rY h2 s hs) (Classical.byContradiction fun hc=>h3 (.inr (List.any_eq_true.2 ⟨s,hs,?_⟩)));exact decide_eq_true hc
theorem Tm (h:eJ n ((n,OO,RR) :: l) PS SS TS c0=0) (hs:s∈PS) (ht:t∈PS) (hA:pZ Fk sv tv s t W):mF n.toNat (.iface 76 (.agg #[sv,tv])) (sT s t) Fk (pZ Fk sv tv s t) W:=by
 obtain ⟨N,en,h1,h2,h3⟩:=AV (e_ h).1;obtain ⟨x,rfl,gx⟩:=vW h hs en;obtain ⟨y,rfl,gy⟩:=vW h ht en;rw [h3];have:=ZP h1 h2 gx hA;unfold sT;rw [eC,eC];exact this
theorem ZT (h:eJ n ((n,OO,RR) :: l) PS SS TS c0=0) (hs:s∈SS) (ht:t∈SS) (hl:s.length<=100) (hA:pZ Fk sv tv s t W):mF n.toNat (.iface 83 (.agg #[sv,tv])) (yi s t) Fk (pZ Fk sv tv s t) W:=by
 obtain ⟨N,en,h1,h2,h3⟩:=AV (e_ h).1;have h4:=(e_ h).2.2.2.1;obtain ⟨x,rfl,gx⟩:=lY en (mK (AR h4 _ hs)).1;obtain ⟨y,rfl,gy⟩:=lY en (mK (AR h4 _ ht)).1;rw [h3];rw [Ma.aB] at hl;have:=ZQ h2 gx (by omega) hA;unfold yi;rw [eC,eC];exact this
theorem ZU (h:eJ n ((n,OO,RR) :: l) PS SS TS c0=0) (hs:s∈TS) (ht:t∈TS) (hl:s.length<=100) (hA:pZ Fk sv tv s t W):mF n.toNat (.iface 86 (.agg #[sv,tv])) (nu s t) Fk (pZ Fk sv tv s t) W:=by
 obtain ⟨N,en,h1,h2,h3⟩:=AV (e_ h).1;have h4:=(e_ h).2.2.2.2.1;obtain ⟨x,rfl,gx⟩:=lY en (vV (AU h4 _ hs)).2;obtain ⟨y,rfl,gy⟩:=lY en (vV (AU h4 _ ht)).2;rw [h3];rw [Ma.aB] at hl;have:=ZR h2 gx (by omega) hA;unfold nu;rw [eC,eC];exact this
end
theorem kd.calls {f:FuncId} {args:Array Value} {c0:dA} {Pb:List Nat->Bool} {w:World} (h:Calls Tryz.prog f args w (kd ck c0 Pb w)):Calls Tryz.prog f args w fun e w'=>∃ a m c k,e=.returned (.tuple #[.slice a m c,.int .i64 k])/\kd ck c0 Pb w (.returned (.tuple #[.slice a m c,.int .i64 k])) w'/\BE w w' :=
 h.mono fun e w' hr=>by
  obtain ⟨a,m,c,k,rfl⟩:=hr.sh;exact ⟨a,m,c,k,rfl,hr,hr.1⟩
theorem gM.calls {f:FuncId} {args:Array Value} {c0:dA} {Pb:List Nat->Bool} {w:World} (h:Calls Tryz.prog f args w (gM ck c0 Pb w)):Calls Tryz.prog f args w fun e w'=>∃ i oa on oc ra rn rc k,e=.returned (.tuple #[.agg #[.int .i64 i,.slice oa on oc,.slice ra rn rc],.int .i64 k])/\gM ck c0 Pb w (.returned (.tuple #[.agg #[.int .i64 i,.slice oa on oc,.slice ra rn rc],.int .i64 k])) w'/\BE w w' :=
 h.mono fun e w' hr=>by
  obtain ⟨i,oa,on,oc,ra,rn,rc,k,rfl⟩:=hr.sh;exact ⟨i,oa,on,oc,ra,rn,rc,k,rfl,hr,hr.1⟩

theorem LG (args:Array Value) (w:World):(callFunc 80 args).run Tryz.prog w=.ok (.enter 80 args) w:=by kernel_rfl
theorem xy (b o:Nat) (w:World):(Instr.fieldAt 25 (.pointer (some ⟨b,o,none⟩)) 0).run Tryz.prog w=.ok (.pointer (some ⟨b,o,none⟩)) w:=by kernel_rfl
noncomputable def lh (n:Int) (CS:List dA) (PS:List (List Int)):Int :=
 if hU CS≠0 then hU CS else if Ma.df PS≠0 then Ma.df PS else if (CS.any fun c=>decide (c.1≠n))=true∨(PS.any fun x=>decide ((x.length:Int)≠n))=true then 10 else 0
theorem xz {α:Type} {l:List α} {p:α->Bool} {k:Nat} (hk:k<l.length) (h:p l[k]=true):l.any p=true:=List.any_eq_true.2 ⟨_,List.getElem_mem hk,h⟩
theorem vX {α:Type} {l:List α} {p:α->Bool} (h:∀ i (hi:i<l.length),p l[i]=false):¬ l.any p=true:=fun hc=>by
 obtain ⟨x,hx,hp⟩:=List.any_eq_true.1 hc;obtain ⟨i,hi,rfl⟩:=List.getElem_of_mem hx;rw [h i hi] at hp
 cases hp
theorem nX {b cc:Nat} {CS:List dA} {AK:Value} {w:World} (hC:mU b CS w) (h1:1<=CS.length) (mh:CS.length<=100) (hP:Rg.Rows w AK PS) (qt:PS.length<=100) :
  Calls Tryz.prog 53 #[.slice (some ⟨b,0,none⟩) CS.length cc,AK] w fun e w'=>e=.returned (.int .i64 (lh (CS[0]'(by omega)).1 CS PS))/\BE w w':=by
 obtain ⟨pa,pc,rfl,-⟩:=hP.shape;obtain ⟨n,sY⟩:∃ n,Hid ((CS[0]'(by omega)).1=n):=⟨_,U rfl⟩;rw [sY.u];obtain ⟨G,hG⟩:∃ z,Hid (lh n CS PS=z):=⟨_,U rfl⟩;rw [hG.u];have HC:=U hC;have RP:=U (gJ.mk hP);obtain ⟨oa,on,oc,ra,rn,rc,q0,q1,q2,q3⟩:=hC.at_ 0 h1;have CN:=U (show CL w b (0*3) (.int .i64 n) from CL.mk (by rw [q0,sY.u]) hC.lt);have K:=U (bi w);clear hC hP q0 q1 q2 q3 oa on oc ra rn rc
 go_enter Tryz.func53,Tryz.ntmps53
 go_upto_region 0 with fail;refine c6<|j7 rfl ?_;go_frame;go_upto_region 1 with fail;refine c6<|j7 rfl ?_;go_frame;have KL:=U (bi w);have fV:=U (show hU (CS.drop 0)=hU CS from rfl);go_wp2
 go_loopw [5] (fun iv wr=>∃ k:Nat,iv=.int .i64 ((k:Nat):Int)/\k<=CS.length/\Hid (hU (CS.drop k)=hU CS)/\Hid (BE w wr)) (fun iv _=>CS.length - (intOf iv).toNat)
 case atStart=>exact ⟨0,rfl,Nat.zero_le _,fV,KL⟩
 case round =>
  clear fV KL;obtain ⟨k,rfl,hk,HA,KL⟩:=hrel;generalize wr=wA at *;replace HC:=U (HC.u.p KL.u);replace RP:=U (RP.u.p KL.u);replace CN:=U (CN.u.p KL.u)
  by_cases az:k<CS.length
  case pos =>
   skip;go_upto_region 2 with fail;refine c6<|j7 rfl<|j8 rfl<|k8 (g9 Tryz.underlying71)<|k8 (g8 (.bool true) .lss (h:=aI _ f7)) ?_;go_frame;obtain ⟨oa,on,oc,ra,rn,rc,q0,q1,q2,q3⟩:=HC.u.at_ k az;obtain ⟨m,hm⟩:∃ m,Hid (CS[k].1=m):=⟨_,U rfl⟩;rw [hm.u] at q0;have sG:=jA q0 q1 q2;have CE:=U q3;obtain ⟨ck,dI⟩:∃ c,Hid (bI m CS[k].2.1 CS[k].2.2=c):=⟨_,U rfl⟩;clear q0 q1 q2 q3;go_upto_region 4 with fail;refine c6<|j8 rfl<|j7 rfl<|k8 (bn _ _ rfl Tryz.underlying71 fU b (CS.length) (cc) (k) rfl rfl (by omega))<|k8 (Rg.eK (v:=(.agg #[.int .i64 m,.slice oa on oc,.slice ra rn rc])) _ _ rfl ⟨b,k*3,none⟩ rfl sG) ?_;go_frame;refine f4 21 (aA 80 _ _ rfl rfl (LG _ _)) ?_;refine (qZ CE.u).mono ?_;rintro e1 gA ⟨rfl,hb⟩;rw [dI.u];refine ⟨_,rfl,?_⟩;go_frame;replace HC:=U (HC.u.p hb);replace RP:=U (RP.u.p hb);replace CN:=U (CN.u.p hb);replace CE:=U (CE.u.p hb);replace KL:=U (Rg.acc KL.u hb);clear hb;refine j7 rfl ?_;go_frame;clear sG;have rm:=U (show bI CS[k].1 CS[k].2.1 CS[k].2.2=ck by rw [hm.u]; exact dI.u)
   by_cases hz:ck=0
   case neg =>
    have HX:=U (show ck=G by
     rw [<- hG.u];unfold lh
     have e1:hU CS=ck:=by rw [<- HA.u,I4 az (by rw [rm.u]; exact hz),rm.u]
     rw [if_pos (by rw [e1]; exact hz),e1])
    go_upto_region 5 with fail;refine c6<|j7 rfl<|k8 (g8 (.bool true) .neq (h:=aE _ (decide_eq_true hz))) ?_;go_frame;go_upto_region 6 with fail;refine c6<|j7 rfl<|j7 rfl ?_;go_frame;go_wp2;go_ret;exact ⟨by rw [<- HX.u]; rfl,K.u.trans (KL.u.mono K.u.size)⟩
   case pos =>
    subst hz;have fC:=U ((Dt az rm.u).symm.trans HA.u);go_upto_region 5 with fail;refine c6<|j7 rfl<|k8 (g8 (.bool false) .neq (h:=aE _ f8)) ?_;go_frame;go_upto_region 3 with fail;refine c6<|j7 rfl<|k8 (g8 (.int .i64 (((k+1):Nat):Int)) .add (h:=bD _ (by omega) (by omega)))<|j7 rfl ?_;go_frame;clear HA CE rm dI;go_wp2;go_roundw
    case rel=>exact ⟨k+1,by go_num,az,fC,KL⟩
    case measure=>simp [intOf]; omega
  obtain rfl:k=CS.length:=by omega
  have mz:=U (show hU CS=0 by rw [<- HA.u,List.drop_length]; rfl);replace K:=U (K.u.trans (KL.u.mono K.u.size));clear HA KL;go_upto_region 2 with fail;refine c6<|j7 rfl<|j8 rfl<|k8 (g9 Tryz.underlying71)<|k8 (g8 (.bool false) .lss (h:=aI _ f8)) ?_;go_frame;go_upto_region 7 with fail;refine c6<|j7 rfl ?_;go_frame;have KL:=U (bi wA);have fV:=U (show Ma.df (PS.drop 0)=Ma.df PS from rfl);go_wp2
  go_loopw [7] (fun iv wr=>∃ k:Nat,iv=.int .i64 ((k:Nat):Int)/\k<=PS.length/\Hid (Ma.df (PS.drop k)=Ma.df PS)/\Hid (BE wA wr)) (fun iv _=>PS.length - (intOf iv).toNat)
  case atStart=>exact ⟨0,rfl,Nat.zero_le _,fV,KL⟩
  case round =>
   clear fV KL;obtain ⟨k,rfl,hk,HA,KL⟩:=hrel;generalize wr=wB at *;replace HC:=U (HC.u.p KL.u);replace RP:=U (RP.u.p KL.u);replace CN:=U (CN.u.p KL.u)
   by_cases az:k<PS.length
   case pos =>
    obtain ⟨lb,lo,_,_,e1,bZ,dp,cA⟩:=fQ RP.u.r (i:=k) az;subst e1;obtain ⟨pm,xa,xc,kl,dG,-⟩:=cA.len;rw [dG] at dp cA;have CX:=U (CL.mk dp bZ);have NX:=U (dM.mk cA);obtain ⟨ck,dI⟩:∃ c,Hid (Ma.bY PS[k]=c):=⟨_,U rfl⟩;clear bZ dp cA kl dG;go_upto_region 8 with fail;refine c6<|j7 rfl<|j8 rfl<|k8 (g9 Tryz.underlying41)<|k8 (g8 (.bool true) .lss (h:=aI _ f7)) ?_;go_frame;go_upto_region 10 with fail;refine c6<|j8 rfl<|j7 rfl<|k8 (ag aM _ _ rfl lb (lo) (PS.length) pc (k) rfl rfl (by omega))<|k8 (g7 (.slice xa pm xc) ⟨lb,lo+k,none⟩ (Rg.ae _ _ Tryz.underlying27 CX.u.cell)) ?_;go_frame;refine f4 35 (aA 81 _ _ rfl rfl (Eh _ _)) ?_;refine (gT _ _ wB NX.u.i).mono ?_;rintro e1 fj ⟨rfl,hb⟩;rw [dI.u];refine ⟨_,rfl,?_⟩;go_frame;replace HC:=U (HC.u.p hb);replace RP:=U (RP.u.p hb);replace CN:=U (CN.u.p hb);replace CX:=U (CX.u.p hb);replace NX:=U (NX.u.p hb);replace KL:=U (Rg.acc KL.u hb);clear hb;refine j7 rfl ?_;go_frame
    by_cases hz:ck=0
    case neg =>
     have HX:=U (show ck=G by
      rw [<- hG.u];unfold lh
      have e1:Ma.df PS=ck:=by rw [<- HA.u,Ma.wx az (by rw [dI.u]; exact hz),dI.u]
      rw [if_neg (fun h=>h mz.u),if_pos (by rw [e1]; exact hz),e1])
     go_upto_region 11 with fail;refine c6<|j7 rfl<|k8 (g8 (.bool true) .neq (h:=aE _ (decide_eq_true hz))) ?_;go_frame;go_upto_region 12 with fail;refine c6<|j7 rfl<|j7 rfl ?_;go_frame;go_wp2;go_ret;exact ⟨by rw [<- HX.u]; rfl,K.u.trans (KL.u.mono K.u.size)⟩
    case pos =>
     subst hz;have fC:=U ((Ma.sW az dI.u).symm.trans HA.u);go_upto_region 11 with fail;refine c6<|j7 rfl<|k8 (g8 (.bool false) .neq (h:=aE _ f8)) ?_;go_frame;go_upto_region 9 with fail;refine c6<|j7 rfl<|k8 (g8 (.int .i64 (((k+1):Nat):Int)) .add (h:=bD _ (by omega) (by omega)))<|j7 rfl ?_;go_frame;clear HA CX NX dI;go_wp2;go_roundw
     case rel=>exact ⟨k+1,by go_num,az,fC,KL⟩
     case measure=>simp [intOf]; omega
   obtain rfl:k=PS.length:=by omega
   have yP:=U (show Ma.df PS=0 by rw [<- HA.u,List.drop_length]; rfl);replace K:=U (K.u.trans (KL.u.mono K.u.size));clear HA KL;go_upto_region 8 with fail;refine c6<|j7 rfl<|j8 rfl<|k8 (g9 Tryz.underlying41)<|k8 (g8 (.bool false) .lss (h:=aI _ f8)) ?_;go_frame;go_upto_region 13 with fail;refine c6<|j7 rfl ?_;go_frame;have KL:=U (bi wB);have fV:=U (show ∀ i (h:i<CS.length),i<0->CS[i].1=n from fun i _ h=>absurd h (Nat.not_lt_zero _));go_wp2
   go_loopw [9] (fun iv wr=>∃ k:Nat,iv=.int .i64 ((k:Nat):Int)/\k<=CS.length/\Hid (∀ i (h:i<CS.length),i<k->CS[i].1=n)/\Hid (BE wB wr)) (fun iv _=>CS.length - (intOf iv).toNat)
   case atStart=>exact ⟨0,rfl,Nat.zero_le _,fV,KL⟩
   case round =>
    clear fV KL;obtain ⟨k,rfl,hk,HA,KL⟩:=hrel;generalize wr=wC at *;replace HC:=U (HC.u.p KL.u);replace RP:=U (RP.u.p KL.u);replace CN:=U (CN.u.p KL.u)
    by_cases az:k<CS.length
    case pos =>
     obtain ⟨oa,on,oc,ra,rn,rc,q0,q1,q2,q3⟩:=HC.u.at_ k az;obtain ⟨m,hm⟩:∃ m,Hid (CS[k].1=m):=⟨_,U rfl⟩;rw [hm.u] at q0;have CM:=U (CL.mk q0 HC.u.lt);clear q0 q1 q2 q3 oa on oc ra rn rc;go_upto_region 14 with fail;refine c6<|j7 rfl<|j8 rfl<|k8 (g9 Tryz.underlying71)<|k8 (g8 (.bool true) .lss (h:=aI _ f7)) ?_;go_frame
     by_cases hz:m=n
     case neg =>
      skip;go_upto_region 16 with fail;have aj:BE wC wC.drew:=(Below.refl _ _).drew;replace HC:=U (HC.u.p aj);replace RP:=U (RP.u.p aj);replace CN:=U (CN.u.p aj);replace CM:=U (CM.u.p aj);replace KL:=U (Rg.acc KL.u aj);clear aj;refine Rg.Any.begin (S:=Rg.aK 9 (fun _=>True) (fun W=>Below wC.drew.heap.size wC.drew W)) mix ?_;generalize wC.drew=LH at *;have hS:∀ (l:Array Bool) W,BE LH W->Rg.aK 9 (fun _=>True) (fun W=>BE LH W) l W:=fun l W h=>⟨.inr trivial,h⟩;have hI:BE LH LH:=Below.refl _ _;refine d8 0 9 (.slice (some ⟨b,0,none⟩) CS.length cc) 45 (hS _ _ hI)<|d8 1 9 (.int .i64 (k:Int)) 46 (hS _ _ hI)<|d7 2 9 (.pointer (some ⟨b,k*3,none⟩)) 47 rfl rfl (j3 fun w=>bn _ _ rfl Tryz.underlying71 fU b (CS.length) (cc) (k) rfl rfl (by omega)) (hS _ _ hI)<|d7 3 9 (.pointer (some ⟨b,k*3,none⟩)) 48 rfl rfl (j3 fun w=>aw _ rfl rfl (xy _ _ _)) (hS _ _ hI)<|d7 4 9 (.int .i64 m) 49 rfl rfl (j2 ⟨b,k*3,none⟩ (fun W hW=>af ((Below.cell (p:=⟨b,k*3,none⟩) hW CM.u.lt).trans CM.u.cell))) (hS _ _ hI) ?_;go_frame;refine d8 5 9 (.slice (some ⟨b,0,none⟩) CS.length cc) 50 (hS _ _ hI)<|d7 6 9 (.pointer (some ⟨b,0*3,none⟩)) 51 rfl rfl (j3 fun w=>bn _ _ rfl Tryz.underlying71 fU b (CS.length) (cc) (0) rfl rfl (by omega)) (hS _ _ hI)<|d7 7 9 (.pointer (some ⟨b,0*3,none⟩)) 52 rfl rfl (j3 fun w=>aw _ rfl rfl (xy _ _ _)) (hS _ _ hI)<|d7 8 9 (.int .i64 n) 53 rfl rfl (j2 ⟨b,0*3,none⟩ (fun W hW=>af ((Below.cell (p:=⟨b,0*3,none⟩) hW CN.u.lt).trans CN.u.cell))) (hS _ _ hI)<|j1 9 54 rfl rfl (g8 (.bool true) .neq (h:=aE _ (decide_eq_true hz))) (hS _ _ hI) ?_;go_frame
      refine Rg.Any.done (by kernel_rfl) ?_ _;clear hS hI;go_upto_region 17 with fail;refine c6<|j7 rfl ?_;go_frame
      have HX:=U (show (10:Int)=G by
       rw [<- hG.u];unfold lh
       rw [if_neg (fun h=>h mz.u),if_neg (fun h=>h yP.u),if_pos (.inl (xz az (by rw [hm.u]; exact decide_eq_true hz)))])
      go_wp2;go_ret;exact ⟨by rw [<- HX.u]; rfl,K.u.trans (KL.u.mono K.u.size)⟩
     case pos =>
      subst hz;skip;go_upto_region 16 with fail;have aj:BE wC wC.drew:=(Below.refl _ _).drew;replace HC:=U (HC.u.p aj);replace RP:=U (RP.u.p aj);replace CN:=U (CN.u.p aj);replace CM:=U (CM.u.p aj);replace KL:=U (Rg.acc KL.u aj);clear aj;refine Rg.Any.begin (S:=Rg.aK 9 (fun _=>True) (fun W=>Below wC.drew.heap.size wC.drew W)) mix ?_;generalize wC.drew=Hd at *;have hS:∀ (l:Array Bool) W,BE Hd W->Rg.aK 9 (fun _=>True) (fun W=>BE Hd W) l W:=fun l W h=>⟨.inr trivial,h⟩;have hI:BE Hd Hd:=Below.refl _ _;refine d8 0 9 (.slice (some ⟨b,0,none⟩) CS.length cc) 45 (hS _ _ hI)<|d8 1 9 (.int .i64 (k:Int)) 46 (hS _ _ hI)<|d7 2 9 (.pointer (some ⟨b,k*3,none⟩)) 47 rfl rfl (j3 fun w=>bn _ _ rfl Tryz.underlying71 fU b (CS.length) (cc) (k) rfl rfl (by omega)) (hS _ _ hI)<|d7 3 9 (.pointer (some ⟨b,k*3,none⟩)) 48 rfl rfl (j3 fun w=>aw _ rfl rfl (xy _ _ _)) (hS _ _ hI)<|d7 4 9 (.int .i64 m) 49 rfl rfl (j2 ⟨b,k*3,none⟩ (fun W hW=>af ((Below.cell (p:=⟨b,k*3,none⟩) hW CM.u.lt).trans CM.u.cell))) (hS _ _ hI) ?_;go_frame;refine d8 5 9 (.slice (some ⟨b,0,none⟩) CS.length cc) 50 (hS _ _ hI)<|d7 6 9 (.pointer (some ⟨b,0*3,none⟩)) 51 rfl rfl (j3 fun w=>bn _ _ rfl Tryz.underlying71 fU b (CS.length) (cc) (0) rfl rfl (by omega)) (hS _ _ hI)<|d7 7 9 (.pointer (some ⟨b,0*3,none⟩)) 52 rfl rfl (j3 fun w=>aw _ rfl rfl (xy _ _ _)) (hS _ _ hI)<|d7 8 9 (.int .i64 m) 53 rfl rfl (j2 ⟨b,0*3,none⟩ (fun W hW=>af ((Below.cell (p:=⟨b,0*3,none⟩) hW CN.u.lt).trans CN.u.cell))) (hS _ _ hI)<|j1 9 54 rfl rfl (g8 (.bool false) .neq (h:=aE _ f8)) (hS _ _ hI) ?_;go_frame
      refine Rg.Any.done (by kernel_rfl) ?_ _;clear hS hI;go_upto_region 15 with fail;refine c6<|j7 rfl<|k8 (g8 (.int .i64 (((k+1):Nat):Int)) .add (h:=bD _ (by omega) (by omega)))<|j7 rfl ?_;go_frame
      have fC:=U (show ∀ i (h:i<CS.length),i<k+1->CS[i].1=m from fun i h hi=>by
       by_cases e:i=k
       ·subst e; exact hm.u
       ·exact HA.u i h (by omega))
      clear HA CM;go_wp2;go_roundw
      case rel=>exact ⟨k+1,by go_num,az,fC,KL⟩
      case measure=>simp [intOf]; omega
    obtain rfl:k=CS.length:=by omega
    have HD0:=U (show ¬ (CS.any fun c=>decide (c.1≠n))=true from vX fun i hi=>decide_eq_false (by rw [HA.u i hi hi]; exact fun h=>h rfl));replace K:=U (K.u.trans (KL.u.mono K.u.size));clear HA KL;go_upto_region 14 with fail;refine c6<|j7 rfl<|j8 rfl<|k8 (g9 Tryz.underlying71)<|k8 (g8 (.bool false) .lss (h:=aI _ f8)) ?_;go_frame;go_upto_region 18 with fail;refine c6<|j7 rfl ?_;go_frame;have KL:=U (bi wC);have fV:=U (show ∀ i (h:i<PS.length),i<0->(PS[i].length:Int)=n from fun i _ h=>absurd h (Nat.not_lt_zero _));go_wp2
    go_loopw [10] (fun iv wr=>∃ k:Nat,iv=.int .i64 ((k:Nat):Int)/\k<=PS.length/\Hid (∀ i (h:i<PS.length),i<k->(PS[i].length:Int)=n)/\Hid (BE wC wr)) (fun iv _=>PS.length - (intOf iv).toNat)
    case atStart=>exact ⟨0,rfl,Nat.zero_le _,fV,KL⟩
    case round =>
     clear fV KL;obtain ⟨k,rfl,hk,HA,KL⟩:=hrel;generalize wr=wD at *;replace HC:=U (HC.u.p KL.u);replace RP:=U (RP.u.p KL.u);replace CN:=U (CN.u.p KL.u)
     by_cases az:k<PS.length
     case pos =>
      obtain ⟨lb,lo,_,_,e1,bZ,dp,cA⟩:=fQ RP.u.r (i:=k) az;subst e1;obtain ⟨pm,xa,xc,kl,dG,-⟩:=cA.len;rw [dG] at dp;have CX:=U (CL.mk dp bZ);have SF:=U kl;clear bZ dp cA kl dG;go_upto_region 19 with fail;refine c6<|j7 rfl<|j8 rfl<|k8 (g9 Tryz.underlying41)<|k8 (g8 (.bool true) .lss (h:=aI _ f7)) ?_;go_frame
      by_cases hz:(pm:Int)=n
      case neg =>
       skip;go_upto_region 21 with fail;have aj:BE wD wD.drew:=(Below.refl _ _).drew;replace HC:=U (HC.u.p aj);replace RP:=U (RP.u.p aj);replace CN:=U (CN.u.p aj);replace CX:=U (CX.u.p aj);replace KL:=U (Rg.acc KL.u aj);clear aj;refine Rg.Any.begin (S:=Rg.aK 9 (fun _=>True) (fun W=>Below wD.drew.heap.size wD.drew W)) mix ?_;generalize wD.drew=sU at *;have hS:∀ (l:Array Bool) W,BE sU W->Rg.aK 9 (fun _=>True) (fun W=>BE sU W) l W:=fun l W h=>⟨.inr trivial,h⟩;have hI:BE sU sU:=Below.refl _ _;refine d8 0 9 (.slice (some ⟨lb,lo,none⟩) PS.length pc) 61 (hS _ _ hI)<|d8 1 9 (.int .i64 (k:Int)) 62 (hS _ _ hI)<|d7 2 9 (.pointer (some ⟨lb,lo+k,none⟩)) 63 rfl rfl (Rg.ai aM _ _ rfl rfl lb (lo) (PS.length) pc (k) rfl rfl (by omega)) (hS _ _ hI)<|d7 3 9 (.slice xa pm xc) 64 rfl rfl (j2 ⟨lb,lo+k,none⟩ (fun W hW=>Rg.ae _ _ Tryz.underlying27 ((Below.cell (p:=⟨lb,lo+k,none⟩) hW CX.u.lt).trans CX.u.cell))) (hS _ _ hI)<|d7 4 9 (.int .i64 (pm:Int)) 65 rfl rfl (j3 fun w=>ee _ _ _ rfl Tryz.underlying27 _ _ _ rfl) (hS _ _ hI) ?_;go_frame;refine d8 5 9 (.slice (some ⟨b,0,none⟩) CS.length cc) 66 (hS _ _ hI)<|d7 6 9 (.pointer (some ⟨b,0*3,none⟩)) 67 rfl rfl (j3 fun w=>bn _ _ rfl Tryz.underlying71 fU b (CS.length) (cc) (0) rfl rfl (by omega)) (hS _ _ hI)<|d7 7 9 (.pointer (some ⟨b,0*3,none⟩)) 68 rfl rfl (j3 fun w=>aw _ rfl rfl (xy _ _ _)) (hS _ _ hI)<|d7 8 9 (.int .i64 n) 69 rfl rfl (j2 ⟨b,0*3,none⟩ (fun W hW=>af ((Below.cell (p:=⟨b,0*3,none⟩) hW CN.u.lt).trans CN.u.cell))) (hS _ _ hI)<|j1 9 70 rfl rfl (g8 (.bool true) .neq (h:=aE _ (decide_eq_true hz))) (hS _ _ hI) ?_;go_frame
       refine Rg.Any.done (by kernel_rfl) ?_ _;clear hS hI;go_upto_region 22 with fail;refine c6<|j7 rfl ?_;go_frame
       have HX:=U (show (10:Int)=G by
        rw [<- hG.u];unfold lh
        rw [if_neg (fun h=>h mz.u),if_neg (fun h=>h yP.u),if_pos (.inr (xz az (by rw [SF.u]; exact decide_eq_true hz)))])
       go_wp2;go_ret;exact ⟨by rw [<- HX.u]; rfl,K.u.trans (KL.u.mono K.u.size)⟩
      case pos =>
       skip;go_upto_region 21 with fail;have aj:BE wD wD.drew:=(Below.refl _ _).drew;replace HC:=U (HC.u.p aj);replace RP:=U (RP.u.p aj);replace CN:=U (CN.u.p aj);replace CX:=U (CX.u.p aj);replace KL:=U (Rg.acc KL.u aj);clear aj;refine Rg.Any.begin (S:=Rg.aK 9 (fun _=>True) (fun W=>Below wD.drew.heap.size wD.drew W)) mix ?_;generalize wD.drew=AW at *;have hS:∀ (l:Array Bool) W,BE AW W->Rg.aK 9 (fun _=>True) (fun W=>BE AW W) l W:=fun l W h=>⟨.inr trivial,h⟩;have hI:BE AW AW:=Below.refl _ _;refine d8 0 9 (.slice (some ⟨lb,lo,none⟩) PS.length pc) 61 (hS _ _ hI)<|d8 1 9 (.int .i64 (k:Int)) 62 (hS _ _ hI)<|d7 2 9 (.pointer (some ⟨lb,lo+k,none⟩)) 63 rfl rfl (Rg.ai aM _ _ rfl rfl lb (lo) (PS.length) pc (k) rfl rfl (by omega)) (hS _ _ hI)<|d7 3 9 (.slice xa pm xc) 64 rfl rfl (j2 ⟨lb,lo+k,none⟩ (fun W hW=>Rg.ae _ _ Tryz.underlying27 ((Below.cell (p:=⟨lb,lo+k,none⟩) hW CX.u.lt).trans CX.u.cell))) (hS _ _ hI)<|d7 4 9 (.int .i64 (pm:Int)) 65 rfl rfl (j3 fun w=>ee _ _ _ rfl Tryz.underlying27 _ _ _ rfl) (hS _ _ hI) ?_;go_frame;refine d8 5 9 (.slice (some ⟨b,0,none⟩) CS.length cc) 66 (hS _ _ hI)<|d7 6 9 (.pointer (some ⟨b,0*3,none⟩)) 67 rfl rfl (j3 fun w=>bn _ _ rfl Tryz.underlying71 fU b (CS.length) (cc) (0) rfl rfl (by omega)) (hS _ _ hI)<|d7 7 9 (.pointer (some ⟨b,0*3,none⟩)) 68 rfl rfl (j3 fun w=>aw _ rfl rfl (xy _ _ _)) (hS _ _ hI)<|d7 8 9 (.int .i64 n) 69 rfl rfl (j2 ⟨b,0*3,none⟩ (fun W hW=>af ((Below.cell (p:=⟨b,0*3,none⟩) hW CN.u.lt).trans CN.u.cell))) (hS _ _ hI)<|j1 9 70 rfl rfl (g8 (.bool false) .neq (h:=aE _ (decide_eq_false (fun h=>h hz)))) (hS _ _ hI) ?_;go_frame
       refine Rg.Any.done (by kernel_rfl) ?_ _;clear hS hI;go_upto_region 20 with fail;refine c6<|j7 rfl<|k8 (g8 (.int .i64 (((k+1):Nat):Int)) .add (h:=bD _ (by omega) (by omega)))<|j7 rfl ?_;go_frame
       have fC:=U (show ∀ i (h:i<PS.length),i<k+1->(PS[i].length:Int)=n from fun i h hi=>by
        by_cases e:i=k
        ·subst e; rw [SF.u]; exact hz
        ·exact HA.u i h (by omega))
       clear HA CX;go_wp2;go_roundw
       case rel=>exact ⟨k+1,by go_num,az,fC,KL⟩
       case measure=>simp [intOf]; omega
     obtain rfl:k=PS.length:=by omega
     have HX:=U (show (0:Int)=G by
      rw [<- hG.u];unfold lh
      rw [if_neg (fun h=>h mz.u),if_neg (fun h=>h yP.u),if_neg (fun h=>h.elim HD0.u (vX fun i hi=>decide_eq_false (by rw [HA.u i hi hi]; exact fun h=>h rfl)))])
     replace K:=U (K.u.trans (KL.u.mono K.u.size));clear HA KL;go_upto_region 19 with fail;refine c6<|j7 rfl<|j8 rfl<|k8 (g9 Tryz.underlying41)<|k8 (g8 (.bool false) .lss (h:=aI _ f8)) ?_;go_frame;go_upto_region 23 with fail;refine c6<|j7 rfl ?_;go_frame;go_wp2;go_ret;exact ⟨by rw [<- HX.u]; rfl,K.u⟩

theorem vY {n:Int} {s:List Int} {k:Nat} (hk:k<s.length) (h:dv n s[k]=true):s.any (dv n)=true:=xz hk h
theorem Jg {n:Int} {sv:Value} {s:List Int} {w:World} (hx:Rg.Ints w sv s) :
  Calls Tryz.prog 61 #[.int .i64 n,sv] w fun e w'=>e=.returned (.int .i64 (iO n s))/\BE w w':=by
 obtain ⟨G,hG⟩:∃ z,Hid (iO n s=z):=⟨_,U rfl⟩;rw [hG.u];have K:=U (bi w);obtain ⟨m,sa,sc,hm,rfl,-⟩:=hx.len;rw [<- hm] at hx;rw [<- hm];have NX:=U (dM.mk hx);clear hx hm
 go_enter Tryz.func61,Tryz.ntmps61
 go_upto_region 0 with fail;refine c6<|j7 rfl ?_;go_frame
 by_cases uC:64<s.length
 case pos =>
  skip;go_upto_region 1 with fail;refine c6<|j8 rfl<|k8 (g9 Tryz.underlying26)<|k8 (g8 (.bool true) .gtr (h:=bA _ f7)) ?_;go_frame;go_upto_region 2 with fail;refine c6<|j7 rfl ?_;go_frame;have HX:=U (show (4:Int)=G by rw [<- hG.u]; unfold iO; rw [if_pos uC]);go_wp2;go_ret;exact ⟨by rw [<- HX.u]; rfl,K.u⟩
 case neg =>
  skip;go_upto_region 1 with fail;refine c6<|j8 rfl<|k8 (g9 Tryz.underlying26)<|k8 (g8 (.bool false) .gtr (h:=bA _ f8)) ?_;go_frame;go_upto_region 3 with fail;refine c6<|j7 rfl ?_;go_frame;have KL:=U (bi w);have fV:=U (show ∀ i (h:i<s.length),i<0->dv n s[i]=false from fun i _ h=>absurd h (Nat.not_lt_zero _));go_wp2
  go_loopw [5] (fun iv wr=>∃ k:Nat,iv=.int .i64 ((k:Nat):Int)/\k<=s.length/\Hid (∀ i (h:i<s.length),i<k->dv n s[i]=false)/\Hid (BE w wr)) (fun iv _=>s.length - (intOf iv).toNat)
  case atStart=>exact ⟨0,rfl,by omega,fV,KL⟩
  case round =>
   clear fV KL;obtain ⟨k,rfl,hk,HA,KL⟩:=hrel;generalize wr=wA at *;replace NX:=U (NX.u.p KL.u)
   by_cases az:k<s.length
   case pos =>
    obtain ⟨lb,lo,e1,hb,hc⟩:=l7 NX.u.i az;subst e1;obtain ⟨x,hx⟩:∃ x,Hid (s[k]=x):=⟨_,U rfl⟩;rw [hx.u] at hc;have CX:=U (CL.mk hc hb);clear hb hc;go_upto_region 4 with fail;refine c6<|j7 rfl<|j8 rfl<|k8 (g9 Tryz.underlying26)<|k8 (g8 (.bool true) .lss (h:=aI _ f7)) ?_;go_frame
    by_cases AX:x<0
    case pos =>
     skip;go_upto_region 6 with fail;refine c6<|j8 rfl<|j7 rfl<|k8 (ag aQ _ _ rfl lb (lo) (s.length) sc (k) rfl rfl (by omega))<|k8 (g7 (.int .i64 x) ⟨lb,lo+k,none⟩ (af CX.u.cell)) ?_;go_frame;refine k8 (g8 (.bool true) .lss (h:=aI _ (decide_eq_true AX)))<|k7 rfl<|f9 21<|f9 22<|f9 23 ?_;go_frame;refine f9 24<|f9 25<|f9 26<|k8 (i8 (.bool true)) ?_;go_frame;go_upto_region 7 with fail;refine c6<|j7 rfl ?_;go_frame
     have ho:dv n x=true:=by unfold dv; simp; omega
     have HX:=U (show (2:Int)=G by rw [<- hG.u]; unfold iO; rw [if_neg uC,if_pos (vY az (by rw [hx.u]; exact ho))]);go_wp2;go_ret;exact ⟨by rw [<- HX.u]; rfl,K.u.trans (KL.u.mono K.u.size)⟩
    case neg =>
     by_cases uK:n<=x
     case pos =>
      skip;go_upto_region 6 with fail;refine c6<|j8 rfl<|j7 rfl<|k8 (ag aQ _ _ rfl lb (lo) (s.length) sc (k) rfl rfl (by omega))<|k8 (g7 (.int .i64 x) ⟨lb,lo+k,none⟩ (af CX.u.cell)) ?_;go_frame;refine k8 (g8 (.bool false) .lss (h:=aI _ (decide_eq_false AX)))<|k7 rfl<|j8 rfl<|j7 rfl<|k8 (ag aQ _ _ rfl lb (lo) (s.length) sc (k) rfl rfl (by omega)) ?_;go_frame;refine k8 (g7 (.int .i64 x) ⟨lb,lo+k,none⟩ (af CX.u.cell))<|j7 rfl<|k8 (g8 (.bool true) .geq (h:=nG _ (decide_eq_true uK)))<|k8 (i7 (.bool true)) ?_;go_frame;go_upto_region 7 with fail;refine c6<|j7 rfl ?_;go_frame
      have ho:dv n x=true:=by unfold dv; simp; omega
      have HX:=U (show (2:Int)=G by rw [<- hG.u]; unfold iO; rw [if_neg uC,if_pos (vY az (by rw [hx.u]; exact ho))]);go_wp2;go_ret;exact ⟨by rw [<- HX.u]; rfl,K.u.trans (KL.u.mono K.u.size)⟩
     case neg =>
      have ho:dv n x=false:=by unfold dv; simp; omega
      go_upto_region 6 with fail;refine c6<|j8 rfl<|j7 rfl<|k8 (ag aQ _ _ rfl lb (lo) (s.length) sc (k) rfl rfl (by omega))<|k8 (g7 (.int .i64 x) ⟨lb,lo+k,none⟩ (af CX.u.cell)) ?_;go_frame;refine k8 (g8 (.bool false) .lss (h:=aI _ (decide_eq_false AX)))<|k7 rfl<|j8 rfl<|j7 rfl<|k8 (ag aQ _ _ rfl lb (lo) (s.length) sc (k) rfl rfl (by omega)) ?_;go_frame;refine k8 (g7 (.int .i64 x) ⟨lb,lo+k,none⟩ (af CX.u.cell))<|j7 rfl<|k8 (g8 (.bool false) .geq (h:=nG _ (decide_eq_false uK)))<|k8 (i7 (.bool false)) ?_;go_frame;go_upto_region 5 with fail;refine c6<|j7 rfl<|k8 (g8 (.int .i64 (((k+1):Nat):Int)) .add (h:=bD _ (by omega) (by omega)))<|j7 rfl ?_;go_frame
      have fC:=U (show ∀ i (h:i<s.length),i<k+1->dv n s[i]=false from fun i h hi=>by
       by_cases e:i=k
       ·subst e; rw [hx.u]; exact ho
       ·exact HA.u i h (by omega))
      clear HA CX;go_wp2;go_roundw
      case rel=>exact ⟨k+1,by go_num,az,fC,KL⟩
      case measure=>simp [intOf]; omega
   obtain rfl:k=s.length:=by omega
   have HX:=U (show (0:Int)=G by rw [<- hG.u]; unfold iO; rw [if_neg uC,if_neg (vX fun i hi=>HA.u i hi hi)]);replace K:=U (K.u.trans (KL.u.mono K.u.size));clear HA KL;go_upto_region 4 with fail;refine c6<|j7 rfl<|j8 rfl<|k8 (g9 Tryz.underlying26)<|k8 (g8 (.bool false) .lss (h:=aI _ f8)) ?_;go_frame;go_upto_region 8 with fail;refine c6<|j7 rfl ?_;go_frame;go_wp2;go_ret;exact ⟨by rw [<- HX.u]; rfl,K.u⟩
theorem PA {n:Int} {sv:Value} {s:List Int} {w:World} (hx:Rg.Ints w sv s) :
  Calls Tryz.prog 59 #[.int .i64 n,sv] w fun e w'=>e=.returned (.int .i64 (gK n s))/\BE w w':=by
 obtain ⟨G,hG⟩:∃ z,Hid (gK n s=z):=⟨_,U rfl⟩;rw [hG.u];have K:=U (bi w);obtain ⟨m,sa,sc,hm,rfl,hmx⟩:=hx.len;rw [<- hm] at hx hmx;rw [<- hm];have NX:=U (dM.mk hx);clear hx hm
 go_enter Tryz.func59,Tryz.ntmps59
 go_upto_region 0 with fail;refine c6<|j7 rfl ?_;go_frame;go_upto_region 1 with fail;refine c6<|j7 rfl ?_;go_frame;have KL:=U (bi w);have fV:=U (show ∀ i (h:i<s.length),i<0->dv n s[i]=false from fun i _ h=>absurd h (Nat.not_lt_zero _));go_wp2
 go_loopw [5] (fun iv wr=>∃ k:Nat,iv=.int .i64 ((k:Nat):Int)/\k<=s.length/\Hid (∀ i (h:i<s.length),i<k->dv n s[i]=false)/\Hid (BE w wr)) (fun iv _=>s.length - (intOf iv).toNat)
 case atStart=>exact ⟨0,rfl,by omega,fV,KL⟩
 case round =>
  clear fV KL;obtain ⟨k,rfl,hk,HA,KL⟩:=hrel;generalize wr=wA at *;replace NX:=U (NX.u.p KL.u)
  by_cases az:k<s.length
  case pos =>
   obtain ⟨lb,lo,e1,hb,hc⟩:=l7 NX.u.i az;subst e1;obtain ⟨x,hx⟩:∃ x,Hid (s[k]=x):=⟨_,U rfl⟩;rw [hx.u] at hc;have CX:=U (CL.mk hc hb);clear hb hc;go_upto_region 2 with fail;refine c6<|j7 rfl<|j8 rfl<|k8 (g9 Tryz.underlying26)<|k8 (g8 (.bool true) .lss (h:=aI _ f7)) ?_;go_frame
   by_cases AX:x<0
   case pos =>
    skip;go_upto_region 4 with fail;refine c6<|j8 rfl<|j7 rfl<|k8 (ag aQ _ _ rfl lb (lo) (s.length) sc (k) rfl rfl (by omega))<|k8 (g7 (.int .i64 x) ⟨lb,lo+k,none⟩ (af CX.u.cell)) ?_;go_frame;refine k8 (g8 (.bool true) .lss (h:=aI _ (decide_eq_true AX)))<|k7 rfl<|f9 19<|f9 20<|f9 21 ?_;go_frame;refine f9 22<|f9 23<|f9 24<|k8 (i8 (.bool true)) ?_;go_frame;go_upto_region 5 with fail;refine c6<|j7 rfl ?_;go_frame
    have ho:dv n x=true:=by unfold dv; simp; omega
    have HX:=U (show (2:Int)=G by rw [<- hG.u]; unfold gK; rw [if_pos (vY az (by rw [hx.u]; exact ho))]);go_wp2;go_ret;exact ⟨by rw [<- HX.u]; rfl,K.u.trans (KL.u.mono K.u.size)⟩
   case neg =>
    by_cases uK:n<=x
    case pos =>
     skip;go_upto_region 4 with fail;refine c6<|j8 rfl<|j7 rfl<|k8 (ag aQ _ _ rfl lb (lo) (s.length) sc (k) rfl rfl (by omega))<|k8 (g7 (.int .i64 x) ⟨lb,lo+k,none⟩ (af CX.u.cell)) ?_;go_frame;refine k8 (g8 (.bool false) .lss (h:=aI _ (decide_eq_false AX)))<|k7 rfl<|j8 rfl<|j7 rfl<|k8 (ag aQ _ _ rfl lb (lo) (s.length) sc (k) rfl rfl (by omega)) ?_;go_frame;refine k8 (g7 (.int .i64 x) ⟨lb,lo+k,none⟩ (af CX.u.cell))<|j7 rfl<|k8 (g8 (.bool true) .geq (h:=nG _ (decide_eq_true uK)))<|k8 (i7 (.bool true)) ?_;go_frame;go_upto_region 5 with fail;refine c6<|j7 rfl ?_;go_frame
     have ho:dv n x=true:=by unfold dv; simp; omega
     have HX:=U (show (2:Int)=G by rw [<- hG.u]; unfold gK; rw [if_pos (vY az (by rw [hx.u]; exact ho))]);go_wp2;go_ret;exact ⟨by rw [<- HX.u]; rfl,K.u.trans (KL.u.mono K.u.size)⟩
    case neg =>
     have ho:dv n x=false:=by unfold dv; simp; omega
     go_upto_region 4 with fail;refine c6<|j8 rfl<|j7 rfl<|k8 (ag aQ _ _ rfl lb (lo) (s.length) sc (k) rfl rfl (by omega))<|k8 (g7 (.int .i64 x) ⟨lb,lo+k,none⟩ (af CX.u.cell)) ?_;go_frame;refine k8 (g8 (.bool false) .lss (h:=aI _ (decide_eq_false AX)))<|k7 rfl<|j8 rfl<|j7 rfl<|k8 (ag aQ _ _ rfl lb (lo) (s.length) sc (k) rfl rfl (by omega)) ?_;go_frame;refine k8 (g7 (.int .i64 x) ⟨lb,lo+k,none⟩ (af CX.u.cell))<|j7 rfl<|k8 (g8 (.bool false) .geq (h:=nG _ (decide_eq_false uK)))<|k8 (i7 (.bool false)) ?_;go_frame;go_upto_region 3 with fail;refine c6<|j7 rfl<|k8 (g8 (.int .i64 (((k+1):Nat):Int)) .add (h:=bD _ (by omega) (by omega)))<|j7 rfl ?_;go_frame
     have fC:=U (show ∀ i (h:i<s.length),i<k+1->dv n s[i]=false from fun i h hi=>by
      by_cases e:i=k
      ·subst e; rw [hx.u]; exact ho
      ·exact HA.u i h (by omega))
     clear HA CX;go_wp2;go_roundw
     case rel=>exact ⟨k+1,by go_num,az,fC,KL⟩
     case measure=>simp [intOf]; omega
  obtain rfl:k=s.length:=by omega
  have D3:=U (show ¬ s.any (dv n)=true from vX fun i hi=>HA.u i hi hi);replace K:=U (K.u.trans (KL.u.mono K.u.size));clear HA KL;go_upto_region 2 with fail;refine c6<|j7 rfl<|j8 rfl<|k8 (g9 Tryz.underlying26)<|k8 (g8 (.bool false) .lss (h:=aI _ f8)) ?_;go_frame;go_upto_region 6 with fail;refine c6<|j7 rfl ?_;go_frame;have KL:=U (bi wA);have fV:=U (show 1<=1/\∀ i (h:i<s.length),i<1->1<=i->s[i - 1]'(by omega)<s[i] from ⟨Nat.le_refl _,fun i _ h1 h2=>by omega⟩);go_wp2
  go_loopw [6] (fun iv wr=>∃ k:Nat,iv=.int .i64 ((k:Nat):Int)/\Hid (1<=k/\∀ i (h:i<s.length),i<k->1<=i->s[i - 1]'(by omega)<s[i])/\Hid (BE wA wr)) (fun iv _=>s.length - (intOf iv).toNat)
  case atStart=>exact ⟨1,rfl,fV,KL⟩
  case round =>
   clear fV KL;obtain ⟨k,rfl,HA,KL⟩:=hrel;generalize wr=wB at *;replace NX:=U (NX.u.p KL.u);have gO:=HA.u.1
   by_cases az:k<s.length
   case pos =>
    obtain ⟨fW,fX,e1,dh,gI⟩:=l7 NX.u.i az;subst e1;obtain ⟨lb3,lo3,e1,BV,B6⟩:=l7 NX.u.i (k:=k - 1) (by omega);simp only [Option.some.injEq,Addr.mk.injEq,and_true] at e1;obtain ⟨rfl,rfl⟩:=e1;obtain ⟨x,hx⟩:∃ x,Hid (s[k]=x):=⟨_,U rfl⟩;obtain ⟨y,hy⟩:∃ y,Hid (s[k - 1]'(by omega)=y):=⟨_,U rfl⟩;rw [hx.u] at gI;rw [hy.u] at B6;have C2:=U (CL.mk gI dh);have C3:=U (CL.mk B6 BV);have pC:=U (show k - 1<s.length by omega);clear dh gI BV B6;go_upto_region 7 with fail;refine c6<|j7 rfl<|j8 rfl<|k8 (g9 Tryz.underlying26)<|k8 (g8 (.bool true) .lss (h:=aI _ f7)) ?_;go_frame
    by_cases BJ:x<=y
    case pos =>
     skip;go_upto_region 9 with fail;have aj:BE wB wB.drew:=(Below.refl _ _).drew;replace NX:=U (NX.u.p aj);replace C2:=U (C2.u.p aj);replace C3:=U (C3.u.p aj);replace KL:=U (Rg.acc KL.u aj);clear aj;refine Rg.Any.begin (S:=Rg.aK 9 (fun _=>True) (fun W=>Below wB.drew.heap.size wB.drew W)) mix ?_;generalize wB.drew=fj at *;have hS:∀ (l:Array Bool) W,BE fj W->Rg.aK 9 (fun _=>True) (fun W=>BE fj W) l W:=fun l W h=>⟨.inr trivial,h⟩;have hI:BE fj fj:=Below.refl _ _;refine d8 0 9 (.slice (some ⟨fW,fX,none⟩) s.length sc) 32 (hS _ _ hI)<|d8 1 9 (.int .i64 (k:Int)) 33 (hS _ _ hI)<|d7 2 9 (.pointer (some ⟨fW,fX+k,none⟩)) 34 rfl rfl (Rg.ai aQ _ _ rfl rfl fW (fX) (s.length) sc (k) rfl rfl (by omega)) (hS _ _ hI)<|d7 3 9 (.int .i64 x) 35 rfl rfl (j2 ⟨fW,fX+k,none⟩ (fun W hW=>af ((Below.cell (p:=⟨fW,fX+k,none⟩) hW C2.u.lt).trans C2.u.cell))) (hS _ _ hI)<|d8 4 9 (.slice (some ⟨fW,fX,none⟩) s.length sc) 36 (hS _ _ hI) ?_;go_frame;refine d8 5 9 (.int .i64 (k:Int)) 37 (hS _ _ hI)<|d7 6 9 (.int .i64 (((k - 1):Nat):Int)) 38 rfl rfl (j3 fun w=>cg (R:=.int .i64 (((k - 1):Nat):Int)) .sub _ _ _ rfl rfl rfl (nC _ (by omega) (by omega))) (hS _ _ hI)<|d7 7 9 (.pointer (some ⟨fW,fX+(k - 1),none⟩)) 39 rfl rfl (Rg.ai aQ _ _ rfl rfl fW (fX) (s.length) sc ((k - 1)) rfl rfl pC.u) (hS _ _ hI)<|d7 8 9 (.int .i64 y) 40 rfl rfl (j2 ⟨fW,fX+(k - 1),none⟩ (fun W hW=>af ((Below.cell (p:=⟨fW,fX+(k - 1),none⟩) hW C3.u.lt).trans C3.u.cell))) (hS _ _ hI)<|j1 9 41 rfl rfl (g8 (.bool true) .leq (h:=DW _ (decide_eq_true BJ))) (hS _ _ hI) ?_;go_frame
     refine Rg.Any.done (by kernel_rfl) ?_ _;clear hS hI;go_upto_region 10 with fail;refine c6<|j7 rfl ?_;go_frame
     have HX:=U (show (9:Int)=G by
      rw [<- hG.u];unfold gK
      rw [if_neg D3.u,if_neg (fun h:oT s=>by have:=h k az (by omega); rw [hx.u,hy.u] at this; omega)])
     go_wp2;go_ret;exact ⟨by rw [<- HX.u]; rfl,K.u.trans (KL.u.mono K.u.size)⟩
    case neg =>
     skip;go_upto_region 9 with fail;have aj:BE wB wB.drew:=(Below.refl _ _).drew;replace NX:=U (NX.u.p aj);replace C2:=U (C2.u.p aj);replace C3:=U (C3.u.p aj);replace KL:=U (Rg.acc KL.u aj);clear aj;refine Rg.Any.begin (S:=Rg.aK 9 (fun _=>True) (fun W=>Below wB.drew.heap.size wB.drew W)) mix ?_;generalize wB.drew=Jc at *;have hS:∀ (l:Array Bool) W,BE Jc W->Rg.aK 9 (fun _=>True) (fun W=>BE Jc W) l W:=fun l W h=>⟨.inr trivial,h⟩;have hI:BE Jc Jc:=Below.refl _ _;refine d8 0 9 (.slice (some ⟨fW,fX,none⟩) s.length sc) 32 (hS _ _ hI)<|d8 1 9 (.int .i64 (k:Int)) 33 (hS _ _ hI)<|d7 2 9 (.pointer (some ⟨fW,fX+k,none⟩)) 34 rfl rfl (Rg.ai aQ _ _ rfl rfl fW (fX) (s.length) sc (k) rfl rfl (by omega)) (hS _ _ hI)<|d7 3 9 (.int .i64 x) 35 rfl rfl (j2 ⟨fW,fX+k,none⟩ (fun W hW=>af ((Below.cell (p:=⟨fW,fX+k,none⟩) hW C2.u.lt).trans C2.u.cell))) (hS _ _ hI)<|d8 4 9 (.slice (some ⟨fW,fX,none⟩) s.length sc) 36 (hS _ _ hI) ?_;go_frame;refine d8 5 9 (.int .i64 (k:Int)) 37 (hS _ _ hI)<|d7 6 9 (.int .i64 (((k - 1):Nat):Int)) 38 rfl rfl (j3 fun w=>cg (R:=.int .i64 (((k - 1):Nat):Int)) .sub _ _ _ rfl rfl rfl (nC _ (by omega) (by omega))) (hS _ _ hI)<|d7 7 9 (.pointer (some ⟨fW,fX+(k - 1),none⟩)) 39 rfl rfl (Rg.ai aQ _ _ rfl rfl fW (fX) (s.length) sc ((k - 1)) rfl rfl pC.u) (hS _ _ hI)<|d7 8 9 (.int .i64 y) 40 rfl rfl (j2 ⟨fW,fX+(k - 1),none⟩ (fun W hW=>af ((Below.cell (p:=⟨fW,fX+(k - 1),none⟩) hW C3.u.lt).trans C3.u.cell))) (hS _ _ hI)<|j1 9 41 rfl rfl (g8 (.bool false) .leq (h:=DW _ (decide_eq_false BJ))) (hS _ _ hI) ?_;go_frame
     refine Rg.Any.done (by kernel_rfl) ?_ _;clear hS hI;go_upto_region 8 with fail;refine c6<|j7 rfl<|k8 (g8 (.int .i64 (((k+1):Nat):Int)) .add (h:=bD _ (by omega) (by omega)))<|j7 rfl ?_;go_frame
     have fC:=U (show 1<=k+1/\∀ i (h:i<s.length),i<k+1->1<=i->s[i - 1]'(by omega)<s[i] from ⟨by omega,fun i h h0 h1=>by
      by_cases e:i=k
      ·subst e; rw [hx.u,hy.u]; omega
      ·exact HA.u.2 i h (by omega) h1⟩)
     clear HA C2 C3;go_wp2;go_roundw
     case rel=>exact ⟨k+1,by go_num,fC,KL⟩
     case measure=>simp [intOf]; omega
   have HX:=U (show (0:Int)=G by
    rw [<- hG.u];unfold gK
    rw [if_neg D3.u,if_pos (show oT s from fun i h h1=>HA.u.2 i h (by omega) h1)])
   replace K:=U (K.u.trans (KL.u.mono K.u.size));clear KL;go_upto_region 7 with fail;refine c6<|j7 rfl<|j8 rfl<|k8 (g9 Tryz.underlying26)<|k8 (g8 (.bool false) .lss (h:=aI _ f8)) ?_;go_frame;go_upto_region 11 with fail;refine c6<|j7 rfl ?_;go_frame;go_wp2;go_ret;exact ⟨by rw [<- HX.u]; rfl,K.u⟩
end
end Go.Proofs.YtpedbljnhnoohaaGreat
