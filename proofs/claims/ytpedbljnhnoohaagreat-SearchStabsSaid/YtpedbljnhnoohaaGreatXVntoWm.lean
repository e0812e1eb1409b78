/- Lemmas and contracts on the way to the statement; no condition of their own beyond those written. -/
import Derived.Test.YtpedbljnhnoohaaGreatXMatoCp
import Derived.RangeFuncBox
import Derived.RangeFuncLeaves
import Derived.Shelf.Abstract
import Derived.OwnWalkIn
import Derived.TacticsInMore
import Derived.LoopNIn
import Derived.LoopIn
set_option linter.unusedVariables false
set_option linter.unusedSimpArgs false
set_option maxRecDepth 100000
set_option maxHeartbeats 8000000
variable {n B N L D tc j tb base tf n₀ bytes:Nat} {v rv ov z v1 v2 xv u1 yv u2 cv tv:Go.Value} {W w' W' X w0 W0:Go.World} {F M F' F0 Fk:Nat->Prop} {O gs A LL:List (List Nat)} {ll OO PS:List (List Int)} {R:List (List (List Nat))} {RR gl:List (List (List Int))} {H:List Nat->Prop} {d ck:Int} {xs:List Go.Value} {xl l1 l2:List Int}
namespace Go.Proofs.YtpedbljnhnoohaaGreat
open Go.RowKit
open Go.Proofs
open Go.Proofs.Cm (Lv bx cw)
attribute [local irreducible] Go.Calls
theorem Qa (args:Array Value) (w:World):(callFunc 118 args).run Tryz.prog w=.ok (.enter 118 args) w:=by kernel_rfl
theorem Qb (args:Array Value) (w:World):(callFunc 92 args).run Tryz.prog w=.ok (.enter 92 args) w:=by kernel_rfl
theorem jh {w:World} {e:TypeId} (h:w.ownsRow B e 1 v n xs) {k:Nat} (hk:k<n):∃ g c u,v=.slice (some ⟨g,0,none⟩) n c/\w.cell? ⟨g,0+k,none⟩=some u/\xs[k]?=some u/\g<w.heap.size:=by
 have hh:=h;obtain ⟨h1,h2⟩:=h
 rcases h2 with ⟨_,h0⟩ | ⟨g,cap,cur,rfl,hg,hc,h3,h4,h5,h6⟩
 ·omega
 ·have hx:k<xs.length:=by omega
  refine ⟨g,cap,xs[k],rfl,?_,List.getElem?_eq_getElem hx,(Array.getElem?_eq_some_iff.1 hc).1⟩;have:=hh.cells (g:=g) rfl k xs[k] (List.getElem?_eq_getElem hx);rw [Nat.zero_add];unfold Addr.add at this
  split at this
  ·rename_i h0; subst h0; exact this
  ·simpa using this
theorem a_.Ww {w:World} {T:bx} {V:Nat->LV} (h:a_ F L n w T V) {i k:Nat} (hi:i<n) (hk:k<(T i).orb.length):∃ g c,(V i).o=.slice (some ⟨g,0,none⟩) (T i).orb.length c/\w.cell? ⟨g,0+k,none⟩=some (.int .i64 (((T i).orb[k]:Nat):Int))/\g<w.heap.size:=by
 obtain ⟨g,c,u,e,h1,h2,h3⟩:=jh (h.lv i hi).sN hk;refine ⟨g,c,e,?_,h3⟩;rw [h1,<- h2];simp [Ma.ah,List.getElem?_eq_getElem hk]
theorem a_.pW {w:World} {T:bx} {V:Nat->LV} (h:a_ F L n w T V) {i:Nat} (hi:i<n):∃ a c,(V i).o=.slice a (T i).orb.length c:=Rg.cQ (h.lv i hi).sN
theorem a_.Wx {w:World} {T:bx} {V:Nat->LV} (h:a_ F L n w T V) {i:Nat} (hi:i<n):∃ a c,(V i).g=.slice a (T i).gens.length c:=Rg.cQ (h.lv i hi).sM
theorem a_.aaF {w:World} {T:bx} {V:Nat->LV} (h:a_ F L n w T V) {i k:Nat} (hi:i<n) (hk:k<(T i).gens.length):∃ g c u,(V i).g=.slice (some ⟨g,0,none⟩) (T i).gens.length c/\w.cell? ⟨g,0+k,none⟩=some u/\FP F w u (T i).gens[k]/\g<w.heap.size:=by
 obtain ⟨g,c,u,e,h1,h2,h3⟩:=jh (h.lv i hi).sM hk;refine ⟨g,c,u,e,h1,?_,h3⟩;have zt:=(h.lv i hi).FU;obtain ⟨hku,rfl⟩:=List.getElem?_eq_some_iff.1 h2;have:=zt.2 k hku (by simpa using hk);simp only [List.getElem_map] at this;exact this
structure CL (w:World) (b o:Nat) (v:Value):Prop where
 cell:w.cell? ⟨b,o,none⟩=some v
 lt:b<w.heap.size
theorem CL.up {w:World} {b o:Nat} (h:CL w b o v) (hb:BE w w'):CL w' b o v:=⟨(hb.cell (p:=⟨b,o,none⟩) h.lt).trans h.cell,Nat.lt_of_lt_of_le h.lt hb.size⟩
theorem mW.next {T:bx} {i k q:Nat} (h:Cm.mW T i k) (hq:∃ h:k<(T i).orb.length,(T i).orb[k]=q) (ht:(T i).tried q=(T i).gens.length):Cm.mW T i (k+1):=fun m hm h_=>by
 by_cases e:m=k
 ·subst e
  obtain ⟨_,e⟩:=hq;rw [e]; exact ht
 ·exact h m hm (by omega)
open Go.Proofs.Cm in
def yV (n i:Nat):Prop:=∀ (F:Nat->Prop) (L tb:Nat) (w:World) (T:bx) (V:Nat->LV),a_ F L n w T V->CF F w tb 0 (.int .i64 ((n:Nat):Int))->CF F w tb 1 (.slice (some ⟨L,0,none⟩) n n)->(∀ j,i<j->j<n->Full n T j)->fY n T i->(T i).gens.length<=5000 ->
 Calls Tryz.prog 121 #[.pointer (some ⟨tb,0,none⟩),.int .i64 ((i:Nat):Int)] w fun e w'=>∃ F' T' V',e=.returned (.tuple #[])/\KG F w F' w'/\a_ F' L n w' T' V'/\kr n i T T'/\Bn T' i
open Go.Proofs.Cm in
def Qc (n i:Nat):Prop:=∀ (F:Nat->Prop) (L tb:Nat) (w:World) (T:bx) (V:Nat->LV) (xv:Value) (x:List Nat),a_ F L n w T V->CF F w tb 0 (.int .i64 ((n:Nat):Int))->CF F w tb 1 (.slice (some ⟨L,0,none⟩) n n)->FP F w xv x->Gd n x->Fx i x->(∀ j,i<=j->j<n->Full n T j) ->
 Calls Tryz.prog 92 #[.pointer (some ⟨tb,0,none⟩),xv,.int .i64 ((i:Nat):Int)] w fun e w'=>∃ F' T' V',e=.returned (.tuple #[])/\KG F w F' w'/\a_ F' L n w' T' V'/\wQ n i T T' x
open Go.Proofs.Cm in
theorem JI {i:Nat} (aU:1<=n) (aZ:n<=64) (aS:i<n) (Wy:i+1<n->Qc n (i+1)):yV n i:=by
 intro F L tb w T V hT cI dp tu Xq kE;have K:=U (KG.refl hT.eP);have HT:=U hT;have C0:=U cI;have C1:=U dp;have HI:=U (kr.refl Xq tu);have HD:=U (show mW T i 0 from fun m _ h=>absurd h (Nat.not_lt_zero _));have Qd:=U Wy;have HG:=U kE;have JJ:=U (om Xq);clear hT cI dp tu Xq Wy kE
 go_enter Tryz.func121,Tryz.ntmps121
 go_upto_region 0 with fail;refine c6<|j9 rfl<|k8 (bh _ rfl rfl)<|k8 (j4 (kC _ _))<|k8 (g7 (.slice (some ⟨L,0,none⟩) n n) ⟨tb,1,none⟩ (Rg.ae _ _ Tryz.underlying135 C1.u.cell)) ?_;go_frame;refine j7 rfl<|k8 (bn _ _ rfl Tryz.underlying135 iq L (n) (n) (i) rfl rfl aS)<|j9 rfl ?_;go_frame;have nH:=HT.u.pW aS;obtain ⟨oa0,oc0,nH⟩:=nH
 have Qe:w.cell? ⟨L,i*194+1,none⟩=some (.slice oa0 (T i).orb.length oc0):=by rw [xM HT.u aS (by omega),nH]
 have Of:((T i).orb.length:Int)<=64:=by have:=JJ.u; omega
 clear nH;go_wp2
 go_loopw [5] (fun kv wr=>∃ (k:Nat) (F1:Nat->Prop) (T1:bx) (V1:Nat->LV),kv=.int .i64 k/\k<=(T1 i).orb.length/\Hid (a_ F1 L n wr T1 V1)/\Hid (CF F1 wr tb 0 (.int .i64 ((n:Nat):Int)))/\Hid (CF F1 wr tb 1 (.slice (some ⟨L,0,none⟩) n n))/\Hid (KG F w F1 wr)/\Hid (kr n i T T1)/\Hid (mW T1 i k)) (fun kv _=>n - (intOf kv).toNat)
 case atStart=>exact ⟨0,F,T,V,rfl,Nat.zero_le _,HT,C0,C1,K,HI,HD⟩
 case round =>
  clear HT C0 C1 K HI HD Qe Of;obtain ⟨k,F1,T1,V,rfl,hk,HT,C0,C1,K,HI,HD⟩:=hrel;have ir:=om HI.u.lvl
  have Of:((T1 i).orb.length:Int)<=64:=by omega
  by_cases b_:k<(T1 i).orb.length
  ·obtain ⟨ob,oc,nH,oy,tx⟩:=HT.u.Ww aS b_
   have Qe:wr.cell? ⟨L,i*194+1,none⟩=some (.slice (some ⟨ob,0,none⟩) (T1 i).orb.length oc):=by rw [xM HT.u aS (by omega),nH]
   have gY:(k:Int)<((T1 i).orb.length:Int):=by omega
   obtain ⟨q,hq⟩:∃ q:Nat,Hid (q=(T1 i).orb[k]):=⟨_,U rfl⟩;have ba:=U b_;have Wz:=U (show wr.cell? ⟨ob,0+k,none⟩=some (.int .i64 ((q:Nat):Int)) by rw [hq.u]; exact oy);have tz:=U Qe;clear nH oy tx;go_upto_region 4 with fail;refine c6<|j9 rfl<|k8 (bh _ rfl rfl)<|k8 (j4 (Cz _ _ _))<|k8 (g7 (.slice (some ⟨ob,0,none⟩) (T1 i).orb.length oc) ⟨L,i*194+1,none⟩ (Rg.ae _ _ Tryz.underlying26 tz.u)) ?_;go_frame;refine j7 rfl<|k8 (ag aQ _ _ rfl ob (0) ((T1 i).orb.length) oc (k) rfl rfl ba.u)<|k8 (g7 (.int .i64 (q:Int)) ⟨ob,0+k,none⟩ (af Wz.u))<|j7 rfl ?_;go_frame;have Qf:=U (show q∈(T1 i).orb by rw [hq.u]; exact List.getElem_mem ba.u);obtain ⟨uq,lz⟩:=(HI.u.lvl.orb q).1 Qf.u;have gP:q<n:=HI.u.lvl.DS q uq lz;have HUQ:=U lz;have Gc:=U (show ∃ h:k<(T1 i).orb.length,(T1 i).orb[k]=q from ⟨ba.u,hq.u.symm⟩);have JK:=U (Ext.refl T1);have hle:=HI.u.lvl.le q;have oz:=U (show ((T1 i).gens.length - (T1 i).tried q)+(T1 i).tried q=(T1 i).gens.length by omega);clear lz Qe hle Wz hq Qf gY ir Of tz
   have kq:q<64:=by omega
   go_wp2;simp only [Nat.zero_add]
   go_loopg [] ((T1 i).gens.length - (T1 i).tried q) (fun g wr=>∃ (F2:Nat->Prop) (T2:bx) (V2:Nat->LV),Hid (g+(T2 i).tried q=(T2 i).gens.length)/\Hid (a_ F2 L n wr T2 V2)/\Hid (CF F2 wr tb 0 (.int .i64 ((n:Nat):Int)))/\Hid (CF F2 wr tb 1 (.slice (some ⟨L,0,none⟩) n n))/\Hid (KG F w F2 wr)/\Hid (kr n i T T2)/\Hid (mW T2 i k)/\Hid (∃ h:k<(T2 i).orb.length,(T2 i).orb[k]=q)/\Hid (Ext T1 T2))
   case atStart=>exact ⟨F1,T1,V,oz,HT,C0,C1,K,HI,HD,Gc,JK⟩
   case round =>
    clear HT C0 C1 K HI HD Gc JK oz ba;obtain ⟨F2,T2,V2,HN,HT,C0,C1,K,HI,HD,Gc,JK⟩:=hrel;obtain ⟨tr,dJ⟩:∃ tr:Nat,Hid (tr=(T2 i).tried q):=⟨_,U rfl⟩;obtain ⟨gn,Bo⟩:∃ gn:Nat,Hid (gn=(T2 i).gens.length):=⟨_,U rfl⟩
    have hgt:gk+tr=gn:=by rw [dJ.u,Bo.u]; exact HN.u
    have abG:gn<=5000:=by rw [Bo.u,HI.u.gens]; exact HG.u
    have CT:=U (CL.mk (show wr.cell? ⟨L,i*194+130+q,none⟩=some (.int .i64 (tr:Int)) by rw [Oa HT.u aS kq (by omega),<- dJ.u]) HT.u.lt);obtain ⟨ga,gc,Ge⟩:=HT.u.Wx aS;have CG:=U (CL.mk (show wr.cell? ⟨L,i*194,none⟩=some (.slice ga gn gc) by rw [P5 HT.u aS rfl,Ge,Bo.u]) HT.u.lt);have ir:=om HI.u.lvl
    by_cases uO:gk=0
    ·clear Ge
     go_upto_region 5 with fail;have aj:BE wr wr.drew:=(Below.refl _ _).drew;replace HT:=U (HT.u.up aj);replace C0:=U (C0.u.up aj);replace C1:=U (C1.u.up aj);replace CT:=U (CT.u.up aj);replace CG:=U (CG.u.up aj);replace K:=U (K.u.up aj);generalize cE F2 wr wr.drew=F1 at *;clear aj;refine Rg.Any.begin (S:=Rg.aK 11 (fun _=>True) (fun W=>Below wr.drew.heap.size wr.drew W)) mix ?_;generalize wr.drew=dr at *;have hS:∀ (l:Array Bool) W,BE dr W->Rg.aK 11 (fun _=>True) (fun W=>BE dr W) l W:=fun l W h=>⟨.inr trivial,h⟩;have hI:BE dr dr:=Below.refl _ _;refine d8 0 11 (.pointer (some ⟨L,i*194,none⟩)) 32 (hS _ _ hI)<|d8 1 11 (.int .i64 (q:Int)) 33 (hS _ _ hI)<|d7 2 11 (.pointer (some ⟨L,i*194,none⟩)) 34 rfl rfl (j3 fun w=>bh _ rfl rfl) (hS _ _ hI)<|d7 3 11 (.pointer (some ⟨L,i*194+130,none⟩)) 35 rfl rfl (j3 fun w=>aw _ rfl rfl (FW _ _ _)) (hS _ _ hI)<|d7 4 11 (.pointer (some ⟨L,i*194+130+q,none⟩)) 36 rfl rfl (j3 fun w=>bB _ _ rfl Tryz.underlying143 PY L (i*194+130) (q) rfl rfl kq) (hS _ _ hI) ?_;go_frame;refine d7 5 11 (.int .i64 (tr:Int)) 37 rfl rfl (j2 ⟨L,i*194+130+q,none⟩ (fun W hW=>af ((Below.cell (p:=⟨L,i*194+130+q,none⟩) hW CT.u.lt).trans CT.u.cell))) (hS _ _ hI)<|d8 6 11 (.pointer (some ⟨L,i*194,none⟩)) 38 (hS _ _ hI)<|d7 7 11 (.pointer (some ⟨L,i*194,none⟩)) 39 rfl rfl (j3 fun w=>bh _ rfl rfl) (hS _ _ hI)<|d7 8 11 (.pointer (some ⟨L,i*194,none⟩)) 40 rfl rfl (j3 fun w=>aw _ rfl rfl (FV _ _ _)) (hS _ _ hI)<|d7 9 11 (.slice ga gn gc) 41 rfl rfl (j2 ⟨L,i*194,none⟩ (fun W hW=>Rg.ae _ _ Tryz.underlying41 ((Below.cell (p:=⟨L,i*194,none⟩) hW CG.u.lt).trans CG.u.cell))) (hS _ _ hI) ?_;go_frame
     refine d7 10 11 (.int .i64 (gn:Int)) 42 rfl rfl (j3 fun w=>ee _ _ _ rfl Tryz.underlying41 _ _ _ rfl) (hS _ _ hI)<|j1 11 43 rfl rfl (g8 (.bool false) .lss (h:=aI _ f8)) (hS _ _ hI) ?_;go_frame;refine Rg.Any.done (by kernel_rfl) ?_ _;clear hS hI;have Xr:=U (mW.next HD.u Gc.u (by rw [<- dJ.u,<- Bo.u]; omega));obtain ⟨aaG,CD⟩:=Gc.u;go_wp2;go_roundw
     case rel=>exact ⟨k+1,_,T2,V2,by go_num,aaG,HT,C0,C1,K,HI,Xr⟩
     case measure=>simp [intOf]; omega
    ·obtain ⟨gb,gc',u,WA,Bl,UR,kE⟩:=HT.u.aaF aS (k:=tr) (by have:=Bo.u; omega)
     rw [Ge,<- Bo.u] at WA
     injection WA with e1 _ e2
     subst e1 e2;have Qg:=U (show tr<gn by omega);obtain ⟨s,hs⟩:∃ s,Hid (∃ h:tr<(T2 i).gens.length,(T2 i).gens[tr]=s):=⟨_,U ⟨by rw [<- Bo.u]; omega,rfl⟩⟩;obtain ⟨nB,jC⟩:=hs.u;have N4:=U (show s∈(T2 i).gens by rw [<- jC]; exact List.getElem_mem nB);have GS:=U (HI.u.lvl.Bm s N4.u);rw [jC] at UR;obtain ⟨sb,so,sc,rfl⟩:=UR.du GS.u aU;have SP:=U UR;have CS:=U (CL.mk Bl kE);have US:=JK.u.rep i q uq HUQ.u;have Qh:=U US;have GU:=U (HI.u.lvl.zi q uq US)
     have WB:Cm.ap (Ma.aq uq s) i=Cm.ap s q:=by rw [Cm.bL GU.u aS,HI.u.lvl.DR q uq US]
     have GY:=U (Cm.bm GU.u GS.u);obtain ⟨p,hp⟩:∃ p,Hid (p=Cm.ap s q):=⟨_,U rfl⟩;have hpy:=U (show Cm.ap (Ma.aq uq s) i=p by rw [hp.u]; exact WB)
     have D2:p<n:=by rw [<- hpy.u]; exact Cm.cS GY.u aS
     have ks:p<64:=by omega
     have HGT:=U hgt;have Og:=U uO;clear Ge Bl UR kE nB jC US WB hgt uO
     have hkT:(tr:Int)<(gn:Int):=by have:=Qg.u; omega
     go_upto_region 5 with fail;have aj:BE wr wr.drew:=(Below.refl _ _).drew;replace HT:=U (HT.u.up aj);replace C0:=U (C0.u.up aj);replace C1:=U (C1.u.up aj);replace CT:=U (CT.u.up aj);replace CG:=U (CG.u.up aj);replace CS:=U (CS.u.up aj);replace SP:=U (SP.u.up aj);replace K:=U (K.u.up aj);generalize cE F2 wr wr.drew=F1 at *;clear aj;refine Rg.Any.begin (S:=Rg.aK 11 (fun _=>True) (fun W=>Below wr.drew.heap.size wr.drew W)) mix ?_;generalize wr.drew=dr at *;have hS:∀ (l:Array Bool) W,BE dr W->Rg.aK 11 (fun _=>True) (fun W=>BE dr W) l W:=fun l W h=>⟨.inr trivial,h⟩;have hI:BE dr dr:=Below.refl _ _;refine d8 0 11 (.pointer (some ⟨L,i*194,none⟩)) 32 (hS _ _ hI)<|d8 1 11 (.int .i64 (q:Int)) 33 (hS _ _ hI)<|d7 2 11 (.pointer (some ⟨L,i*194,none⟩)) 34 rfl rfl (j3 fun w=>bh _ rfl rfl) (hS _ _ hI)<|d7 3 11 (.pointer (some ⟨L,i*194+130,none⟩)) 35 rfl rfl (j3 fun w=>aw _ rfl rfl (FW _ _ _)) (hS _ _ hI)<|d7 4 11 (.pointer (some ⟨L,i*194+130+q,none⟩)) 36 rfl rfl (j3 fun w=>bB _ _ rfl Tryz.underlying143 PY L (i*194+130) (q) rfl rfl kq) (hS _ _ hI) ?_;go_frame;refine d7 5 11 (.int .i64 (tr:Int)) 37 rfl rfl (j2 ⟨L,i*194+130+q,none⟩ (fun W hW=>af ((Below.cell (p:=⟨L,i*194+130+q,none⟩) hW CT.u.lt).trans CT.u.cell))) (hS _ _ hI)<|d8 6 11 (.pointer (some ⟨L,i*194,none⟩)) 38 (hS _ _ hI)<|d7 7 11 (.pointer (some ⟨L,i*194,none⟩)) 39 rfl rfl (j3 fun w=>bh _ rfl rfl) (hS _ _ hI)<|d7 8 11 (.pointer (some ⟨L,i*194,none⟩)) 40 rfl rfl (j3 fun w=>aw _ rfl rfl (FV _ _ _)) (hS _ _ hI)<|d7 9 11 (.slice (some ⟨gb,0,none⟩) gn gc) 41 rfl rfl (j2 ⟨L,i*194,none⟩ (fun W hW=>Rg.ae _ _ Tryz.underlying41 ((Below.cell (p:=⟨L,i*194,none⟩) hW CG.u.lt).trans CG.u.cell))) (hS _ _ hI) ?_;go_frame
     refine d7 10 11 (.int .i64 (gn:Int)) 42 rfl rfl (j3 fun w=>ee _ _ _ rfl Tryz.underlying41 _ _ _ rfl) (hS _ _ hI)<|j1 11 43 rfl rfl (g8 (.bool true) .lss (h:=aI _ f7)) (hS _ _ hI) ?_;go_frame;refine Rg.Any.done (by kernel_rfl) ?_ _;clear hS hI;go_upto_region 6 with fail;have aj:BE dr dr.drew:=(Below.refl _ _).drew;replace HT:=U (HT.u.up aj);replace C0:=U (C0.u.up aj);replace C1:=U (C1.u.up aj);replace CT:=U (CT.u.up aj);replace CG:=U (CG.u.up aj);replace CS:=U (CS.u.up aj);replace SP:=U (SP.u.up aj);replace K:=U (K.u.up aj);generalize cE F1 dr dr.drew=F2 at *;clear aj;refine Rg.Any.begin (S:=Rg.aK 12 (fun _=>True) (fun W=>Below dr.drew.heap.size dr.drew W)) mix ?_;generalize dr.drew=jD at *;have hS:∀ (l:Array Bool) W,BE jD W->Rg.aK 12 (fun _=>True) (fun W=>BE jD W) l W:=fun l W h=>⟨.inr trivial,h⟩;have hI:BE jD jD:=Below.refl _ _;refine d8 0 12 (.pointer (some ⟨L,i*194,none⟩)) 44 (hS _ _ hI)<|d7 1 12 (.pointer (some ⟨L,i*194,none⟩)) 45 rfl rfl (j3 fun w=>bh _ rfl rfl) (hS _ _ hI)<|d7 2 12 (.pointer (some ⟨L,i*194,none⟩)) 46 rfl rfl (j3 fun w=>aw _ rfl rfl (FV _ _ _)) (hS _ _ hI)<|d7 3 12 (.slice (some ⟨gb,0,none⟩) gn gc) 47 rfl rfl (j2 ⟨L,i*194,none⟩ (fun W hW=>Rg.ae _ _ Tryz.underlying41 ((Below.cell (p:=⟨L,i*194,none⟩) hW CG.u.lt).trans CG.u.cell))) (hS _ _ hI)<|d8 4 12 (.pointer (some ⟨L,i*194,none⟩)) 48 (hS _ _ hI) ?_;go_frame;refine d8 5 12 (.int .i64 (q:Int)) 49 (hS _ _ hI)<|d7 6 12 (.pointer (some ⟨L,i*194,none⟩)) 50 rfl rfl (j3 fun w=>bh _ rfl rfl) (hS _ _ hI)<|d7 7 12 (.pointer (some ⟨L,i*194+130,none⟩)) 51 rfl rfl (j3 fun w=>aw _ rfl rfl (FW _ _ _)) (hS _ _ hI)<|d7 8 12 (.pointer (some ⟨L,i*194+130+q,none⟩)) 52 rfl rfl (j3 fun w=>bB _ _ rfl Tryz.underlying143 PY L (i*194+130) (q) rfl rfl kq) (hS _ _ hI)<|d7 9 12 (.int .i64 (tr:Int)) 53 rfl rfl (j2 ⟨L,i*194+130+q,none⟩ (fun W hW=>af ((Below.cell (p:=⟨L,i*194+130+q,none⟩) hW CT.u.lt).trans CT.u.cell))) (hS _ _ hI) ?_;go_frame
     refine d7 10 12 (.pointer (some ⟨gb,0+tr,none⟩)) 54 rfl rfl (Rg.ai aM _ _ rfl rfl gb (0) (gn) gc (tr) rfl rfl Qg.u) (hS _ _ hI)<|d7 11 12 (.slice (some ⟨sb,so,none⟩) n sc) 55 rfl rfl (j2 ⟨gb,0+tr,none⟩ (fun W hW=>Rg.ae _ _ Tryz.underlying27 ((Below.cell (p:=⟨gb,0+tr,none⟩) hW CS.u.lt).trans CS.u.cell))) (hS _ _ hI)<|j1 12 7 rfl rfl (b6 (.slice (some ⟨sb,so,none⟩) n sc) _ rfl rfl) (hS _ _ hI) ?_;go_frame;refine Rg.Any.done (by kernel_rfl) ?_ _;clear hS hI;go_upto_region 7 with fail;have aj:BE jD jD.drew:=(Below.refl _ _).drew;replace HT:=U (HT.u.up aj);replace C0:=U (C0.u.up aj);replace C1:=U (C1.u.up aj);replace CT:=U (CT.u.up aj);replace CG:=U (CG.u.up aj);replace CS:=U (CS.u.up aj);replace SP:=U (SP.u.up aj);replace K:=U (K.u.up aj);generalize cE F2 jD jD.drew=F3 at *;clear aj;refine Rg.Any.begin (S:=Rg.aK 10 (fun W=>Below jD.drew.heap.size jD.drew W) (fun _=>True)) mix ?_;generalize jD.drew=sm at *;have hS:∀ (l:Array Bool) W,BE sm W->Rg.aK 10 (fun W=>BE sm W) (fun _=>True) l W:=fun l W h=>⟨.inr h,trivial⟩;have cF:∀ (l:Array Bool) W,l.getD 10 false=true->Rg.aK 10 (fun W=>BE sm W) (fun _=>True) l W:=fun l W h=>⟨.inl h,trivial⟩;have hI:BE sm sm:=Below.refl _ _;refine d8 0 10 (.pointer (some ⟨L,i*194,none⟩)) 56 (hS _ _ hI)<|d8 1 10 (.int .i64 (q:Int)) 57 (hS _ _ hI)<|d7 2 10 (.pointer (some ⟨L,i*194,none⟩)) 58 rfl rfl (j3 fun w=>bh _ rfl rfl) (hS _ _ hI)<|d7 3 10 (.pointer (some ⟨L,i*194+130,none⟩)) 59 rfl rfl (j3 fun w=>aw _ rfl rfl (FW _ _ _)) (hS _ _ hI)<|d7 4 10 (.pointer (some ⟨L,i*194+130+q,none⟩)) 60 rfl rfl (j3 fun w=>bB _ _ rfl Tryz.underlying143 PY L (i*194+130) (q) rfl rfl kq) (hS _ _ hI) ?_;go_frame
     refine j0 5 10 (.int .i64 (tr:Int)) 61 rfl rfl (j2 ⟨L,i*194+130+q,none⟩ (fun W hW=>af ((Below.cell (p:=⟨L,i*194+130+q,none⟩) hW CT.u.lt).trans CT.u.cell))) (hS _ _ hI)<|d7 6 10 (.int .i64 (((tr+1):Nat):Int)) 62 rfl rfl (j3 fun w=>cg (R:=.int .i64 (((tr+1):Nat):Int)) .add _ _ _ rfl rfl rfl (bD _ (by omega) (by omega))) (hS _ _ hI)<|d7 7 10 (.pointer (some ⟨L,i*194,none⟩)) 63 rfl rfl (j3 fun w=>bh _ rfl rfl) (hS _ _ hI)<|d7 8 10 (.pointer (some ⟨L,i*194+130,none⟩)) 64 rfl rfl (j3 fun w=>aw _ rfl rfl (FW _ _ _)) (hS _ _ hI)<|d7 9 10 (.pointer (some ⟨L,i*194+130+q,none⟩)) 65 rfl rfl (j3 fun w=>bB _ _ rfl Tryz.underlying143 PY L (i*194+130) (q) rfl rfl kq) (hS _ _ hI) ?_;go_frame;refine Rg.Any.one (i:=10) (by kernel_rfl) (Rg.Any.dx none rfl rfl rfl (Rg.ak _ _ _ rfl _ rfl _ rfl (dS _ CT.u.cell (HT.u.frozen _))) (cF _ _ rfl) ?_);go_frame;have htk:=HT.u.tick aS kq (o:=i*194+130+q) (by omega);rw [<- dJ.u] at htk;refine Rg.Any.done (by kernel_rfl) ?_ _;clear cF;clear hS hI;obtain ⟨hT3,jN⟩:=htk;have eE:=KG.zp (KG.refl HT.u.eP) jN;generalize sm.setCell ⟨L,i*194+130+q,none⟩ (.int .i64 ((tr+1:Nat):Int))=Oh at *;replace HT:=U hT3;replace C0:=U (C0.u.kg eE);replace C1:=U (C1.u.kg eE);replace SP:=U (SP.u.kg eE);replace K:=U (K.u.trans eE);clear eE jN hT3 CT CG CS
     have WC:Cm.cw (Cm.tick T2 i q) i q=some uq:=by show (Cm.tick T2 i q i).rep q=some uq; rw [Cm.ew]; exact Qh.u
     obtain ⟨ub,uo,uc,Gf,Gg⟩:=HT.u.UO aS kq WC GU.u aU;have UP:=U Gg;have CU:=U (CL.mk (show Oh.cell? ⟨L,i*194+2+q,none⟩=some (.slice (some ⟨ub,uo,none⟩) n uc) by rw [tj HT.u aS kq (by omega),Gf]) HT.u.lt);clear WC Gf Gg;go_upto_region 8 with fail;refine c6<|j9 rfl<|j7 rfl<|k8 (bh _ rfl rfl)<|k8 (j4 (xO _ _ _)) ?_;go_frame;refine k8 (bB _ _ rfl Tryz.underlying142 uP L (i*194+2) (q) rfl rfl kq)<|k8 (g7 (.slice (some ⟨ub,uo,none⟩) n uc) ⟨L,i*194+2+q,none⟩ (Rg.ae _ _ Tryz.underlying27 CU.u.cell))<|j8 rfl ?_;go_frame;refine f4 73 (ax 117 _ _ _ rfl rfl rfl (zr _ _)) ?_;refine (uS UP.u SP.u GU.u GS.u aU aZ).mono ?_;rintro e1 fj ⟨yv,rfl,UT,hb⟩;obtain ⟨yb,yo,yc,rfl⟩:=UT.du GY.u aU;refine ⟨_,rfl,?_⟩;go_frame;replace HT:=U (HT.u.up hb);replace C0:=U (C0.u.up hb);replace C1:=U (C1.u.up hb);replace SP:=U (SP.u.up hb);replace UP:=U (UP.u.up hb);replace CU:=U (CU.u.up hb);replace K:=U (K.u.up hb);have YF:=U UT;have CY:=U (show CF _ _ yb (yo+i) (.int .i64 (p:Int)) by rw [<- hpy.u]; exact UT.ap GY.u aS);generalize cE F3 Oh fj=F4 at *;clear hb;refine j8 rfl ?_;go_frame;clear UT;go_upto_region 9 with fail;refine c6<|j8 rfl<|j7 rfl<|k8 (ag bC _ _ rfl yb (yo) (n) yc (i) rfl rfl aS)<|k8 (g7 (.int .i64 (p:Int)) ⟨yb,yo+i,none⟩ (af CY.u.cell)) ?_;go_frame;refine j7 rfl ?_;go_frame
     cases JL:(T2 i).rep p with
     | none =>
      have nE:(Cm.tick T2 i q i).rep p=none:=by rw [Cm.ew]; exact JL
      have hV3:=((HT.u.lv i aS).none_ p ks nE).1;have CP:=U (CL.mk (show fj.cell? ⟨L,i*194+2+p,none⟩=some (.slice none 0 0) by rw [tj HT.u aS ks (by omega),hV3]) HT.u.lt);have Gh:=U JL;clear nE hV3 JL CU SP UP;go_upto_region 10 with fail;refine c6<|j9 rfl<|j7 rfl<|k8 (bh _ rfl rfl)<|k8 (j4 (xO _ _ _)) ?_;go_frame;refine k8 (bB _ _ rfl Tryz.underlying142 uP L (i*194+2) (p) rfl rfl ks)<|k8 (g7 (.slice none 0 0) ⟨L,i*194+2+p,none⟩ (Rg.ae _ _ Tryz.underlying27 CP.u.cell))<|k8 (tq _ _ rfl rfl rfl) ?_;go_frame;clear CP;go_upto_region 11 with fail;have aj:BE fj fj.drew:=(Below.refl _ _).drew;replace HT:=U (HT.u.up aj);replace C0:=U (C0.u.up aj);replace C1:=U (C1.u.up aj);replace YF:=U (YF.u.up aj);replace K:=U (K.u.up aj);generalize cE F4 fj fj.drew=F5 at *;clear aj;refine Rg.Any.begin (S:=Rg.aK 10 (fun W=>Below fj.drew.heap.size fj.drew W) (fun _=>True)) mix ?_;generalize fj.drew=lQ at *;have hS:∀ (l:Array Bool) W,BE lQ W->Rg.aK 10 (fun W=>BE lQ W) (fun _=>True) l W:=fun l W h=>⟨.inr h,trivial⟩;have cF:∀ (l:Array Bool) W,l.getD 10 false=true->Rg.aK 10 (fun W=>BE lQ W) (fun _=>True) l W:=fun l W h=>⟨.inl h,trivial⟩;have hI:BE lQ lQ:=Below.refl _ _;refine d8 0 10 (.pointer (some ⟨L,i*194,none⟩)) 85 (hS _ _ hI)<|d8 1 10 (.int .i64 (p:Int)) 86 (hS _ _ hI)<|d8 2 10 (.pointer (some ⟨L,i*194,none⟩)) 87 (hS _ _ hI)<|d8 3 10 (.int .i64 (p:Int)) 88 (hS _ _ hI)<|d8 4 10 (.slice (some ⟨yb,yo,none⟩) n yc) 89 (hS _ _ hI) ?_;go_frame;refine d8 5 10 (.slice (some ⟨yb,yo,none⟩) n yc) 90 (hS _ _ hI)<|d7 7 10 (.pointer (some ⟨L,i*194,none⟩)) 92 rfl rfl (j3 fun w=>bh _ rfl rfl) (hS _ _ hI)<|d7 8 10 (.pointer (some ⟨L,i*194+2,none⟩)) 93 rfl rfl (j3 fun w=>aw _ rfl rfl (xO _ _ _)) (hS _ _ hI)<|d7 11 10 (.pointer (some ⟨L,i*194,none⟩)) 95 rfl rfl (j3 fun w=>bh _ rfl rfl) (hS _ _ hI)<|d7 12 10 (.pointer (some ⟨L,i*194+66,none⟩)) 96 rfl rfl (j3 fun w=>aw _ rfl rfl (CC _ _ _)) (hS _ _ hI) ?_;go_frame
      refine Rg.Any.one (i:=6) (by kernel_rfl) (Rg.Any.ask (some 91) rfl rfl rfl _ _ (aA 118 _ _ rfl rfl (Qa _ _)) ?_);refine (P7 YF.u GY.u aU aZ).mono ?_;rintro e1 yF ⟨iv,rfl,p8,hb⟩;obtain ⟨jb,jo,jc,rfl⟩:=p8.du (Cm.aX GY.u) aU;have jO:=Rg.acc hI hb;clear hI;replace HT:=U (HT.u.up hb);replace C0:=U (C0.u.up hb);replace C1:=U (C1.u.up hb);replace YF:=U (YF.u.up hb);replace K:=U (K.u.up hb);have IF:=U p8;generalize cE F5 lQ yF=F6 at *;clear hb;refine ⟨_,rfl,(hS _ _ jO),?_⟩;go_frame;refine d7 9 10 (.pointer (some ⟨L,i*194+2+p,none⟩)) 94 rfl rfl (j3 fun w=>bB _ _ rfl Tryz.underlying142 uP L (i*194+2) (p) rfl rfl ks) (hS _ _ jO) ?_;go_frame;refine Rg.Any.one (i:=10) (by kernel_rfl) (Rg.Any.dx none rfl rfl rfl (Rg.ak _ _ _ rfl _ rfl _ rfl (Rg.bz _ cX (tj HT.u aS ks (by omega)) (HT.u.frozen _))) (cF _ _ rfl) ?_);go_frame;refine d7 13 10 (.pointer (some ⟨L,i*194+66+p,none⟩)) 97 rfl rfl (j3 fun w=>bB _ _ rfl Tryz.underlying142 uP L (i*194+66) (p) rfl rfl ks) (cF _ _ rfl) ?_;go_frame;have cA:=HT.u.row.set (i*194+2+p) (.slice (some ⟨yb,yo,none⟩) n yc);refine Rg.Any.one (i:=14) (by kernel_rfl) (Rg.Any.dx none rfl rfl rfl (Rg.ak _ _ _ rfl _ rfl _ rfl (Rg.bz _ cX (cA.cell (by omega)) (cA.frozen _))) (cF _ _ rfl) ?_);go_frame;clear cA;refine Rg.Any.done (by kernel_rfl) ?_ _;clear cF;clear hS jO;obtain ⟨V4,JM,Qi⟩:=HT.u.jL aS ks (o1:=i*194+2+p) (o2:=i*194+66+p) (by omega) (by omega) YF.u IF.u;have eE:=KG.zp (KG.refl HT.u.eP) Qi;generalize (yF.setCell ⟨L,i*194+2+p,none⟩ (.slice (some ⟨yb,yo,none⟩) n yc)).setCell ⟨L,i*194+66+p,none⟩ (.slice (some ⟨jb,jo,none⟩) n jc)=Xs at *
      replace C0:=U (C0.u.kg eE);replace C1:=U (C1.u.kg eE);replace K:=U (K.u.trans eE);clear eE Qi;obtain ⟨T4,Xt⟩:∃ T4,Hid (T4=jL (Cm.tick T2 i q) i p (Ma.aq uq s)):=⟨_,U rfl⟩;rw [<- Xt.u] at JM;replace HT:=U JM
      have ho4:(T4 i).orb.length<=n:=by
       have e:(T4 i).orb=(T2 i).orb:=by rw [Xt.u]; simp [jL,Cm.ew]
       rw [e]; exact ir
      obtain ⟨oa,oc,nH⟩:=HT.u.pW aS;have CO:=U (CL.mk (show Xs.cell? ⟨L,i*194+1,none⟩=some (.slice oa (T4 i).orb.length oc) by rw [xM HT.u aS rfl,nH]) HT.u.lt);obtain ⟨a9,c9,X9,r1,r2,r3,V5,r4,r5⟩:=HT.u.aaD aS (o:=i*194+1) rfl p (by omega) 26;rw [nH] at r1 r2;clear JM nH IF YF;go_upto_region 12 with fail;refine c6<|j9 rfl<|j9 rfl<|k8 (bh _ rfl rfl)<|k8 (j4 (Cz _ _ _)) ?_;go_frame;refine k8 (g7 (.slice oa (T4 i).orb.length oc) ⟨L,i*194+1,none⟩ (Rg.ae _ _ Tryz.underlying26 CO.u.cell))<|j7 rfl<|k8 (Rg.aF _ _ _ rfl (.int .i64 (p:Int)) rfl (jH Xs _))<|k8 (Rg.aT _ _ _ rfl rfl rfl r1)<|k8 (bh _ rfl rfl) ?_;go_frame;refine k8 (j4 (Cz _ _ _))<|Rg.aG none rfl rfl (Rg.ak _ _ _ rfl _ rfl _ rfl (Rg.bz _ rP r2 r3)) ?_;go_frame;clear CO r1 r2 r3;have eE:=KG.zp (KG.refl HT.u.eP) r5;generalize X9.setCell ⟨L,i*194+1,none⟩ (.slice a9 ((T4 i).orb.length+1) c9)=w70 at *;replace C0:=U (C0.u.kg eE);replace C1:=U (C1.u.kg eE);replace K:=U (K.u.trans eE);rw [Xt.u,<- find_eq] at r4;have hf:=kr.found HI.u HD.u aS (q:=q) (s:=s) (uq:=uq) (by rw [<- dJ.u,<- Bo.u]; exact Qg.u) (by obtain ⟨a,b⟩:=hs.u; simp only [<- dJ.u]; exact b) Qh.u (by rw [<- hp.u]; exact Gh.u) Gc.u;have hx:=JK.u.trans ((Cm.kB T2 i q).trans (Cm.wN (T:=Cm.tick T2 i q) (p:=p) (y:=Ma.aq uq s) (by rw [Cm.ew]; exact Gh.u)));rw [<- hp.u] at hf;obtain ⟨yy,Gi,Gj,Gk,Gl⟩:=hf;replace HT:=U r4;have Qj:=U yy;have Qk:=U Gi;have Ql:=U Gl;have HX:=U hx;have Qm:=U (show (gk - 1)+(Cm.find (Cm.tick T2 i q) i p (Ma.aq uq s) i).tried q=(Cm.find (Cm.tick T2 i q) i p (Ma.aq uq s) i).gens.length by have h1:=HN.u; have h2:=Og.u; rw [Gj,Gk]; omega)
      clear yy Gi Gj Gk Gl hx eE r4 r5;go_wp2
      go_roundg (gk - 1)
      case rel=>exact ⟨_,_,V5,Qm,HT,C0,C1,K,Qj,Qk,Ql,HX⟩
      case measure=>have:=Og.u; omega
     | some v =>
      have nE:cw (Cm.tick T2 i q) i p=some v:=by show (Cm.tick T2 i q i).rep p=some v; rw [Cm.ew]; exact JL
      obtain ⟨Xu,GV,_,GX,FX,RX⟩:=P9 HI.u.lvl aS N4.u Qh.u (show (T2 i).rep (Cm.ap s q)=some v by rw [<- hp.u]; exact JL);replace GV:=U GV;replace GX:=U GX;replace FX:=U FX;replace RX:=U RX;obtain ⟨vb,vo,vc,hVt,_⟩:=HT.u.UO aS ks nE GV.u aU;obtain ⟨zb,zo,zc,hVb,hBP⟩:=HT.u.byS aS ks nE GV.u aU;have CP:=U (CL.mk (show fj.cell? ⟨L,i*194+2+p,none⟩=some (.slice (some ⟨vb,vo,none⟩) n vc) by rw [tj HT.u aS ks (by omega),hVt]) HT.u.lt);have CB:=U (CL.mk (show fj.cell? ⟨L,i*194+66+p,none⟩=some (.slice (some ⟨zb,zo,none⟩) n zc) by rw [JF HT.u aS ks (by omega),hVb]) HT.u.lt);have BP:=U hBP;have Gh:=U JL;clear nE hVt hVb hBP Xu JL CU SP UP
      by_cases Bh:i+1<n
      ·have zu:=U (show ∀ j,i+1<=j->j<n->Full n (Cm.tick T2 i q) j from fun j h1 h2=>(HI.u.up j (by omega) h2).ext (Cm.kB T2 i q) (Cm.ja (by omega)) (fun _=>Cm.ja (by omega)))
       have bN:=U Bh
       have yD:((i+1:Nat):Int)<(n:Int):=by omega
       go_upto_region 10 with fail;refine c6<|j9 rfl<|j7 rfl<|k8 (bh _ rfl rfl)<|k8 (j4 (xO _ _ _)) ?_;go_frame;refine k8 (bB _ _ rfl Tryz.underlying142 uP L (i*194+2) (p) rfl rfl ks)<|k8 (g7 (.slice (some ⟨vb,vo,none⟩) n vc) ⟨L,i*194+2+p,none⟩ (Rg.ae _ _ Tryz.underlying27 CP.u.cell))<|k8 (kD _ _ rfl rfl rfl) ?_;go_frame;go_upto_region 13 with fail;refine c6<|j7 rfl<|k8 (g8 (.int .i64 (((i+1):Nat):Int)) .add (h:=bD _ (by omega) (by omega)))<|j9 rfl<|k8 (bh _ rfl rfl) ?_;go_frame;refine k8 (j4 (zq _ _))<|k8 (g7 (.int .i64 (n:Int)) ⟨tb,0,none⟩ (af C0.u.cell))<|k8 (g8 (.bool true) .lss (h:=aI _ f7)) ?_;go_frame;go_upto_region 14 with fail;refine c6<|j9 rfl<|j8 rfl<|j9 rfl<|j7 rfl ?_;go_frame;refine k8 (bh _ rfl rfl)<|k8 (j4 (CC _ _ _))<|k8 (bB _ _ rfl Tryz.underlying142 uP L (i*194+66) (p) rfl rfl ks)<|k8 (g7 (.slice (some ⟨zb,zo,none⟩) n zc) ⟨L,i*194+66+p,none⟩ (Rg.ae _ _ Tryz.underlying27 CB.u.cell)) ?_;go_frame;refine f4 123 (ax 117 _ _ _ rfl rfl rfl (zr _ _)) ?_;refine (uS YF.u BP.u GY.u (Cm.aX GV.u) aU aZ).mono ?_;rintro e1 lQ ⟨mv,rfl,gX,hb⟩;refine ⟨_,rfl,?_⟩;go_frame;replace HT:=U (HT.u.up hb);replace C0:=U (C0.u.up hb);replace C1:=U (C1.u.up hb);replace YF:=U (YF.u.up hb);replace CY:=U (CY.u.up hb);replace CP:=U (CP.u.up hb);replace CB:=U (CB.u.up hb);replace BP:=U (BP.u.up hb);replace K:=U (K.u.up hb);have MV:=U gX;generalize cE F4 fj lQ=F5 at *;clear hb;refine j7 rfl<|k8 (g8 (.int .i64 (((i+1):Nat):Int)) .add (h:=bD _ (by omega) (by omega))) ?_;go_frame;refine f4 126 (dm 92 _ _ _ _ rfl rfl rfl rfl (Qb _ _)) ?_;refine (Qd.u bN.u _ L tb _ _ _ _ _ HT.u C0.u C1.u MV.u GX.u FX.u zu.u).mono ?_;rintro e1 yF ⟨F9,T9,V9,rfl,lR,Gm,Qn⟩;have HA:=U Qn;clear Qn;refine ⟨_,rfl,?_⟩;go_frame;clear CP;clear CB;clear CY;clear YF;clear BP;replace HT:=U Gm;replace C0:=U (C0.u.kg lR);replace C1:=U (C1.u.kg lR);replace MV:=U (MV.u.kg lR);replace K:=U (K.u.trans lR);clear lR Gm;have hf:=kr.Mw HI.u HD.u (q:=q) (s:=s) (uq:=uq) (v:=v) (by rw [<- dJ.u,<- Bo.u]; exact Qg.u) (by obtain ⟨a,b⟩:=hs.u; simp only [<- dJ.u]; exact b) Qh.u (by rw [<- hp.u]; exact Gh.u) Gc.u HA.u.ext HA.u.low (fun j h1 h2=>HA.u.full j h1 h2) (fun h0=>HA.u.gens _ (Gr.dE HI.u.lvl.Bm) (fun s hs=>HI.u.lvl.low h0 s (by rwa [Cm.ja (by omega)] at hs)) RX.u) HA.u.sd
       have hx:=JK.u.trans ((Cm.kB T2 i q).trans HA.u.ext);obtain ⟨yy,Gi,Gj,Gk,Gl⟩:=hf;have Qj:=U yy;have Qk:=U Gi;have Ql:=U Gl;have HX:=U hx;have Qm:=U (show (gk - 1)+(T9 i).tried q=(T9 i).gens.length by have h1:=HN.u; have h2:=Og.u; rw [Gj,Gk]; omega);clear yy Gi Gj Gk Gl hx;go_wp2
       go_roundg (gk - 1)
       case rel=>exact ⟨_,_,_,Qm,HT,C0,C1,K,Qj,Qk,Ql,HX⟩
       case measure=>have:=Og.u; omega
      ·have yD:¬ ((i+1:Nat):Int)<(n:Int):=by omega
       go_upto_region 10 with fail;refine c6<|j9 rfl<|j7 rfl<|k8 (bh _ rfl rfl)<|k8 (j4 (xO _ _ _)) ?_;go_frame;refine k8 (bB _ _ rfl Tryz.underlying142 uP L (i*194+2) (p) rfl rfl ks)<|k8 (g7 (.slice (some ⟨vb,vo,none⟩) n vc) ⟨L,i*194+2+p,none⟩ (Rg.ae _ _ Tryz.underlying27 CP.u.cell))<|k8 (kD _ _ rfl rfl rfl) ?_;go_frame;go_upto_region 13 with fail;refine c6<|j7 rfl<|k8 (g8 (.int .i64 (((i+1):Nat):Int)) .add (h:=bD _ (by omega) (by omega)))<|j9 rfl<|k8 (bh _ rfl rfl) ?_;go_frame;refine k8 (j4 (zq _ _))<|k8 (g7 (.int .i64 (n:Int)) ⟨tb,0,none⟩ (af C0.u.cell))<|k8 (g8 (.bool false) .lss (h:=aI _ f8)) ?_;go_frame;have hf:=kr.Mw (T4:=Cm.tick T2 i q) HI.u HD.u (q:=q) (s:=s) (uq:=uq) (v:=v) (by rw [<- dJ.u,<- Bo.u]; exact Qg.u) (by obtain ⟨a,b⟩:=hs.u; simp only [<- dJ.u]; exact b) Qh.u (by rw [<- hp.u]; exact Gh.u) Gc.u (Ext.refl _) (fun _ _=>rfl) (fun j h1 h2=>absurd h2 (by omega)) (fun h0=>absurd h0 Bh) (by rw [show n - (i+1)=0 by omega]; exact Cm.Fx.all GX.u (by have:=FX.u; rwa [show i+1=n by omega] at this));have hx:=JK.u.trans (Cm.kB T2 i q);obtain ⟨yy,Gi,Gj,Gk,Gl⟩:=hf;have Qj:=U yy;have Qk:=U Gi;have Ql:=U Gl;have HX:=U hx;have Qm:=U (show (gk - 1)+((Cm.tick T2 i q) i).tried q=((Cm.tick T2 i q) i).gens.length by have h1:=HN.u; have h2:=Og.u; rw [Gj,Gk]; omega);clear yy Gi Gj Gk Gl hx;go_wp2
       go_roundg (gk - 1)
       case rel=>exact ⟨_,_,_,Qm,HT,C0,C1,K,Qj,Qk,Ql,HX⟩
       case measure=>have:=Og.u; omega
  ·have HE:k=(T1 i).orb.length:=by omega
   obtain ⟨oa,oc,nH⟩:=HT.u.pW aS
   have Qe:wr.cell? ⟨L,i*194+1,none⟩=some (.slice oa (T1 i).orb.length oc):=by rw [xM HT.u aS (by omega),nH]
   have gY:¬ (k:Int)<((T1 i).orb.length:Int):=by omega
   have Xr:=U (mW.cmp (by rw [<- HE]; exact HD.u) HI.u.lvl);clear nH HE;go_wp2
   go_end0
   exact ⟨rfl,F1,K.u,T1,⟨V,HT.u⟩,HI.u,Xr.u⟩

theorem Xv (args:Array Value) (w:World):(callFunc 120 args).run Tryz.prog w=.ok (.enter 120 args) w:=by kernel_rfl
theorem Xw (args:Array Value) (w:World):(callFunc 121 args).run Tryz.prog w=.ok (.enter 121 args) w:=by kernel_rfl
theorem fk:(Tryz.prog.info? 41).map (fun i=>(i.zero,i.size,i.bytes))=some (some (.slice none 0 0),1,24):=by kernel_rfl
def qE (T:bx) (i j:Nat) (r:List Nat):bx:=fun k=>if i<=k/\k<j then { T k with gens:=(T k).gens++[r] } else T k
theorem JN (T:bx) (i:Nat) (r:List Nat):qE T i i r=T:=by
 funext k; unfold qE; rw [if_neg (by omega)]
theorem uV (T:bx) (i j:Nat) (r:List Nat):qE T i j r j=T j:=by
 unfold qE; rw [if_neg (by omega)]
theorem JO (T:bx) (i j:Nat) (r:List Nat) (h:i<=j):wP (qE T i j r) j r=qE T i (j+1) r:=by
 funext k
 unfold wP
 by_cases e:k=j
 ·subst e
  rw [if_pos rfl,uV]; unfold qE; rw [if_pos (by omega)]
 ·rw [if_neg e]; unfold qE
  by_cases h2:i<=k/\k<j
  ·rw [if_pos h2,if_pos (by omega)]
  ·rw [if_neg h2,if_neg (by omega)]
theorem Oi (T:bx) (i a:Nat) (r:List Nat):qE T i (a+1) r=Cm.il T i a r:=by
 funext k
 unfold qE Cm.il
 by_cases h:i<=k/\k<=a
 ·rw [if_pos (by omega),if_pos h]
 ·rw [if_neg (by omega),if_neg h]
open Go.Proofs.Cm in
theorem Qo {i:Nat} (aU:1<=n) (aZ:n<=64) (aS:i<n) (ph:∀ k,i<=k->k<n->yV n k):Qc n i:=by
 intro F L tb w T V xv x hT cI dp hx gx fx JP;have K:=U (KG.refl hT.eP);have HT:=U hT;have C0:=U cI;have C1:=U dp;have X:=U hx;have GX:=U gx;have FX:=U fx;have zu:=U JP;have HCL:=U ph;have HR:=U (fY.rp fun j a b=>(JP j a b).1);obtain ⟨nI,r,hA⟩:∃ a r,Hid (dn n (cw T) (n - i) x=(a,r)):=⟨_,_,U rfl⟩;obtain ⟨kF,oA,gr,fr,mO⟩:=oh HR.u (d:=n - i) (x:=x) (by omega) (by omega) gx (by rw [show n - (n - i)=i by omega]; exact fx);rw [hA.u] at kF oA gr fr mO;have GR:=U gr;have FR:=U fr;have D3:=U mO;replace kF:nI<=n:=kF
 replace oA:i<=nI:=by have:n - (n - i)<=nI:=oA; omega
 clear hT cI dp hx gx fx JP ph gr fr mO
 go_enter Tryz.func92,Tryz.ntmps92
 go_upto_region 0 with fail;refine c6<|j9 rfl<|j6 (xv) rfl<|j7 rfl ?_;go_frame;have hsc:=Oc HT.u C0.u C1.u aU aZ X.u GX.u (by omega) FX.u HR.u;rw [hA.u] at hsc
 dsimp only at hsc
 refine f4 14 (dm 120 _ _ _ _ rfl rfl rfl rfl (Xv _ _)) ?_;refine (hsc).mono ?_;rintro e1 w1 ⟨F1,rv,rfl,gO,zw,cA,bZ⟩;clear hsc bZ;refine ⟨_,rfl,?_⟩;go_frame;replace HT:=U zw;replace C0:=U (C0.u.kg gO);replace C1:=U (C1.u.kg gO);replace X:=U (X.u.kg gO);replace K:=U (K.u.trans gO);have R:=U cA;clear gO zw;refine j6 (.tuple #[.int .i64 (nI:Int),rv]) rfl<|k8 (i9 (.int .i64 (nI:Int)))<|k8 (i9 (rv))<|j7 rfl<|j6 (rv) rfl ?_;go_frame;clear cA X
 by_cases han:nI=n
 ·have hae:(nI:Int)=(n:Int):=by omega
  go_upto_region 1 with fail;refine c6<|j7 rfl<|j9 rfl<|k8 (bh _ rfl rfl)<|k8 (j4 (zq _ _)) ?_;go_frame;refine k8 (g7 (.int .i64 (n:Int)) ⟨tb,0,none⟩ (af C0.u.cell))<|k8 (g8 (.bool true) .eql (h:=eM _ f7)) ?_;go_frame;have HA:=U (wQ.same zu.u aS GX.u FX.u (by rw [hA.u]; exact han));go_wp2
  first
  | go_end0
  | refine bodyPost_ret (results_none rfl _ _ _) rfl ?_
  exact ⟨rfl,_,K.u,T,⟨V,HT.u⟩,HA.u⟩
 ·have hae:¬ (nI:Int)=(n:Int):=by omega
  have Mx:nI<n:=by omega
  go_upto_region 1 with fail;refine c6<|j7 rfl<|j9 rfl<|k8 (bh _ rfl rfl)<|k8 (j4 (zq _ _)) ?_;go_frame;refine k8 (g7 (.int .i64 (n:Int)) ⟨tb,0,none⟩ (af C0.u.cell))<|k8 (g8 (.bool false) .eql (h:=eM _ f8)) ?_;go_frame;have uT:=C0.u.cell;go_upto_region 2 with fail;go_wp2
  go_loopw [8] (fun iv wr=>∃ (j:Nat) (F2:Nat->Prop) (V2:Nat->LV),iv=.int .i64 j/\i<=j/\j<=nI+1/\Hid (a_ F2 L n wr (qE T i j r) V2)/\Hid (CF F2 wr tb 0 (.int .i64 ((n:Nat):Int)))/\Hid (CF F2 wr tb 1 (.slice (some ⟨L,0,none⟩) n n))/\Hid (KG F w F2 wr)/\Hid (FP F2 wr rv r)) (fun iv _=>nI+1 - (intOf iv).toNat)
  case atStart=>exact ⟨i,_,V,rfl,Nat.le_refl _,by omega,U (by rw [JN]; exact HT.u),C0,C1,K,R⟩
  case round =>
   clear HT C0 C1 K R uT;obtain ⟨j,F2,V2,rfl,yA,sf,HT,C0,C1,K,R⟩:=hrel
   by_cases hja:j<=nI
   ·have yG:(j:Int)<=(nI:Int):=by omega
    have Oj:j<n:=by omega
    obtain ⟨rb,ro,rc,rfl⟩:=R.u.du GR.u aU;have kE:=HT.u.Wx Oj;rw [uV] at kE;obtain ⟨ga,gc,Ge⟩:=kE;have CG:=U (CL.mk (show wr.cell? ⟨L,j*194,none⟩=some (.slice ga (T j).gens.length gc) by rw [P5 HT.u Oj rfl,Ge]) HT.u.lt);have jr:(T j).gens.length<=4096:=Nat.le_trans (zu.u j yA Oj).2.2 (Mu (fun j a b=>(zu.u j a b).1) yA aZ);go_upto_region 5 with fail;have aj:BE wr wr.drew:=(Below.refl _ _).drew;replace HT:=U (HT.u.up aj);replace C0:=U (C0.u.up aj);replace C1:=U (C1.u.up aj);replace R:=U (R.u.up aj);replace CG:=U (CG.u.up aj);replace K:=U (K.u.up aj);generalize cE F2 wr wr.drew=F1 at *;clear aj;refine Rg.Any.begin (S:=Rg.aK 16 (fun W:World=>W.cell? ⟨tb,1,none⟩=some (.slice (some ⟨L,0,none⟩) n n)/\W.cell? ⟨L,j*194,none⟩=some (.slice ga (T j).gens.length gc)) (fun _=>True)) mix ?_;generalize wr.drew=dr at *;have hS:∀ (l:Array Bool) W,(fun W:World=>W.cell? ⟨tb,1,none⟩=some (.slice (some ⟨L,0,none⟩) n n)/\W.cell? ⟨L,j*194,none⟩=some (.slice ga (T j).gens.length gc)) W->Rg.aK 16 (fun W:World=>W.cell? ⟨tb,1,none⟩=some (.slice (some ⟨L,0,none⟩) n n)/\W.cell? ⟨L,j*194,none⟩=some (.slice ga (T j).gens.length gc)) (fun _=>True) l W:=fun l W h=>⟨.inr h,trivial⟩;have cF:∀ (l:Array Bool) W,l.getD 16 false=true->Rg.aK 16 (fun W:World=>W.cell? ⟨tb,1,none⟩=some (.slice (some ⟨L,0,none⟩) n n)/\W.cell? ⟨L,j*194,none⟩=some (.slice ga (T j).gens.length gc)) (fun _=>True) l W:=fun l W h=>⟨.inl h,trivial⟩;have hI:(fun W:World=>W.cell? ⟨tb,1,none⟩=some (.slice (some ⟨L,0,none⟩) n n)/\W.cell? ⟨L,j*194,none⟩=some (.slice ga (T j).gens.length gc)) dr:=⟨C1.u.cell,CG.u.cell⟩
    refine d8 0 16 (.pointer (some ⟨tb,0,none⟩)) 29 (hS _ _ hI)<|d7 1 16 (.pointer (some ⟨tb,0,none⟩)) 30 rfl rfl (j3 fun w=>bh _ rfl rfl) (hS _ _ hI)<|d7 2 16 (.pointer (some ⟨tb,1,none⟩)) 31 rfl rfl (j3 fun w=>aw _ rfl rfl (kC _ _)) (hS _ _ hI)<|j0 3 16 (.slice (some ⟨L,0,none⟩) n n) 32 rfl rfl (j2 ⟨tb,1,none⟩ (fun W hW=>Rg.ae _ _ Tryz.underlying135 hW.1)) (hS _ _ hI)<|d8 4 16 (.int .i64 (j:Int)) 33 (hS _ _ hI) ?_;go_frame;refine d8 5 16 (.pointer (some ⟨tb,0,none⟩)) 34 (hS _ _ hI)<|d7 6 16 (.pointer (some ⟨tb,0,none⟩)) 35 rfl rfl (j3 fun w=>bh _ rfl rfl) (hS _ _ hI)<|d7 7 16 (.pointer (some ⟨tb,1,none⟩)) 36 rfl rfl (j3 fun w=>aw _ rfl rfl (kC _ _)) (hS _ _ hI)<|j0 8 16 (.slice (some ⟨L,0,none⟩) n n) 37 rfl rfl (j2 ⟨tb,1,none⟩ (fun W hW=>Rg.ae _ _ Tryz.underlying135 hW.1)) (hS _ _ hI)<|d8 9 16 (.int .i64 (j:Int)) 38 (hS _ _ hI) ?_;go_frame;refine d7 10 16 (.pointer (some ⟨L,j*194,none⟩)) 39 rfl rfl (j3 fun w=>bn _ _ rfl Tryz.underlying135 iq L (n) (n) (j) rfl rfl Oj) (hS _ _ hI)<|d7 11 16 (.pointer (some ⟨L,j*194,none⟩)) 40 rfl rfl (j3 fun w=>aw _ rfl rfl (FV _ _ _)) (hS _ _ hI)<|j0 12 16 (.slice ga (T j).gens.length gc) 41 rfl rfl (j2 ⟨L,j*194,none⟩ (fun W hW=>Rg.ae _ _ Tryz.underlying41 hW.2)) (hS _ _ hI)<|d8 13 16 (.slice (some ⟨rb,ro,none⟩) n rc) 42 (hS _ _ hI) ?_;go_frame;have kV:=be dr (.cells #[.slice (some ⟨rb,ro,none⟩) n rc] 27);have JQ:=(show _/\_ from ⟨(Below.cell (p:=⟨tb,1,none⟩) kV C1.u.lt).trans C1.u.cell,(Below.cell (p:=⟨L,j*194,none⟩) kV CG.u.lt).trans CG.u.cell⟩);refine j1 14 43 rfl rfl (Rg.aF _ _ _ rfl (.slice (some ⟨rb,ro,none⟩) n rc) rfl (cn dr _ ⟨_,_,_,rfl⟩)) (hS _ _ JQ) ?_;go_frame;obtain ⟨a9,c9,X9,r1,r2,r3,V5,r4,r5⟩:=HT.u.aaC Oj (o:=j*194) rfl R.u ⟨_,_,_,rfl⟩ (by rw [uV]; omega) 41;rw [JO _ _ _ _ yA] at r4;rw [uV] at r1 r4 r5;rw [Ge] at r1 r2;have Qp:=r5.cell (b:=tb) (o:=1) C1.u.N9 C1.u.lt
    rw [World.cell?_setCell_other (h:=by intro e; injection e with e1 _; exact HT.u.LF (e1▸C1.u.N9)),C1.u.cell] at Qp
    have gQ:=(show _/\_ from ⟨Qp,r2⟩);refine j1 15 44 rfl rfl (Rg.aT _ _ _ rfl rfl rfl r1) (hS _ _ gQ)<|j1 16 45 rfl rfl (bn _ _ rfl Tryz.underlying135 iq L (n) (n) (j) rfl rfl Oj) (cF _ _ rfl)<|d7 17 16 (.pointer (some ⟨L,j*194,none⟩)) 46 rfl rfl (j3 fun w=>aw _ rfl rfl (FV _ _ _)) (cF _ _ rfl) ?_;go_frame;refine Rg.Any.one (i:=18) (by kernel_rfl) (Rg.Any.dx none rfl rfl rfl (Rg.ak _ _ _ rfl _ rfl _ rfl (Rg.bz _ fk r2 r3)) (cF _ _ rfl) ?_);go_frame;refine Rg.Any.done (by kernel_rfl) ?_ _;clear cF;clear hS gQ;have eE:=KG.zp (KG.refl HT.u.eP) r5;generalize X9.setCell ⟨L,j*194,none⟩ (.slice a9 ((T j).gens.length+1) c9)=Oh at *;replace C0:=U (C0.u.kg eE);replace C1:=U (C1.u.kg eE);replace R:=U (R.u.kg eE);replace K:=U (K.u.trans eE);replace HT:=U r4;clear eE r1 r2 r3 r4 r5 CG Ge;go_wp2;go_roundw
    case rel=>exact ⟨j+1,_,V5,by go_num,by omega,by omega,HT,C0,C1,K,R⟩
    case measure=>simp [intOf]; omega
   ·have yG:¬ (j:Int)<=(nI:Int):=by omega
    obtain rfl:j=nI+1:=by omega
    replace HT:=U (by have:=HT.u; rwa [Oi] at this);have HI:=U (mX.start (r:=r) zu.u oA);go_wp2;simp only [show (nI:Int)=(((nI+1:Nat):Int) - 1) by omega]
    go_loopw [9] (fun kv wr=>∃ (k:Nat) (F3:Nat->Prop) (T3:bx) (V3:Nat->LV),kv=.int .i64 (((k:Nat):Int) - 1)/\i<=k/\k<=nI+1/\Hid (a_ F3 L n wr T3 V3)/\Hid (CF F3 wr tb 0 (.int .i64 ((n:Nat):Int)))/\Hid (CF F3 wr tb 1 (.slice (some ⟨L,0,none⟩) n n))/\Hid (KG F w F3 wr)/\Hid (mX n i nI k T T3 r)) (fun kv _=>(intOf kv+1).toNat - i)
    case atStart=>exact ⟨nI+1,F2,_,V2,rfl,by omega,Nat.le_refl _,HT,C0,C1,K,HI⟩
    case round =>
     clear HT C0 C1 K R HI yG yA sf hja;obtain ⟨k0,F3,T3,V3,rfl,gO,dF,HT,C0,C1,K,HI⟩:=hrel
     by_cases n7:i<k0
     ·obtain ⟨m,rfl⟩:∃ m,k0=m+1:=⟨k0 - 1,by omega⟩
      simp only [show (((m+1:Nat):Int) - 1)=(m:Int) by omega]
      have hmi:(i:Int)<=(m:Int):=by omega
      have hmn:m<n:=by omega
      have HLV:=U (HI.u.lvl zu.u (by omega) (by omega) Mx GR.u FR.u);have HUP:=U HI.u.up
      have uW:=U (show (T3 m).gens.length<=5000 by
       have h1:=(zu.u m (by omega) hmn).2.2;have h2:DT n T m<=4096:=Mu (fun j a b=>(zu.u j a b).1) (by omega) aZ;rw [HI.u.put m (by omega) (by omega),iY ⟨by omega,by omega⟩]
       simp; omega)
      have HMI:=U (show i<=m by omega);have HMN:=U hmn;have HMA:=U (show m<=nI by omega);go_upto_region 9 with fail;refine c6<|j9 rfl<|j7 rfl ?_;go_frame;refine f4 55 (ax 121 _ _ _ rfl rfl rfl (Xw _ _)) ?_;refine (HCL.u m HMI.u HMN.u _ L tb _ _ _ HT.u C0.u C1.u HUP.u HLV.u uW.u).mono ?_;rintro e1 fB ⟨F9,T9,V9,rfl,lR,Gm,Qp,hd9⟩;have JR:=U (HI.u.step zu.u HMI.u HMA.u Mx (D3.u Mx) Qp hd9);clear Qp hd9;refine ⟨_,rfl,?_⟩;go_frame;replace HT:=U Gm;replace C0:=U (C0.u.kg lR);replace C1:=U (C1.u.kg lR);replace K:=U (K.u.trans lR);clear lR Gm;go_wp2;go_roundw
      case rel=>exact ⟨m,_,T9,V9,by go_num,by omega,by omega,HT,C0,C1,K,JR⟩
      case measure=>simp [intOf]; omega
     ·obtain rfl:k0=i:=by omega
      have hmi:¬ (k0:Int)<=((k0:Int) - 1):=by omega
      have fC:=U (mX.added (i:=k0) zu.u aS GX.u FX.u (by rw [hA.u]; exact HI.u) (by rw [hA.u]; exact Mx));go_wp2
      go_end0
      exact ⟨rfl,F3,K.u,T3,⟨V3,HT.u⟩,fC.u⟩
end Go.Proofs.YtpedbljnhnoohaaGreat
namespace Go.Proofs.Cm
open Go.Proofs
def Qq:Lv:={ gens:=[],orb:=[],rep:=fun _=>none,tried:=fun _=>0 }
def Qr (n j:Nat):Lv:={ gens:=[],orb:=[j],rep:=fun z=>if z=j then some (Ma.bs n) else none,tried:=fun _=>0 }
def mY (n k:Nat):bx:=fun j=>if j<k then Qr n j else Qq
theorem JS (hj:j<n):Full n (mY n n) j:=by
 have e:mY n n j=Qr n j:=if_pos hj
 have hr:∀ p u,(Qr n j).rep p=some u->p=j/\u=Ma.bs n:=fun p u h=>by
  have h:(if p=j then some (Ma.bs n) else none)=some u:=h
  by_cases e:p=j
  ·rw [if_pos e] at h; injection h with h; exact ⟨e,h.symm⟩
  ·rw [if_neg e] at h; cases h
 refine ⟨⟨?_,?_,?_,?_,?_,?_,?_,?_,?_,?_,?_,?_,?_,?_⟩,?_,?_⟩ <;> (try rw [e])
 ·intro s hs; cases hs
 ·intro s hs; cases hs
 ·intro h0 s hs
  have e2:mY n n (j+1)=Qr n (j+1):=if_pos h0;rw [e2] at hs; cases hs
 ·exact if_pos rfl
 ·intro p u h; obtain ⟨_,rfl⟩:=hr p u h; exact iF n
 ·intro p u h; obtain ⟨_,rfl⟩:=hr p u h; exact Fx.one (by omega)
 ·intro p u h; obtain ⟨rfl,rfl⟩:=hr p u h; exact dz hj
 ·intro p u h; obtain ⟨rfl,_⟩:=hr p u h; exact hj
 ·intro p u h; obtain ⟨_,rfl⟩:=hr p u h; exact .one
 ·exact List.nodup_cons.2 ⟨by simp,List.nodup_nil⟩
 ·intro p
  constructor
  ·intro h
   have h:p∈[j]:=h;rw [List.mem_singleton] at h; subst h;exact ⟨_,if_pos rfl⟩
  ·rintro ⟨u,h⟩
   obtain ⟨rfl,_⟩:=hr p u h;exact List.mem_singleton.2 rfl
 ·intro q; exact Nat.le_refl _
 ·intro p _; rfl
 ·intro q u k hk; exact absurd hk (Nat.not_lt_zero _)
 ·intro q u h; rw [e]; rfl
 ·exact Nat.zero_le _
structure lB (n:Nat) (gs:List Nat->Prop) (T:bx):Prop where
 full:∀ j,j<n->Full n T j
 sub:∀ s∈(T 0).gens,Gr n gs s
 all:∀ s,gs s->Sd n (cw T) n s
theorem lB.new:lB n (fun _=>False) (mY n n):=by
 refine ⟨fun j hj=>JS hj,fun s hs=>?_,fun s h=>absurd h id⟩;unfold mY at hs
 by_cases h:0<n
 ·rw [if_pos h] at hs; cases hs
 ·rw [if_neg h] at hs; cases hs
theorem lB.add {gs gs':List Nat->Prop} {T T':bx} {x:List Nat} (h:lB n gs T) (hg:∀ s,gs' s↔gs s∨s=x) (eH:∀ s,gs' s->Gd n s) (ha:wQ n 0 T T' x):lB n gs' T':=by
 have hG:cz n (Gr n gs'):=Gr.dE eH;refine ⟨fun j hj=>ha.full j (Nat.zero_le _) hj,ha.gens _ hG (fun s hs=>Gr.sub hG (fun z hz=>.gen _ ((hg z).2 (.inl hz))) (h.sub s hs)) (.gen _ ((hg x).2 (.inr rfl))),fun s hs=>?_⟩
 rcases (hg s).1 hs with hs | rfl
 ·exact Sd.mono (fun j p u _ e=>ha.ext.rep j p u e) (h.all s hs)
 ·exact by have:=ha.sd; rwa [Nat.sub_zero] at this
theorem lB.Mt {n:Nat} {gs:List Nat->Prop} {T:bx} (h:lB n gs T) (hn:0<n) (eH:∀ s,gs s->Gd n s):mj n (Gr n gs) (cw T):=by
 have hT:wK n 0 (fun i s=>s∈(T i).gens) (cw T):=fY.Xm fun j _ b=>⟨(h.full j b).1,(h.full j b).2.1⟩;have h1:=hT.Mt hn;have g0:∀ s,s∈(T 0).gens->Gd n s:=(h.full 0 hn).1.Bm
 have e:∀ x,Gr n gs x↔Gr n (fun s=>s∈(T 0).gens) x:=fun x=>by
  constructor
  ·intro hx
   refine Gr.sub (Gr.dE g0) (fun s hs=>?_) hx;exact hT.gr (i:=0) (Nat.le_refl _) hn (d:=n) (by omega) (eH s hs) (h.all s hs) (by omega)
  ·intro hx
   exact Gr.sub (Gr.dE eH) h.sub hx
 exact ⟨h1.rp,fun i p u hi hu=>(e u).2 (h1.mem i p u hi hu),fun i x hi hx=>h1.all i x hi ⟨(e x).1 hx.1,hx.2⟩⟩
end Go.Proofs.Cm
namespace Go.Proofs.YtpedbljnhnoohaaGreat
open Go.RowKit
open Go.Proofs
section
open Go.Proofs.Cm (Lv bx cw)
attribute [local irreducible] Go.Calls
theorem Gn {n:Nat} (aU:1<=n) (aZ:n<=64):∀ d i,n - i<=d->i<n->Qc n i/\∀ k,i<=k->k<n->yV n k
 | 0,i,hd,hi=>by omega
 | d+1,i,hd,hi=>by
  have ih:=Gn aU aZ d
  have hc:∀ k,i<=k->k<n->yV n k:=fun k h1 h2=>by
   by_cases e:k=i
   ·subst e
    exact JI aU aZ h2 fun h=>(ih (k+1) (by omega) h).1
   ·exact (ih (i+1) (by omega) (by omega)).2 k (by omega) h2
  exact ⟨Qo aU aZ hi hc,hc⟩
def wR:Array Value:=(Array.range 194).map (fun m=>if m<130 then Value.slice none 0 0 else .int .i64 0)
theorem JT:(Tryz.prog.info? 145).map (fun i=>(i.zero.map Value.cells,i.size,i.bytes))=some (some wR,194,3632):=by kernel_rfl
theorem UU {m:Nat} (hm:m<194):wR[m]! = if m<130 then Value.slice none 0 0 else .int .i64 0:=by
 unfold wR;simp [hm]
theorem Ol (n:Nat) (hn:n<=1000000) (w:World):(Instr.makeSlice 135 (.int .i64 (n:Int)) (.int .i64 (n:Int))).run Tryz.prog w=.ok (.slice (some ⟨w.heap.size,0,none⟩) n n) (w.alloc (.cells (madeCells wR (n*194)) 145)):=by
 obtain ⟨i,hi,hz⟩:=Option.map_eq_some_iff.1 JT;simp only [Prod.mk.injEq] at hz;obtain ⟨h1,h2,h3⟩:=hz;obtain ⟨z,hz,h1⟩:=Option.map_eq_some_iff.1 h1;have hr:=run_make (P:=Tryz.prog) w 135 145 i z Tryz.underlying135 hi hz .i64 .i64 (n:Int) (n:Int) (by omega) (Int.le_refl _) (by rw [h3]; omega) (by omega);rw [hr,h2,h1];simp
def sO:LV:={ g:=.slice none 0 0,us:=[],o:=.slice none 0 0,t:=fun _=>.slice none 0 0,b:=fun _=>.slice none 0 0 }
theorem a_.start (n:Nat) (w:World) (hF:∀ k,F k->k<w.heap.size):a_ F w.heap.size n (w.alloc (.cells (madeCells wR (n*194)) 145)) (Cm.mY n 0) (fun _=>sO):=by
 have hN:∀ j,Cm.mY n 0 j=Cm.Qq:=fun j=>if_neg (Nat.not_lt_zero _);refine ⟨fun k hk=>by have:=hF k hk; simp; omega,fun h=>by have:=hF _ h; omega,?_,fun i hi=>?_,fun i j hi hj hne k h1 h2=>?_⟩
 ·have h:=World.rowIs_alloc w (madeCells wR (n*194)) 145 (fun j=>cont (Cm.mY n 0 (j / 194)) sO (j % 194)) (fun j hj=>?_)
  ·rwa [size_madeCells] at h
  ·have hs:wR.size=194:=by unfold wR; simp
   rw [size_madeCells] at hj;have hm:j % 194<194:=Nat.mod_lt _ (by decide);rw [hN]
   have e:(madeCells wR (n*194))[j]?=some (wR[j % 194]!):=by
    unfold madeCells;simp [hj,hs]
   rw [e,UU hm];unfold cont
   congr 1
   by_cases h0:j % 194=0
   ·simp [h0,sO]
   by_cases h1:j % 194=1
   ·simp [h1,sO]
   by_cases h2:j % 194<66
   ·simp [h0,h1,h2,sO]; omega
   by_cases h3:j % 194<130
   ·simp [h0,h1,h2,h3,sO]
   ·simp [h0,h1,h2,h3,Cm.Qq]
 ·rw [hN]
  refine ⟨?_,⟨rfl,fun i h=>absurd h (Nat.not_lt_zero _)⟩,?_,fun k h=>by simp [sO,Value.ownBlock] at h,fun k h=>by simp [sO,Value.ownBlock] at h,fun k h=>by simp [sO,Value.ownBlock] at h,fun p x _ h=>by simp [Cm.Qq] at h,fun p _ _=>⟨rfl,rfl⟩⟩
  ·exact World.ownsRow_nil ..
  ·exact World.ownsRow_nil ..
 ·rcases h1 with h1 | h1 <;> simp [sO,Value.ownBlock] at h1
def CJ (T:bx) (i p:Nat):bx:=fun j=>if j=i then { T j with orb:=[p] } else T j
theorem JU (n k:Nat):jL (CJ (Cm.mY n k) k k) k k (Ma.bs n)=Cm.mY n (k+1):=by
 funext j
 unfold jL CJ Cm.mY
 by_cases e:j=k
 ·subst e
  simp [Cm.Qq,Cm.Qr]
 ·by_cases h:j<k
  ·rw [if_neg e,if_neg e,if_pos h,if_pos (by omega)]
  ·rw [if_neg e,if_neg e,if_neg h,if_neg (by omega)]
theorem a_.aaH {w:World} {T:bx} {V:Nat->LV} (h:a_ F L n w T V) {i o:Nat} (hi:i<n) (ho:o=i*194+1) (p:Nat) :
  (∃ u,(w.alloc (.cells #[.int .i64 ((p:Nat):Int)] 3)).cell? ⟨L,o,none⟩=some u)/\(w.alloc (.cells #[.int .i64 ((p:Nat):Int)] 3)).frozen? ⟨L,o,none⟩=false /\
  ∃ V',a_ F L n ((w.alloc (.cells #[.int .i64 ((p:Nat):Int)] 3)).setCell ⟨L,o,none⟩ (.slice (some ⟨w.heap.size,0,none⟩) 1 1)) (CJ T i p) V'/\KF F w ((w.alloc (.cells #[.int .i64 ((p:Nat):Int)] 3)).setCell ⟨L,o,none⟩ (.slice (some ⟨w.heap.size,0,none⟩) 1 1)):=by
 subst ho;have hv:=h.lv i hi;have hb:BE w (w.alloc (.cells #[.int .i64 (p:Int)] 3)):=(Below.refl _ _).alloc (Nat.le_refl _) _;have gO:Rg.Kp (fun _=>False) w (w.alloc (.cells #[.int .i64 (p:Int)] 3)):=Rg.Kp.aD hb
 have cR:(w.alloc (.cells #[.int .i64 (p:Int)] 3)).heap.size=w.heap.size+1:=by simp
 have bH:=eY h.row gO id;have bV:=World.ownsRow_lit (base:=0) (e:=3) (size:=1) w #[.int .i64 (p:Int)] 1 (Nat.zero_le _) (by unfold maxLen; omega) rfl;generalize (w.alloc (.cells #[.int .i64 (p:Int)] 3))=X at *
 refine ⟨⟨_,(hb.cell (p:=⟨L,i*194+1,none⟩) h.lt).trans (xM h hi rfl)⟩,bH.frozen _,fun j=>if j=i then { V i with o:=.slice (some ⟨w.heap.size,0,none⟩) 1 1 } else V j,?_⟩
 have xN:=Mv (T:=T) (T':=CJ T i p) (V:=V) (V':=fun j=>if j=i then { V i with o:=.slice (some ⟨w.heap.size,0,none⟩) 1 1 } else V j) (x:=.slice (some ⟨w.heap.size,0,none⟩) 1 1)
  (fun k hk=>by have:=h.eP k hk; omega) h.LF bH (fun j hj hne=>(h.lv j hj).kp gO (fun _ _=>id) (fun _ _=>id))
  (fun a b ha hb fL _ _=>h.kU a b ha hb fL) hi (m:=1) (by omega) rfl (fun j hj=>⟨if_neg hj,if_neg hj⟩) ?_ ?_ ?_
 ·exact ⟨xN.1,Rg.Kp.trans (Rg.Kp.aD hb) xN.2 (fun _ _ e=>e)⟩
 ·intro m' ou
  simp only [if_true,CJ];unfold cont
  by_cases h0:m'=0
  ·simp [h0]
  by_cases h1:m'=1
  ·simp [h1]
  ·simp [h0,h1]
 ·simp only [if_true,CJ]
  have yB:=hv.kp gO (fun _ _=>id) (fun _ _=>id);have az:=hv.lt;refine ⟨yB.sM,yB.FU,bV,yB.gF,?_,?_,yB.some_,yB.none_⟩
  ·intro k e
   have e:w.heap.size=k:=by simpa [Value.ownBlock] using e
   subst e;exact ⟨fun hf=>by have:=h.eP _ hf; omega,by have:=h.lt; omega⟩
  ·intro k e e2
   have e2:w.heap.size=k:=by simpa [Value.ownBlock] using e2
   have:=az k (.inl e); omega
 ·intro j k hj hne e
  simp only [if_true] at e
  rcases e with e | e
  ·exact h.kU i j hi hj (Ne.symm hne) k (.inl e)
  ·have e:w.heap.size=k:=by simpa [Value.ownBlock] using e
   intro e2; have:=(h.lv j hj).lt k e2; omega

theorem Qs (args:Array Value) (w:World):(callFunc 119 args).run Tryz.prog w=.ok (.enter 119 args) w:=by kernel_rfl
theorem Bp {o:Oper} {a:Act} {w:World} {n:Int} {ad:Option Addr} {m c:Nat} (x y:Operand) (ho:o.op=.build 137 #[(0,x),(1,y)]) (hx:a.eval x=.int .i64 n) (hy:a.eval y=.slice ad m c) :
  (execOp a.eval o).run Tryz.prog w=.ok (.value (.agg #[.int .i64 n,.slice ad m c])) w:=by
 unfold execOp;simp only [ho,Sem.run_bind,Sem.run_pure];simp only [List.map_toArray,List.map_cons,List.map_nil,hx,hy]
 have h:(Instr.build 137 #[(0,.int .i64 n),(1,.slice ad m c)]).run Tryz.prog w=.ok (.agg #[.int .i64 n,.slice ad m c]) w:=by kernel_rfl
 first | (rw [h]; rfl) | (erw [h]; rfl)
theorem oB {o:Oper} {a:Act} {w:World} (t:TypeId) (x y:Operand) (ho:o.op=.makeSlice t x y) (n m:Value) (hx:a.eval x=n) (hy:a.eval y=m) (hr:(Instr.makeSlice t n m).run Tryz.prog w=.ok v w'):(execOp a.eval o).run Tryz.prog w=.ok (.value v) w':=by
 unfold execOp;simp [ho,hx,hy,hr,Result.andThen]
theorem Bq (aU:1<=n) (aZ:n<=64) (w:World) :
  Calls Tryz.prog 91 #[.int .i64 ((n:Nat):Int)] w fun e w'=>∃ (tb L:Nat) (F':Nat->Prop) (V':Nat->LV),e=.returned (.pointer (some ⟨tb,0,none⟩))/\KG (fun k=>k<w.heap.size) w F' w'/\a_ F' L n w' (Cm.mY n n) V'/\CF F' w' tb 0 (.int .i64 ((n:Nat):Int))/\CF F' w' tb 1 (.slice (some ⟨L,0,none⟩) n n):=by
 have Gp:=a_.start (F:=fun k=>k<w.heap.size) n w (fun _ h=>h);have ky:BE w (w.alloc (.cells (madeCells wR (n*194)) 145)):=(Below.refl _ _).alloc (Nat.le_refl _) _
 have dw:(w.alloc (.cells (madeCells wR (n*194)) 145)).heap.size=w.heap.size+1:=by simp
 have h_:=Ol n (by omega) w
 go_enter Tryz.func91,Tryz.ntmps91
 go_upto_region 1 with fail;refine c6<|j7 rfl<|j7 rfl<|k8 (oB _ _ _ rfl _ _ rfl rfl h_) ?_;go_frame;generalize w.alloc (.cells (madeCells wR (n*194)) 145)=w1 at *;refine k8 (Bp _ _ rfl rfl rfl) ?_;go_frame;clear h_;have bZ:BE w1 (w1.alloc (.cells #[.int .i64 (n:Int),.slice (some ⟨w.heap.size,0,none⟩) n n] 137)):=(Below.refl _ _).alloc (Nat.le_refl _) _
 have bJ:(w1.alloc (.cells #[.int .i64 (n:Int),.slice (some ⟨w.heap.size,0,none⟩) n n] 137)).heap.size=w1.heap.size+1:=by simp
 have Xx:∀ o,(w1.alloc (.cells #[.int .i64 (n:Int),.slice (some ⟨w.heap.size,0,none⟩) n n] 137)).cell? ⟨w1.heap.size,o,none⟩=(#[.int .i64 (n:Int),.slice (some ⟨w.heap.size,0,none⟩) n n]:Array Value)[o]?:=fun o=>Rg.aW ..;refine k8 (Rg.aY _ _ rfl rfl) ?_;go_frame;generalize w1.alloc (.cells #[.int .i64 (n:Int),.slice (some ⟨w.heap.size,0,none⟩) n n] 137)=w2 at *;refine j9 rfl ?_;go_frame;have HT:=U (Gp.up bZ);have Xy:cE (fun k=>k<w.heap.size) w1 w2 w1.heap.size:=.inr ⟨Nat.le_refl _,by omega⟩;have C0:=U (show CF _ _ w1.heap.size 0 (.int .i64 (n:Int)) from ⟨Xx 0,Xy,by omega⟩);have C1:=U (show CF _ _ w1.heap.size 1 (.slice (some ⟨w.heap.size,0,none⟩) n n) from ⟨Xx 1,Xy,by omega⟩)
 have K:=U (show KG (fun k=>k<w.heap.size) w (cE (fun k=>k<w.heap.size) w1 w2) w2 from ⟨fun k hk=>.inl hk,fun k hk=>by rcases hk with hk | hk <;> omega,KF.aD (ky.trans ⟨bZ.1,bZ.2,bZ.3,bZ.4,fun k hk=>bZ.5 k (by omega)⟩)⟩)
 generalize cE (fun k=>k<w.heap.size) w1 w2=F0 at HT C0 C1 K;clear Xy;generalize w1.heap.size=tb at *;obtain ⟨L,hL⟩:∃ L,w.heap.size=L:=⟨_,rfl⟩;rw [hL] at HT C1 ⊢;clear Gp ky dw bZ bJ Xx;go_upto_region 2 with fail;refine c6<|j9 rfl<|k8 (bh _ rfl rfl)<|k8 (j4 (kC _ _))<|k8 (g7 (.slice (some ⟨L,0,none⟩) n n) ⟨tb,1,none⟩ (Rg.ae _ _ Tryz.underlying135 C1.u.cell)) ?_;go_frame;refine k8 (g9 Tryz.underlying135)<|j7 rfl ?_;go_frame;go_wp2
 go_loopw [16] (fun kv wr=>∃ (k:Nat) (F1:Nat->Prop) (V1:Nat->LV),kv=.int .i64 k/\k<=n/\Hid (a_ F1 L n wr (Cm.mY n k) V1)/\Hid (CF F1 wr tb 0 (.int .i64 ((n:Nat):Int)))/\Hid (CF F1 wr tb 1 (.slice (some ⟨L,0,none⟩) n n))/\Hid (KG (fun k=>k<w.heap.size) w F1 wr)) (fun kv _=>n - (intOf kv).toNat)
 case atStart=>exact ⟨0,F0,_,rfl,Nat.zero_le _,HT,C0,C1,K⟩
 case round =>
  clear HT C0 C1 K;obtain ⟨k,F0,V1,rfl,hk,HT,C0,C1,K⟩:=hrel
  by_cases b_:k<n
  ·have gY:(k:Int)<(n:Int):=by omega
   have My:k<64:=by omega
   go_upto_region 5 with fail;refine c6<|j9 rfl<|k8 (bh _ rfl rfl)<|k8 (j4 (kC _ _))<|k8 (g7 (.slice (some ⟨L,0,none⟩) n n) ⟨tb,1,none⟩ (Rg.ae _ _ Tryz.underlying135 C1.u.cell)) ?_;go_frame;refine j7 rfl<|k8 (bn _ _ rfl Tryz.underlying135 iq L (n) (n) (k) rfl rfl b_)<|j9 rfl ?_;go_frame;go_upto_region 6 with fail;refine c6<|j9 rfl<|j7 rfl<|k8 (Rg.aF _ _ _ rfl (.int .i64 (k:Int)) rfl (jH wr _)) ?_;go_frame;obtain ⟨⟨u5,r2⟩,r3,V5,r4,r5⟩:=HT.u.aaH b_ (o:=k*194+1) rfl k;refine k8 (bh _ rfl rfl)<|k8 (j4 (Cz _ _ _))<|Rg.aG none rfl rfl (Rg.ak _ _ _ rfl _ rfl _ rfl (Rg.bz _ rP r2 r3)) ?_;go_frame;clear r2 r3;have eE:=KG.zp (KG.refl HT.u.eP) r5;generalize (wr.alloc (.cells #[.int .i64 ((k:Nat):Int)] 3)).setCell ⟨L,k*194+1,none⟩ (.slice (some ⟨wr.heap.size,0,none⟩) 1 1)=Br at *;replace C0:=U (C0.u.kg eE);replace C1:=U (C1.u.kg eE);replace K:=U (K.u.trans eE);replace HT:=U r4;clear eE r4 r5;go_upto_region 7 with fail;have aj:BE Br Br.drew:=(Below.refl _ _).drew;replace HT:=U (HT.u.up aj);replace C0:=U (C0.u.up aj);replace C1:=U (C1.u.up aj);replace K:=U (K.u.up aj);generalize cE F0 Br Br.drew=F1 at *;clear aj;refine Rg.Any.begin (S:=Rg.aK 11 (fun W=>Below Br.drew.heap.size Br.drew W) (fun _=>True)) mix ?_;generalize Br.drew=dr at *;have hS:∀ (l:Array Bool) W,BE dr W->Rg.aK 11 (fun W=>BE dr W) (fun _=>True) l W:=fun l W h=>⟨.inr h,trivial⟩;have cF:∀ (l:Array Bool) W,l.getD 11 false=true->Rg.aK 11 (fun W=>BE dr W) (fun _=>True) l W:=fun l W h=>⟨.inl h,trivial⟩;have hI:BE dr dr:=Below.refl _ _
   refine d8 0 11 (.pointer (some ⟨L,k*194,none⟩)) 30 (hS _ _ hI)<|d8 1 11 (.int .i64 (k:Int)) 31 (hS _ _ hI)<|d8 2 11 (.pointer (some ⟨L,k*194,none⟩)) 32 (hS _ _ hI)<|d8 3 11 (.int .i64 (k:Int)) 33 (hS _ _ hI)<|d8 4 11 (.int .i64 (n:Int)) 34 (hS _ _ hI) ?_;go_frame;refine d8 6 11 (.int .i64 (n:Int)) 36 (hS _ _ hI)<|d7 8 11 (.pointer (some ⟨L,k*194,none⟩)) 38 rfl rfl (j3 fun w=>bh _ rfl rfl) (hS _ _ hI)<|d7 9 11 (.pointer (some ⟨L,k*194+2,none⟩)) 39 rfl rfl (j3 fun w=>aw _ rfl rfl (xO _ _ _)) (hS _ _ hI)<|d7 12 11 (.pointer (some ⟨L,k*194,none⟩)) 41 rfl rfl (j3 fun w=>bh _ rfl rfl) (hS _ _ hI)<|d7 13 11 (.pointer (some ⟨L,k*194+66,none⟩)) 42 rfl rfl (j3 fun w=>aw _ rfl rfl (CC _ _ _)) (hS _ _ hI) ?_;go_frame;refine Rg.Any.one (i:=5) (by kernel_rfl) (Rg.Any.ask (some 35) rfl rfl rfl _ _ (aA 119 _ _ rfl rfl (Qs _ _)) ?_);refine (FZ (F:=F1) n dr aZ).mono ?_;rintro e1 jD ⟨av,rfl,kW,hb⟩;obtain ⟨ab,ao,ac,rfl⟩:=kW.du (Cm.iF n) aU;have jO:=Rg.acc hI hb;clear hI;replace HT:=U (HT.u.up hb);replace C0:=U (C0.u.up hb);replace C1:=U (C1.u.up hb);replace K:=U (K.u.up hb);have AF:=U kW;generalize cE F1 dr jD=F2 at *;clear hb;refine ⟨_,rfl,(hS _ _ jO),?_⟩;go_frame;refine Rg.Any.one (i:=7) (by kernel_rfl) (Rg.Any.ask (some 37) rfl rfl rfl _ _ (aA 119 _ _ rfl rfl (Qs _ _)) ?_);refine (FZ (F:=F2) n jD aZ).mono ?_;rintro e1 sm ⟨bv,rfl,P8,hb⟩;obtain ⟨bb,bo,bc,rfl⟩:=P8.du (Cm.iF n) aU;have tA:=Rg.acc jO hb;clear jO;replace HT:=U (HT.u.up hb);replace C0:=U (C0.u.up hb);replace C1:=U (C1.u.up hb);replace AF:=U (AF.u.up hb);replace K:=U (K.u.up hb);have BF:=U P8;generalize cE F2 jD sm=F3 at *;clear hb;refine ⟨_,rfl,(hS _ _ tA),?_⟩;go_frame;refine d7 10 11 (.pointer (some ⟨L,k*194+2+k,none⟩)) 40 rfl rfl (j3 fun w=>bB _ _ rfl Tryz.underlying142 uP L (k*194+2) (k) rfl rfl My) (hS _ _ tA) ?_;go_frame;refine Rg.Any.one (i:=11) (by kernel_rfl) (Rg.Any.dx none rfl rfl rfl (Rg.ak _ _ _ rfl _ rfl _ rfl (Rg.bz _ cX (tj HT.u b_ My (by omega)) (HT.u.frozen _))) (cF _ _ rfl) ?_);go_frame;refine d7 14 11 (.pointer (some ⟨L,k*194+66+k,none⟩)) 43 rfl rfl (j3 fun w=>bB _ _ rfl Tryz.underlying142 uP L (k*194+66) (k) rfl rfl My) (cF _ _ rfl) ?_;go_frame;have cA:=HT.u.row.set (k*194+2+k) (.slice (some ⟨ab,ao,none⟩) n ac);refine Rg.Any.one (i:=15) (by kernel_rfl) (Rg.Any.dx none rfl rfl rfl (Rg.ak _ _ _ rfl _ rfl _ rfl (Rg.bz _ cX (cA.cell (by omega)) (cA.frozen _))) (cF _ _ rfl) ?_)
   go_frame;clear cA;refine Rg.Any.done (by kernel_rfl) ?_ _;clear cF;clear hS tA;obtain ⟨V4,JM,Qi⟩:=HT.u.jL b_ My (o1:=k*194+2+k) (o2:=k*194+66+k) (by omega) (by omega) AF.u (by rw [Cm.inv_one]; exact BF.u);rw [JU] at JM;have eE:=KG.zp (KG.refl HT.u.eP) Qi;generalize (sm.setCell ⟨L,k*194+2+k,none⟩ (.slice (some ⟨ab,ao,none⟩) n ac)).setCell ⟨L,k*194+66+k,none⟩ (.slice (some ⟨bb,bo,none⟩) n bc)=Xs at *;replace C0:=U (C0.u.kg eE);replace C1:=U (C1.u.kg eE);replace K:=U (K.u.trans eE);replace HT:=U JM;clear eE Qi JM AF BF;go_wp2;go_roundw
   case rel=>exact ⟨k+1,_,V4,by go_num,by omega,HT,C0,C1,K⟩
   case measure=>simp [intOf]; omega
  ·obtain rfl:k=n:=by omega
   have gY:¬ (k:Int)<(k:Int):=by omega
   go_wp2;go_ret;exact ⟨tb,rfl,L,F0,by rw [<- hL]; exact K.u,⟨V1,HT.u⟩,C0.u,C1.u⟩

theorem Xz (args:Array Value) (w:World):(callFunc 91 args).run Tryz.prog w=.ok (.enter 91 args) w:=by kernel_rfl
def GS (F:Nat->Prop) (w:World) (v:Value) (gs:List (List Nat)):Prop:=∃ a c,v=.slice a gs.length c/\(0<gs.length->∃ b o,a=some ⟨b,o,none⟩/\∀ k (hk:k<gs.length),∃ u,CF F w b (o+k) u/\FP F w u gs[k])
theorem FP.zx {w:World} {x:List Nat} (h:Rg.NP w v x):FP (fun k=>k<w.heap.size) w v x:=by
 obtain ⟨a,cap,h1,h2,h3,h4,h5⟩:=h;refine ⟨a,cap,h1,h2,h3,h4,fun h0=>?_⟩;obtain ⟨b,o,e1,e2,e3⟩:=h5 h0;exact ⟨b,o,e1,e2,e2,e3⟩
theorem GS.Gq {w:World} (h:Rg.Rows w v (gs.map Ma.ah)):GS (fun k=>k<w.heap.size) w v gs:=by
 obtain ⟨a,cap,e,h2,h3,h4,h5⟩:=h.shape;rw [List.length_map] at e;refine ⟨a,cap,e,fun h0=>?_⟩;obtain ⟨b,o,e1,e2,e3⟩:=h5 (by rw [List.length_map]; exact h0);refine ⟨b,o,e1,fun k hk=>?_⟩;obtain ⟨u,hu,hi⟩:=e3 k (by rw [List.length_map]; exact hk);rw [List.getElem_map] at hi;exact ⟨u,⟨hu,e2,e2⟩,FP.zx hi⟩
theorem JV (aU:1<=n) (aZ:n<=64) {w:World} (hv:GS (fun k=>k<w.heap.size) w v gs) (hg:∀ s∈gs,Cm.Gd n s) (kE:gs.length<=1000000) :
  Calls Tryz.prog 69 #[.int .i64 ((n:Nat):Int),v] w fun e w'=>∃ (tb L:Nat) (F':Nat->Prop) (T':bx) (V':Nat->LV),e=.returned (.pointer (some ⟨tb,0,none⟩))/\KG (fun k=>k<w.heap.size) w F' w'/\a_ F' L n w' T' V'/\CF F' w' tb 0 (.int .i64 ((n:Nat):Int))/\CF F' w' tb 1 (.slice (some ⟨L,0,none⟩) n n)/\Cm.lB n (·∈gs) T':=by
 obtain ⟨ga,gc,rfl,jr⟩:=hv;have qF:=U jr;have HG:=U hg;have Qd:=U ((Gn aU aZ n 0 (by omega) (by omega)).1);clear jr hg
 go_enter Tryz.func69,Tryz.ntmps69
 go_upto_region 1 with fail;refine c6<|j7 rfl ?_;go_frame;refine f4 9 (aA 91 _ _ rfl rfl (Xz _ _)) ?_;refine (Bq aU aZ w).mono ?_;rintro e1 w1 ⟨tb,L,F1,V1,rfl,gO,zw,xP,xQ⟩;refine ⟨_,rfl,?_⟩;go_frame;have HT:=U zw;have C0:=U xP;have C1:=U xQ;have K:=U gO;clear gO;refine j9 rfl ?_;go_frame;clear zw xP xQ;have HB:=U (show Cm.lB n (·∈gs.take 0) (Cm.mY n n) by have:=Cm.lB.new (n:=n); simpa using this);go_wp2
 go_loopw [12] (fun kv wr=>∃ (k:Nat) (F1:Nat->Prop) (T1:bx) (V1:Nat->LV),kv=.int .i64 k/\k<=gs.length/\Hid (a_ F1 L n wr T1 V1)/\Hid (CF F1 wr tb 0 (.int .i64 ((n:Nat):Int)))/\Hid (CF F1 wr tb 1 (.slice (some ⟨L,0,none⟩) n n))/\Hid (KG (fun k=>k<w.heap.size) w F1 wr)/\Hid (Cm.lB n (·∈gs.take k) T1)) (fun kv _=>gs.length - (intOf kv).toNat)
 case atStart=>exact ⟨0,F1,_,V1,rfl,Nat.zero_le _,HT,C0,C1,K,HB⟩
 case round =>
  clear HT C0 C1 K HB;obtain ⟨k,F1,T1,V1,rfl,hk,HT,C0,C1,K,HB⟩:=hrel
  by_cases b_:k<gs.length
  ·have gY:(k:Int)<(gs.length:Int):=by omega
   have jr:=qF.u;obtain ⟨gb,go,rfl,Gs⟩:=jr (by omega);obtain ⟨u,oC,yH⟩:=Gs k b_;have GX:=U (HG.u _ (List.getElem_mem b_));obtain ⟨x,hx⟩:∃ x,Hid (gs[k]=x):=⟨_,U rfl⟩;rw [hx.u] at yH GX;obtain ⟨ub,uo,uc,rfl⟩:=yH.du GX.u aU;have CU:=U (oC.kg K.u);have X:=U (yH.kg K.u);have ba:=U b_;clear jr Gs oC yH;go_upto_region 4 with fail;refine c6<|k8 (ag aM _ _ rfl gb (go) (gs.length) gc (k) rfl rfl ba.u)<|k8 (g7 (.slice (some ⟨ub,uo,none⟩) n uc) ⟨gb,go+k,none⟩ (Rg.ae _ _ Tryz.underlying27 CU.u.cell))<|j8 rfl ?_;go_frame;go_upto_region 5 with fail;refine c6<|j9 rfl<|j8 rfl ?_;go_frame;refine f4 18 (dm 92 _ _ _ _ rfl rfl rfl rfl (Qb _ _)) ?_;refine (Qd.u _ L tb _ _ _ _ _ HT.u C0.u C1.u X.u GX.u (fun j h=>absurd h (Nat.not_lt_zero _)) (fun j _ h=>HB.u.full j h)).mono ?_;rintro e1 gA ⟨F9,T9,V9,rfl,lR,Gm,Qn⟩;have wS:=U (HB.u.add (gs':=(·∈gs.take (k+1))) (fun s=>by rw [List.take_succ_eq_append_getElem ba.u,hx.u]; simp) (fun s hs=>HG.u s (List.mem_of_mem_take hs)) Qn);clear Qn;refine ⟨_,rfl,?_⟩;go_frame;replace HT:=U Gm;replace C0:=U (C0.u.kg lR);replace C1:=U (C1.u.kg lR);replace CU:=U (CU.u.kg lR);replace X:=U (X.u.kg lR);replace K:=U (K.u.trans lR);clear lR Gm;go_wp2;go_roundw
   case rel=>exact ⟨k+1,F9,T9,V9,by go_num,ba.u,HT,C0,C1,K,wS⟩
   case measure=>simp [intOf]; have:=ba.u; omega
  ·obtain rfl:k=gs.length:=by omega
   have gY:¬ (gs.length:Int)<(gs.length:Int):=by omega
   have wS:=U (by have:=HB.u; rwa [List.take_length] at this);go_wp2;go_ret;exact ⟨tb,rfl,L,F1,K.u,T1,⟨V1,HT.u⟩,C0.u,C1.u,wS.u⟩
end
section
open Go.Proofs.Cm (Lv bx cw)
attribute [local irreducible] Go.Calls Go.wpList
theorem JW (aU:1<=n) (aZ:n<=64) {w:World} {T:bx} {V:Nat->LV} (hT:a_ F0 L n w T V) (cI:CF F0 w tb 0 (.int .i64 ((n:Nat):Int))) (dp:CF F0 w tb 1 (.slice (some ⟨L,0,none⟩) n n)) (hH:Cm.cz n H) (dJ:Cm.mj n H (cw T)) (hl:∀ j,j<n->Cm.fY n T j) {x:List Nat} {i:Nat} (hx:FP F0 w xv x) (gx:Cm.Gd n x) (hi:i<n) :
  Calls Tryz.prog 95 #[.pointer (some ⟨tb,0,none⟩),xv,.int .i64 ((i:Nat):Int)] w fun e w'=>∃ F' yv y,e=.returned yv/\KG F0 w F' w'/\a_ F' L n w' T V/\FP F' w' yv y/\Cm.LI H i n x y/\Cm.Gd n y/\BE w w':=by
 have K:=U (KG.refl hT.eP);have HT:=U hT;have C0:=U cI;have C1:=U dp;have X:=U hx;have HH:=U hH;have p9:=U dJ;have HL:=U hl;have GX:=U gx;have KB:=U (bi w);have oD:=U (Cm.LI.start hH hi gx);have uT:=cI.cell;clear hT cI dp hx hH dJ hl gx
 go_enter Tryz.func95,Tryz.ntmps95
 go_wp2
 go_loopw [7,1] (fun kv yv wr=>∃ (k:Nat) (y:List Nat) (F1:Nat->Prop),kv=.int .i64 k/\i<k/\k<=n/\Hid (FP F1 wr yv y)/\Hid (a_ F1 L n wr T V)/\Hid (CF F1 wr tb 0 (.int .i64 ((n:Nat):Int)))/\Hid (CF F1 wr tb 1 (.slice (some ⟨L,0,none⟩) n n))/\Hid (KG F0 w F1 wr)/\Hid (BE w wr)/\Hid (Cm.Gd n y)/\Hid (Cm.LI H i k x y)) (fun kv _ _=>n - (intOf kv).toNat)
 case atStart=>exact ⟨i+1,x,F0,by go_num,by omega,by omega,X,HT,C0,C1,K,KB,GX,oD⟩
 case round =>
  clear X HT C0 C1 K KB uT oD;obtain ⟨k,y,F,rfl,gO,dF,X,HT,C0,C1,K,KB,GY,oD⟩:=hrel;have uT:=C0.u.cell
  by_cases b_:k<n
  ·have gY:(k:Int)<(n:Int):=by omega
   obtain ⟨yb,yo,yc,rfl⟩:=X.u.du GY.u aU;have yI:=HL.u k b_;obtain ⟨oa,oc,nH⟩:=HT.u.pW b_;have CO:=U (CL.mk (show wr.cell? ⟨L,k*194+1,none⟩=some (.slice oa (T k).orb.length oc) by rw [xM HT.u b_ rfl,nH]) HT.u.lt);have lC:=U (show ∀ m (h:m<(T k).orb.length),m<0->Cm.ap y k<=Cm.ap y (T k).orb[m] from fun m _ h=>absurd h (Nat.not_lt_zero _));have oG:=U (show ∃ u,cw T k k=some u from ⟨_,yI.self⟩);have ba:=U b_;clear yI;go_upto_region 5 with fail;refine c6<|j9 rfl<|k8 (bh _ rfl rfl)<|k8 (j4 (kC _ _))<|k8 (g7 (.slice (some ⟨L,0,none⟩) n n) ⟨tb,1,none⟩ (Rg.ae _ _ Tryz.underlying135 C1.u.cell)) ?_;go_frame;refine j7 rfl<|k8 (bn _ _ rfl Tryz.underlying135 iq L (n) (n) (k) rfl rfl ba.u)<|k8 (j4 (Cz _ _ _))<|k8 (g7 (.slice oa (T k).orb.length oc) ⟨L,k*194+1,none⟩ (Rg.ae _ _ Tryz.underlying26 CO.u.cell))<|k8 (g9 Tryz.underlying26) ?_;go_frame;refine j7 rfl ?_;go_frame;clear CO uT;go_wp2
   go_loopw [8,31] (fun bv iv wr=>∃ (b m:Nat) (F1:Nat->Prop),bv=.int .i64 b/\iv=.int .i64 m/\m<=(T k).orb.length/\b<n/\Hid (FP F1 wr (.slice (some ⟨yb,yo,none⟩) n yc) y)/\Hid (a_ F1 L n wr T V)/\Hid (CF F1 wr tb 0 (.int .i64 ((n:Nat):Int)))/\Hid (CF F1 wr tb 1 (.slice (some ⟨L,0,none⟩) n n))/\Hid (KG F0 w F1 wr)/\Hid (BE w wr)/\Hid (∃ u,cw T k b=some u)/\Hid (∀ m' (h:m' < (T k).orb.length),m' < m->Cm.ap y b<=Cm.ap y (T k).orb[m'])) (fun _ iv _=>(T k).orb.length - (intOf iv).toNat)
   case atStart=>exact ⟨k,0,F,rfl,rfl,Nat.zero_le _,b_,X,HT,C0,C1,K,KB,oG,lC⟩
   case round =>
    clear X HT C0 C1 K KB oG lC;obtain ⟨b,m,F,rfl,rfl,hm,p_,X,HT,C0,C1,K,KB,oG,lC⟩:=hrel;have XA:=Cm.om (HL.u k b_)
    have Of:((T k).orb.length:Int)<=64:=by omega
    by_cases gB:m<(T k).orb.length
    ·have uX:(m:Int)<((T k).orb.length:Int):=by omega
     obtain ⟨og,oH,WD,aP,kX⟩:=HT.u.Ww b_ gB;rw [nH] at WD
     injection WD with e1 _ e2
     subst e1 e2;obtain ⟨q,hq⟩:∃ q:Nat,Hid (q=(T k).orb[m]):=⟨_,U rfl⟩;rw [<- hq.u] at aP;have CQ:=U (CL.mk aP kX);have fM:=U gB;have XB:=((HL.u k b_).orb q).1 (by rw [hq.u]; exact List.getElem_mem gB);have zy:=U (show ∃ u,cw T k q=some u from XB)
     have gP:q<n:=by obtain ⟨u,hu⟩:=XB; exact (HL.u k b_).DS q u hu
     have jP:=U (X.u.ap GY.u gP);have jQ:=U (X.u.ap GY.u p_);obtain ⟨yq,zz⟩:∃ z:Nat,Hid (z=Cm.ap y q):=⟨_,U rfl⟩;obtain ⟨qG,zA⟩:∃ z:Nat,Hid (z=Cm.ap y b):=⟨_,U rfl⟩;rw [<- zz.u] at jP;rw [<- zA.u] at jQ;clear aP kX XB
     by_cases az:yq<qG
     ·have Gt:(yq:Int)<(qG:Int):=by omega
      go_upto_region 7 with fail;refine c6<|k8 (ag aQ _ _ rfl og (0) ((T k).orb.length) oc (m) rfl rfl fM.u)<|k8 (g7 (.int .i64 (q:Int)) ⟨og,0+m,none⟩ (af CQ.u.cell))<|j7 rfl ?_;go_frame;go_upto_region 8 with fail;have d_:BE wr wr.drew:=(Below.refl _ _).drew;replace KB:=U (Rg.acc KB.u d_);clear d_;have aj:BE wr wr.drew:=(Below.refl _ _).drew;replace HT:=U (HT.u.up aj);replace C0:=U (C0.u.up aj);replace C1:=U (C1.u.up aj);replace X:=U (X.u.up aj);replace CQ:=U (CQ.u.up aj);replace jP:=U (jP.u.up aj);replace jQ:=U (jQ.u.up aj);replace K:=U (K.u.up aj);generalize cE F wr wr.drew=F1 at *;clear aj;refine Rg.Any.begin (S:=Rg.aK 8 (fun _=>True) (fun W=>Below wr.drew.heap.size wr.drew W)) mix ?_;generalize wr.drew=w1 at *;have hS:∀ (l:Array Bool) W,BE w1 W->Rg.aK 8 (fun _=>True) (fun W=>BE w1 W) l W:=fun l W h=>⟨.inr trivial,h⟩;have hI:BE w1 w1:=Below.refl _ _;refine d8 0 8 (.slice (some ⟨yb,yo,none⟩) n yc) 35 (hS _ _ hI)<|d8 1 8 (.int .i64 (q:Int)) 36 (hS _ _ hI)<|d7 2 8 (.pointer (some ⟨yb,yo+q,none⟩)) 37 rfl rfl (Rg.ai bC _ _ rfl rfl yb (yo) (n) yc (q) rfl rfl gP) (hS _ _ hI)<|d7 3 8 (.int .i64 (yq:Int)) 38 rfl rfl (j2 ⟨yb,yo+q,none⟩ (fun W hW=>af ((Below.cell (p:=⟨yb,yo+q,none⟩) hW jP.u.lt).trans jP.u.cell))) (hS _ _ hI)<|d8 4 8 (.slice (some ⟨yb,yo,none⟩) n yc) 39 (hS _ _ hI) ?_;go_frame;refine d8 5 8 (.int .i64 (b:Int)) 40 (hS _ _ hI)<|d7 6 8 (.pointer (some ⟨yb,yo+b,none⟩)) 41 rfl rfl (Rg.ai bC _ _ rfl rfl yb (yo) (n) yc (b) rfl rfl p_) (hS _ _ hI)<|d7 7 8 (.int .i64 (qG:Int)) 42 rfl rfl (j2 ⟨yb,yo+b,none⟩ (fun W hW=>af ((Below.cell (p:=⟨yb,yo+b,none⟩) hW jQ.u.lt).trans jQ.u.cell))) (hS _ _ hI)<|j1 8 43 rfl rfl (g8 (.bool true) .lss (h:=aI _ f7)) (hS _ _ hI) ?_;go_frame
      refine Rg.Any.done (by kernel_rfl) ?_ _;clear hS hI
      have nJ:=U (show ∀ m' (h:m' < (T k).orb.length),m' < m+1->Cm.ap y q<=Cm.ap y (T k).orb[m'] from fun m' h h2=>by
       have a1:=zz.u;have a2:=zA.u
       by_cases e:m'=m
       ·subst e
        rw [<- hq.u]; omega
       ·have:=lC.u m' h (by omega)
        omega)
      simp only [Nat.zero_add];go_wp2;go_roundw
      case rel=>exact ⟨q,m+1,_,rfl,by go_num,fM.u,gP,X,HT,C0,C1,K,KB,zy,nJ⟩
      case measure=>simp [intOf]; have:=fM.u; omega
     ·have Gt:¬ (yq:Int)<(qG:Int):=by omega
      go_upto_region 7 with fail;refine c6<|k8 (ag aQ _ _ rfl og (0) ((T k).orb.length) oc (m) rfl rfl fM.u)<|k8 (g7 (.int .i64 (q:Int)) ⟨og,0+m,none⟩ (af CQ.u.cell))<|j7 rfl ?_;go_frame;go_upto_region 8 with fail;have d_:BE wr wr.drew:=(Below.refl _ _).drew;replace KB:=U (Rg.acc KB.u d_);clear d_;have aj:BE wr wr.drew:=(Below.refl _ _).drew;replace HT:=U (HT.u.up aj);replace C0:=U (C0.u.up aj);replace C1:=U (C1.u.up aj);replace X:=U (X.u.up aj);replace CQ:=U (CQ.u.up aj);replace jP:=U (jP.u.up aj);replace jQ:=U (jQ.u.up aj);replace K:=U (K.u.up aj);generalize cE F wr wr.drew=F1 at *;clear aj;refine Rg.Any.begin (S:=Rg.aK 8 (fun _=>True) (fun W=>Below wr.drew.heap.size wr.drew W)) mix ?_;generalize wr.drew=w2 at *;have hS:∀ (l:Array Bool) W,BE w2 W->Rg.aK 8 (fun _=>True) (fun W=>BE w2 W) l W:=fun l W h=>⟨.inr trivial,h⟩;have hI:BE w2 w2:=Below.refl _ _;refine d8 0 8 (.slice (some ⟨yb,yo,none⟩) n yc) 35 (hS _ _ hI)<|d8 1 8 (.int .i64 (q:Int)) 36 (hS _ _ hI)<|d7 2 8 (.pointer (some ⟨yb,yo+q,none⟩)) 37 rfl rfl (Rg.ai bC _ _ rfl rfl yb (yo) (n) yc (q) rfl rfl gP) (hS _ _ hI)<|d7 3 8 (.int .i64 (yq:Int)) 38 rfl rfl (j2 ⟨yb,yo+q,none⟩ (fun W hW=>af ((Below.cell (p:=⟨yb,yo+q,none⟩) hW jP.u.lt).trans jP.u.cell))) (hS _ _ hI)<|d8 4 8 (.slice (some ⟨yb,yo,none⟩) n yc) 39 (hS _ _ hI) ?_;go_frame;refine d8 5 8 (.int .i64 (b:Int)) 40 (hS _ _ hI)<|d7 6 8 (.pointer (some ⟨yb,yo+b,none⟩)) 41 rfl rfl (Rg.ai bC _ _ rfl rfl yb (yo) (n) yc (b) rfl rfl p_) (hS _ _ hI)<|d7 7 8 (.int .i64 (qG:Int)) 42 rfl rfl (j2 ⟨yb,yo+b,none⟩ (fun W hW=>af ((Below.cell (p:=⟨yb,yo+b,none⟩) hW jQ.u.lt).trans jQ.u.cell))) (hS _ _ hI)<|j1 8 43 rfl rfl (g8 (.bool false) .lss (h:=aI _ f8)) (hS _ _ hI) ?_;go_frame
      refine Rg.Any.done (by kernel_rfl) ?_ _;clear hS hI
      have nJ:=U (show ∀ m' (h:m' < (T k).orb.length),m' < m+1->Cm.ap y b<=Cm.ap y (T k).orb[m'] from fun m' h h2=>by
       have a1:=zz.u;have a2:=zA.u
       by_cases e:m'=m
       ·subst e
        rw [<- hq.u]; omega
       ·have:=lC.u m' h (by omega)
        omega)
      simp only [Nat.zero_add];go_wp2;go_roundw
      case rel=>exact ⟨b,m+1,_,rfl,by go_num,fM.u,p_,X,HT,C0,C1,K,KB,oG,nJ⟩
      case measure=>simp [intOf]; have:=fM.u; omega
    ·obtain rfl:m=(T k).orb.length:=by omega
     have uX:¬ ((T k).orb.length:Int)<((T k).orb.length:Int):=by omega
     have xR:=U (show ∀ q',cw T k q'≠none->Cm.ap y b<=Cm.ap y q' from fun q' FM=>by
      obtain ⟨u,hu⟩:=Option.ne_none_iff_exists'.1 FM;obtain ⟨m',ou,rfl⟩:=List.getElem_of_mem (((HL.u k b_).orb q').2 ⟨u,hu⟩)
      exact lC.u m' ou ou)
     obtain ⟨u,hu⟩:=oG.u;have Gu:=U (Cm.LI.step HH.u p9.u GX.u gO b_ oD.u hu xR.u);have GU:=U ((HL.u k b_).zi b u hu);have GM:=U (Cm.bm GU.u GY.u)
     have Qt:b<64:=by omega
     clear xR lC oG
     by_cases nK:b=k
     ·have Qu:(b:Int)=(k:Int):=by omega
      have HE:=U (show Ma.aq u y=y by
       subst nK;have:=(HL.u b b_).self;have e:some u=some (Ma.bs n):=hu.symm.trans this
       injection e with e
       rw [e,Cm.one_mul GY.u])
      clear nK hu;go_upto_region 11 with fail;refine c6<|j7 rfl<|j7 rfl<|k8 (g8 (.bool false) .neq (h:=aE _ f8)) ?_;go_frame;have uT:=C0.u.cell;go_wp2;go_roundw
      case rel=>exact ⟨k+1,y,_,by go_num,by omega,by omega,X,HT,C0,C1,K,KB,GY,U (by have:=Gu.u; rwa [HE.u] at this)⟩
      case measure=>simp [intOf]; omega
     ·have Qu:¬ (b:Int)=(k:Int):=by omega
      obtain ⟨ub,uo,uc,Gf,Gg⟩:=HT.u.UO b_ Qt hu GU.u aU;have UP:=U Gg;have CU:=U (CL.mk (show wr.cell? ⟨L,k*194+2+b,none⟩=some (.slice (some ⟨ub,uo,none⟩) n uc) by rw [tj HT.u b_ Qt (by omega),Gf]) HT.u.lt);clear nK hu Gf Gg;go_upto_region 11 with fail;refine c6<|j7 rfl<|j7 rfl<|k8 (g8 (.bool true) .neq (h:=aE _ f7)) ?_;go_frame;go_upto_region 12 with fail;refine c6<|j9 rfl<|k8 (bh _ rfl rfl)<|k8 (j4 (kC _ _))<|k8 (g7 (.slice (some ⟨L,0,none⟩) n n) ⟨tb,1,none⟩ (Rg.ae _ _ Tryz.underlying135 C1.u.cell)) ?_;go_frame;refine j7 rfl<|j7 rfl<|k8 (bn _ _ rfl Tryz.underlying135 iq L (n) (n) (k) rfl rfl ba.u)<|k8 (j4 (xO _ _ _))<|k8 (bB _ _ rfl Tryz.underlying142 uP L (k*194+2) (b) rfl rfl Qt) ?_;go_frame;refine k8 (g7 (.slice (some ⟨ub,uo,none⟩) n uc) ⟨L,k*194+2+b,none⟩ (Rg.ae _ _ Tryz.underlying27 CU.u.cell))<|j8 rfl ?_;go_frame;refine f4 60 (ax 117 _ _ _ rfl rfl rfl (zr _ _)) ?_;refine (uS UP.u X.u GU.u GY.u aU aZ).mono ?_;rintro e1 w3 ⟨mv,rfl,gX,hb⟩;replace KB:=U (Rg.acc KB.u hb);refine ⟨_,rfl,?_⟩;go_frame;replace HT:=U (HT.u.up hb);replace C0:=U (C0.u.up hb);replace C1:=U (C1.u.up hb);replace X:=U (X.u.up hb);replace UP:=U (UP.u.up hb);replace CU:=U (CU.u.up hb);replace K:=U (K.u.up hb);have MV:=U gX;generalize cE F wr w3=F1 at *;clear hb;refine j6 (mv) rfl ?_;go_frame;have uT:=C0.u.cell;go_wp2;go_roundw
      case rel=>exact ⟨k+1,_,_,by go_num,by omega,by have:=ba.u; omega,MV,HT,C0,C1,K,KB,GM,Gu⟩
      case measure=>simp [intOf]; have:=ba.u; omega
  ·obtain rfl:k=n:=by omega
   have gY:¬ (k:Int)<(k:Int):=by omega
   go_wp2;go_ret;exact ⟨_,_,rfl,K.u,HT.u,y,X.u,oD.u,GY.u,KB.u⟩
end
section
open Go.Shelf
attribute [local go_sem] Oper.semAt_some
def upto {α:Type} (f:Nat->α) (k:Nat):List α:=(List.range k).map f
theorem zB {α:Type} (f:Nat->α) (k:Nat):upto f (k+1)=upto f k++[f k]:=by simp [upto,List.range_succ]
theorem D6 {α:Type} (f:Nat->α) (k:Nat):(upto f k).length=k:=by simp [upto]
theorem Om (zs:List Int):upto (fun j=>zs[j]?.getD 0) zs.length=zs:=by
 apply List.ext_getElem
 ·simp [upto]
 ·intro i h1 h2
  simp [upto,h2]
theorem JX (zs:List Int) {k:Nat} (hk:k<=zs.length):upto (fun j=>zs[j]?.getD 0) k=zs.take k:=by
 apply List.ext_getElem
 ·simp [upto,hk]
 ·intro i h1 h2
  have:i<zs.length:=by simp [upto] at h1; omega
  simp [upto,this]
theorem Gv (F:Fence) (n:Nat) (h7:F.fn 124) (hro:F.round=none) (hn:1<=n) (l Bs n₀ b off len cap:Nat) (zs:List Int) (Mz:len*8<=140737488351232) (hb:b<n₀) (J Jx:List Int->World->Prop)
  (hY:∀ pre x W,J pre W->pre.length<len->YieldAt F (n - 1) Tryz.prog l #[.int .i64 x] W fun e W' =>
   (e=.returned (.bool true)/\J (pre++[x]) W'/\Below n₀ W W')∨(e=.returned (.bool false)/\Jx (pre++[x]) W'))
  (W:World) (zC:W.cell? ⟨Bs,0,none⟩=some (.slice (some ⟨b,off,none⟩) len cap)) (hc:∀ j,j<len->W.cell? ⟨b,off+j,none⟩=some (.int .i64 (zs[j]?.getD 0))) (h0:J [] W) :
  CallsIn F n Tryz.prog 124 #[.func (.yield l) #[] #[],.pointer (some ⟨Bs,0,none⟩)] W fun e W'=>(∃ v,e=.returned v) /\
   ((∃ ys,ys=upto (fun j=>zs[j]?.getD 0) len/\J ys W')∨(∃ pre,(∃ k,k<=len/\pre=upto (fun j=>zs[j]?.getD 0) k)/\Jx pre W')):=by
 refine callsIn_of_wp Tryz.func124 rfl h7 ?_ hro;simp only [Tryz.ntmps124,List.size_toArray,List.length_cons,List.length_nil,Nat.reduceAdd,Nat.reduceSub,Array.replicate_succ,Array.replicate_zero,List.push_toArray,List.append_toArray,List.nil_append,List.cons_append]
 gi_wp2
 gi_loopw [7] (fun i wr=>∃ k:Nat,k<=len/\i=.int .i64 k/\J (upto (fun j=>zs[j]?.getD 0) k) wr/\Below n₀ W wr)
  (fun i _=>len - (intOf i).toNat)
 case atStart=>exact ⟨0,Nat.zero_le _,rfl,h0,Below.refl _ _⟩
 case round =>
  obtain ⟨k,hk,rfl,Qv,Qw⟩:=hrel;have tB:k<len->wr.cell? ⟨b,off+k,none⟩=some (.int .i64 (zs[k]?.getD 0)):=fun h=>(Qw.cell (p:=⟨b,off+k,none⟩) hb).trans (hc k h)
  by_cases az:k<len
  ·obtain ⟨fn,tmps,assign,body,hy,hR⟩:=hY _ (zs[k]?.getD 0) wr Qv (by rw [D6]; exact az)
   have abH:=tB az
   gi_wp2
   refine hR.mono ?_
   rintro e W3 (⟨rfl,XC,jN⟩ | ⟨rfl,Qx⟩)
   ·gi_wp2
    go_roundw
    case rel=>exact ⟨k+1,by omega,by simp,by rw [zB]; exact XC,Qw.trans jN⟩
    case measure=>simp [intOf]; omega
   ·gi_wp2
    refine bodyPost_ret (results_none rfl _ _ _) rfl ?_;exact ⟨⟨_,rfl⟩,.inr ⟨_,⟨k+1,by omega,(zB _ _).symm⟩,Qx⟩⟩
  ·obtain rfl:k=len:=by omega
   gi_wp2
   go_end0
   exact ⟨⟨_,rfl⟩,.inl ⟨_,rfl,Qv⟩⟩
def js (n₀:Nat) (W:World) (sv:Value) (zs:List Int):Prop:=∃ b off cap,sv=.slice (some ⟨b,off,none⟩) zs.length cap/\b<n₀/\∀ j,j<zs.length->W.cell? ⟨b,off+j,none⟩=some (.int .i64 (zs[j]?.getD 0))
theorem js.p {A B:World} (h:Below n₀ A B) {sv:Value} {zs:List Int}:js n₀ A sv zs->js n₀ B sv zs
 | ⟨b,off,cap,e,hb,hc⟩=>⟨b,off,cap,e,hb,fun j hj=>(h.cell (p:=⟨b,off+j,none⟩) hb).trans (hc j hj)⟩
theorem JY (F:Fence) (n:Nat) (h5:F.fn 94) (hro:F.round=none) (a:Option Addr) (len cap:Nat) (w:World) :
  CallsIn F n Tryz.prog 94 #[.slice a len cap] w fun e w'=>e=.returned (.func (.func 124) #[] #[.pointer (some ⟨w.heap.size,0,none⟩)])/\w'=w.alloc (.cells #[.slice a len cap] 26):=by
 refine callsIn_of_wp Tryz.func94 rfl h5 ?_ hro;simp only [Tryz.ntmps94,List.size_toArray,List.length_cons,List.length_nil,Nat.reduceAdd,Nat.reduceSub,Array.replicate_succ,Array.replicate_zero,List.push_toArray,List.append_toArray,List.nil_append,List.cons_append]
 gi_wp2
 go_ret;exact ⟨rfl,rfl⟩
theorem Bu (F:Fence) (n:Nat) (h7:F.fn 124) (hro:F.round=none) (hn:1<=n) (Bs n₀:Nat) (sv:Value) (zs:List Int) (Mz:zs.length*8<=140737488351232) (w:World) (zC:Bs<w.heap.size) (XD:n₀<=w.heap.size)
  (hc:w.cell? ⟨Bs,0,none⟩=some sv) (hI:js n₀ w sv zs) :
  SeqStopsK F n Tryz.prog 124 #[.pointer (some ⟨Bs,0,none⟩)] (fun x:Int=>#[Value.int .i64 x]) (Below n₀) (fun ys=>ys=zs) (fun pre=>pre <+: zs) zs.length w:=fun l J Jx W hW _ _ hY h0=>by
 have Bv:=(hW.cell (p:=⟨Bs,0,none⟩) zC).trans hc;obtain ⟨b,off,cap,rfl,hb,ep⟩:=hI.p (hW.mono XD);refine (Gv F n h7 hro hn l Bs n₀ b off zs.length cap zs Mz hb J Jx hY W Bv ep h0).mono ?_
 rintro e W' ⟨he,⟨ys,rfl,hj⟩ | ⟨pre,⟨k,hk,rfl⟩,hj⟩⟩
 ·exact ⟨he,.inl ⟨_,Om zs,hj⟩⟩
 ·exact ⟨he,.inr ⟨_,by rw [JX zs hk]; exact List.take_prefix _ _,hj⟩⟩
theorem XE:(Tryz.prog.info? 3).map (fun i=>(i.zero,i.size,i.bytes))=some (some (.int .i64 0),1,8):=by kernel_rfl
theorem Bw (F:Fence) (n:Nat) (h3:F.fn 149) (h5:F.fn 124) (hro:F.round=none) (hn:3<=n) (Bs:Nat) (sv:Value) (zs:List Int) (hlen:zs.length<=1000000) (w:World) (zC:Bs<w.heap.size) (cI:w.cell? ⟨Bs,0,none⟩=some sv) (hI:js w.heap.size w sv zs) :
  CallsIn F n Tryz.prog 149 #[.slice none 0 0,.func (.func 124) #[] #[.pointer (some ⟨Bs,0,none⟩)]] w fun e W'=>∃ v,e=.returned v/\W'.ownsRow w.heap.size 3 1 v zs.length (zs.map (Value.int .i64))/\BE w W':=by
 have h1:1<=n:=by omega
 obtain ⟨i0,hi,dw,bJ,dZ⟩:=info_parts XE;refine callsIn_of_wp_marks Tryz.func149 rfl h3 ?_ hro;simp only [Tryz.ntmps149,List.size_toArray,List.length_cons,List.length_nil,Nat.reduceAdd,Nat.reduceSub,Array.replicate_succ,Array.replicate_zero,List.push_toArray,List.append_toArray,List.nil_append,List.cons_append]
 gi_wp2
 have bO:=Boxed.new w 26 (.slice none 0 0);have UW:BE w (w.alloc (.cells #[.slice none 0 0] 26)):=(Below.refl _ w).alloc (Nat.le_refl _) _
 refine wpIn_rangeFunc_ownG hro h1 (gf:=124) (lb:=#[.pointer (some ⟨Bs,0,none⟩)]) rfl h5 (enters_of Tryz.func124 (by kernel_rfl) rfl)
  (Bu F (n - 1) h5 hro (by omega) Bs w.heap.size sv zs (by omega) _ (by simp; omega) (by simp) ((UW.cell (p:=⟨Bs,0,none⟩) zC).trans cI) (hI.p UW)) belowK_t (belowK_b (by simp)) (Below.refl _ _) (fun _=>rfl)
  (fun pre W=>(∃ v,Boxed W w.heap.size 26 v/\W.ownsRow w.heap.size 3 1 v pre.length (pre.map (Value.int .i64))/\(v=.slice none 0 0↔pre=[]))/\BE w W)
  (fun _ _ _=>False)
  (OwnFrom.and (Own.from (holdsRow_own w.heap.size w.heap.size 26 3 1 (fun pre=>pre.length) (fun pre=>pre.map (Value.int .i64)) (fun pre v=>v=.slice none 0 0↔pre=[])) _) (ownFrom_below (Nat.le_refl _) (by simp)))
  (fun _ _ _ _ _ hs _ _=>hs)
  ⟨⟨_,bO,World.ownsRow_nil _ _ _ _,by simp⟩,UW⟩
  (fun x=>{ tmps:=#[.slice none 0 0,.func (.func 124) #[] #[.pointer (some ⟨Bs,0,none⟩)],.pointer (some ⟨w.heap.size,0,none⟩),undef,.slice none 0 0,.int .i64 x,.func (.func 124) #[] #[.pointer (some ⟨Bs,0,none⟩)],.int .i64 x,undef,undef,undef,undef,undef],defers:=[] }) ?assign ?body ?done ?stop
 case assign =>
  intro l x W K hK
  gi_wp2
  exact hK
 case body =>
  rintro l pre x W ⟨⟨v,hv,bH,sP⟩,hB⟩ az;have hc:=hv.cell
  gi_wp2_with (gi_at_builtin; refine wpListIn_append_own _ rfl _ _ 26 rfl w.heap.size 3 i0 (.int .i64 0) 1 8 Tryz.underlying26 hi dw bJ dZ rfl (by decide) _ _ _ rfl (bH.alloc _) ⟨W.heap.size,0,none⟩ 1 1 [.int .i64 x] rfl rfl (cell_one_new _ _ _) (by simp [Value.oneCell']) (by unfold maxLen; omega) (by omega) (by have:=hB.size; simp; omega) ?_; intro v' w1 Qy XF _; obtain ⟨g',abI,rfl⟩:=ownsRow_succ Qy; obtain ⟨yB,UG,ig,dF,dh⟩:=hv.appended (by decide) bH hB.size (Nat.le_refl _) Qy XF; have dp:=yB.cell; have yy:=yB.frozen)
  exact ⟨dF.from _,dh,⟨_,UG,by simpa using ig,by simp⟩,hB.trans dh⟩
 case done =>
  rintro D ys W hD rfl ⟨⟨v,hv,bH,sP⟩,hB⟩ hK;have hc:=hv.cell
  gi_wp2
  refine ⟨by simp,.inl ⟨_,_,rfl,run_takeDeferred hK,?_⟩⟩;exact ⟨_,results_tmp rfl _ _ _,v,rfl,ownsRow_putObj bH _ hK rfl,hB.trans (belowK_b (w:=w) (Nat.le_refl _) W D _ _ (by simp at hD; omega) hK rfl rfl)⟩
 case stop =>
  rintro D c pre W _ _ h _;exact h.elim
end
section
open Go.Proofs.Ob
attribute [local irreducible] Go.Calls
theorem pX {o:Oper} {a:Act} {w:World} (t:TypeId) (x y:Operand) (ho:o.op=.makeSlice t x y) (n m:Value) (hx:a.eval x=n) (hy:a.eval y=m) (hr:(Instr.makeSlice t n m).run Tryz.prog w=.ok v w'):(execOp a.eval o).run Tryz.prog w=.ok (.value v) w':=by
 unfold execOp;simp only [ho,hx,hy,Sem.run_bind,Sem.run_pure,hr,Result.andThen_ok]

theorem zD (v:Value) (l:List Int) (w:World) (h:Rg.Ints w v l) (hl:l.length<=1000000) :
  Calls Tryz.prog 36 #[v] w fun e w'=>∃ v',e=.returned v'/\w'.ownsRow w.heap.size 3 1 v' l.length (l.map (Value.int .i64))/\BE w w':=by
 obtain ⟨la,lc,rfl,_⟩:=h.shape;have HI:=U h;have K:=U (bi w);clear h
 go_enter Tryz.func36,Tryz.ntmps36
 go_upto_region 1 with fail;refine c6 ?_;have bV:=sL.new (B:=w.heap.size) w (Nat.le_refl _);refine k8 (Rg.o7 aQ rfl w) ?_;go_frame;have hb:=be w (.cells #[] 3);generalize w.alloc (.cells #[] 3)=w1 at *;replace HI:=U (HI.u.p hb);replace K:=U (Rg.acc K.u hb);clear hb;have FO:=U bV;refine j8 rfl ?_;go_frame;obtain ⟨v5,X5,r1,r2,r3⟩:=Rg.wG (P:=Tryz.prog) aQ 26 FO.u.1 K.u.size HI.u qD (by rw [List.length_map]; omega);refine k8 (Rg.aT _ _ _ rfl rfl rfl r1)<|j6 (v5) rfl ?_;go_frame;rw [List.length_map,Nat.zero_add,List.nil_append] at r2;have R2:=U r2;have K5:=U (K.u.grown r3 K.u.size (fun j hj=>(FO.u.1.lt j hj).1));clear r1 r2 r3 FO;go_wp2;go_ret;exact ⟨_,rfl,R2.u,K5.u⟩
end
section
attribute [local irreducible] Go.Calls
theorem iu:(Tryz.prog.info? 25).map (fun i=>(i.zero,i.size,i.bytes))=some (some (.agg #[.int .i64 0,.slice none 0 0,.slice none 0 0]),3,56):=by kernel_rfl
structure cj (w:World) (b:Nat) (x y z:Value):Prop where
 c0:w.cell? ⟨b,0,none⟩=some x
 c1:w.cell? ⟨b,1,none⟩=some y
 c2:w.cell? ⟨b,2,none⟩=some z
 f0:w.frozen? ⟨b,0,none⟩=false
 f1:w.frozen? ⟨b,1,none⟩=false
 f2:w.frozen? ⟨b,2,none⟩=false
 lt:b<w.heap.size
theorem cj.upto {w:World} {b:Nat} {x y:Value} (h:cj w b x y z) (hb:Below B w w') (hB:b<B):cj w' b x y z :=
 ⟨(hb.cell (p:=⟨b,0,none⟩) hB).trans h.c0,(hb.cell (p:=⟨b,1,none⟩) hB).trans h.c1,(hb.cell (p:=⟨b,2,none⟩) hB).trans h.c2,(hb.frozen (p:=⟨b,0,none⟩) hB).trans h.f0,(hb.frozen (p:=⟨b,1,none⟩) hB).trans h.f1,(hb.frozen (p:=⟨b,2,none⟩) hB).trans h.f2,Nat.lt_of_lt_of_le h.lt hb.size⟩
theorem cj.p {w:World} {b:Nat} {x y:Value} (h:cj w b x y z) (hb:BE w w'):cj w' b x y z:=h.upto hb h.lt
theorem cj.kp {w:World} {b:Nat} {x y:Value} (h:cj w b x y z) (hk:Rg.Kp M w w') (hM:¬ M b):cj w' b x y z:=by
 have e:=hk.block b h.lt hM;exact ⟨(World.cell?_of_block (a:=⟨b,0,none⟩) e).trans h.c0,(World.cell?_of_block (a:=⟨b,1,none⟩) e).trans h.c1,(World.cell?_of_block (a:=⟨b,2,none⟩) e).trans h.c2,(World.frozen?_of_block (a:=⟨b,0,none⟩) e).trans h.f0,(World.frozen?_of_block (a:=⟨b,1,none⟩) e).trans h.f1,(World.frozen?_of_block (a:=⟨b,2,none⟩) e).trans h.f2,Nat.lt_of_lt_of_le h.lt hk.size⟩
theorem cj.new (w:World) (x y z:Value):cj (w.alloc (.cells #[x,y,z] 25)) w.heap.size x y z :=
 ⟨by rw [Rg.aW]; rfl,by rw [Rg.aW]; rfl,by rw [Rg.aW]; rfl,kR _ _ _ 0 _,kR _ _ _ 0 _,kR _ _ _ 0 _,by simp⟩
theorem aJ {w:World} {b:Nat} {u3:Value} (d:Int) (a:Option Addr) (n c:Nat) (a':Option Addr) (n' c':Nat) (h:cj w b u1 u2 u3) :
  (storeVar 25 ⟨b,0,none⟩ (.agg #[.int .i64 d,.slice a n c,.slice a' n' c'])).run Tryz.prog w=.ok () (((w.setCell ⟨b,0,none⟩ (.int .i64 d)).setCell ⟨b,1,none⟩ (.slice a n c)).setCell ⟨b,2,none⟩ (.slice a' n' c')):=by
 obtain ⟨i0,hi,dw,bJ,dZ⟩:=info_parts iu
 have g2:(w.setCell ⟨b,0,none⟩ (.int .i64 d)).cell? ⟨b,1,none⟩=some u2:=by
  rw [World.cell?_setCell_other (h:=by intro e; injection e with e1 e2; omega) ..]
  exact h.c1
 have gf:(w.setCell ⟨b,0,none⟩ (.int .i64 d)).frozen? ⟨b,1,none⟩=false:=by rw [World.frozen?_setCell]; exact h.f1
 have g3:((w.setCell ⟨b,0,none⟩ (.int .i64 d)).setCell ⟨b,1,none⟩ (.slice a n c)).cell? ⟨b,2,none⟩=some u3:=by
  rw [World.cell?_setCell_other (h:=by intro e; injection e with e1 e2; omega) ..,World.cell?_setCell_other (h:=by intro e; injection e with e1 e2; omega) ..]
  exact h.c2
 have gf3:((w.setCell ⟨b,0,none⟩ (.int .i64 d)).setCell ⟨b,1,none⟩ (.slice a n c)).frozen? ⟨b,2,none⟩=false:=by rw [World.frozen?_setCell,World.frozen?_setCell]; exact h.f2
 have zE:(⟨b,0,none⟩:Addr).add 0=⟨b,0,none⟩:=by simp [Addr.add]
 have kF:(⟨b,0,none⟩:Addr).add 1=⟨b,1,none⟩:=by simp [Addr.add]
 have oA:(⟨b,0,none⟩:Addr).add 2=⟨b,2,none⟩:=by simp [Addr.add]
 simp [storeVar,sizeOf,typeInfo,hi,bJ,Value.cells,storeCells,store,zE,kF,oA];simp [Sem.run,h.c0,h.f0,g2,gf,g3,gf3]
theorem cj.set {w:World} {b:Nat} {u3:Value} (h:cj w b u1 u2 u3) (x y z:Value):cj (((w.setCell ⟨b,0,none⟩ x).setCell ⟨b,1,none⟩ y).setCell ⟨b,2,none⟩ z) b x y z:=by
 have s1:(w.setCell ⟨b,0,none⟩ x).cell? ⟨b,0,none⟩=some x:=World.cell?_setCell_same (h:=h.c0) ..
 have s2:(w.setCell ⟨b,0,none⟩ x).cell? ⟨b,1,none⟩=some u2:=by
  rw [World.cell?_setCell_other (h:=by intro e; injection e with e1 e2; omega) ..]; exact h.c1
 have s3:((w.setCell ⟨b,0,none⟩ x).setCell ⟨b,1,none⟩ y).cell? ⟨b,2,none⟩=some u3:=by
  rw [World.cell?_setCell_other (h:=by intro e; injection e with e1 e2; omega) ..,World.cell?_setCell_other (h:=by intro e; injection e with e1 e2; omega) ..]; exact h.c2
 refine ⟨?_,?_,World.cell?_setCell_same (h:=s3) ..,?_,?_,?_,by simpa using h.lt⟩
 ·rw [World.cell?_setCell_other (h:=by intro e; injection e with e1 e2; omega) ..,World.cell?_setCell_other (h:=by intro e; injection e with e1 e2; omega) ..]; exact s1
 ·rw [World.cell?_setCell_other (h:=by intro e; injection e with e1 e2; omega) ..]; exact World.cell?_setCell_same (h:=s2) ..
 ·rw [World.frozen?_setCell,World.frozen?_setCell,World.frozen?_setCell]; exact h.f0
 ·rw [World.frozen?_setCell,World.frozen?_setCell,World.frozen?_setCell]; exact h.f1
 ·rw [World.frozen?_setCell,World.frozen?_setCell,World.frozen?_setCell]; exact h.f2
theorem cj.XG {w:World} {b:Nat} {u3:Value} (h:cj w b u1 u2 u3) (y z:Value):cj ((w.setCell ⟨b,1,none⟩ y).setCell ⟨b,2,none⟩ z) b u1 y z:=by
 have s3:(w.setCell ⟨b,1,none⟩ y).cell? ⟨b,2,none⟩=some u3:=by
  rw [World.cell?_setCell_other (h:=by intro e; injection e with e1 e2; omega) ..]; exact h.c2
 refine ⟨?_,?_,World.cell?_setCell_same (h:=s3) ..,?_,?_,?_,by simpa using h.lt⟩
 ·rw [World.cell?_setCell_other (h:=by intro e; injection e with e1 e2; omega) ..,World.cell?_setCell_other (h:=by intro e; injection e with e1 e2; omega) ..]; exact h.c0
 ·rw [World.cell?_setCell_other (h:=by intro e; injection e with e1 e2; omega) ..]; exact World.cell?_setCell_same (h:=h.c1) ..
 ·rw [World.frozen?_setCell,World.frozen?_setCell]; exact h.f0
 ·rw [World.frozen?_setCell,World.frozen?_setCell]; exact h.f1
 ·rw [World.frozen?_setCell,World.frozen?_setCell]; exact h.f2
theorem mq {w:World} {b:Nat} {x y:Value} (h:cj w b x y z):(loadVar 25 ⟨b,0,none⟩).run Tryz.prog w=.ok (.agg #[x,y,z]) w:=by
 obtain ⟨i0,hi,dw,bJ,dZ⟩:=info_parts iu
 have zE:(⟨b,0,none⟩:Addr).add 0=⟨b,0,none⟩:=by simp [Addr.add]
 have kF:(⟨b,0,none⟩:Addr).add 1=⟨b,1,none⟩:=by simp [Addr.add]
 have oA:(⟨b,0,none⟩:Addr).add 2=⟨b,2,none⟩:=by simp [Addr.add]
 have hg:(isAgg 25).run Tryz.prog w=.ok true w:=by kernel_rfl
 simp [loadVar,hg,sizeOf,typeInfo,hi,bJ,loadCells,loadCellsFrom,load,zE,kF,oA];simp [Sem.run,h.c0,h.c1,h.c2]
theorem iw {fn:Func} {p:Go.Tmp} (h:fn.results=#[.cell p 25]) (tmps:Array Value) {w:World} {b:Nat} {x y:Value} (hp:tmps.getD p undef=.pointer (some ⟨b,0,none⟩)) (h1:cj w b x y z) :
  (results fn tmps).run Tryz.prog w=.ok (.agg #[x,y,z]) w:=by
 have DV:tmps[p]?.getD undef=.pointer (some ⟨b,0,none⟩):=by simpa using hp
 simp [results,h,DV,asAddr,mq h1]
theorem aO {fn:Func} {p u:Go.Tmp} (h:fn.results=#[.cell p 25,.tmp u]) (tmps:Array Value) {w:World} {b:Nat} {x y:Value} (hp:tmps.getD p undef=.pointer (some ⟨b,0,none⟩)) (hu:tmps.getD u undef=v) (h1:cj w b x y z) :
  (results fn tmps).run Tryz.prog w=.ok (.tuple #[.agg #[x,y,z],v]) w:=by
 rw [results_cell_tmp h,hp,hu];simp [asAddr,mq h1,Result.andThen]
theorem bj {o:Oper} {a:Act} {w:World} (ho:o.op=.alloc 25):(execOp a.eval o).run Tryz.prog w=.ok (.value (.pointer (some ⟨w.heap.size,0,none⟩))) (w.alloc (.cells #[.int .i64 0,.slice none 0 0,.slice none 0 0] 25)):=by
 obtain ⟨i0,hi,dw,bJ,dZ⟩:=info_parts iu;unfold execOp;simp [ho,Instr.alloc,typeInfo,zeroValue,hi,dw,newVar,Value.cells,Result.andThen];rfl
theorem nL {o:Oper} {a:Act} {w:World} (x:Operand) (ho:o.op=.build 25 #[(0,x)]) (hx:a.eval x=.int .i64 d) :
  (execOp a.eval o).run Tryz.prog w=.ok (.value (.agg #[.int .i64 d,.slice none 0 0,.slice none 0 0])) w:=by
 unfold execOp;simp only [ho,Sem.run_bind,Sem.run_pure];simp only [List.map_toArray,List.map_cons,List.map_nil,hx]
 have h:(Instr.build 25 #[(0,.int .i64 d)]).run Tryz.prog w=.ok (.agg #[.int .i64 d,.slice none 0 0,.slice none 0 0]) w:=by kernel_rfl
 first | (rw [h]; rfl) | (erw [h]; rfl)
theorem bF {o:Oper} {a:Act} {w:World} (ho:o.op=.build 25 #[]) :
  (execOp a.eval o).run Tryz.prog w=.ok (.value (.agg #[.int .i64 0,.slice none 0 0,.slice none 0 0])) w:=by
 unfold execOp;simp only [ho,Sem.run_bind,Sem.run_pure]
 have h:(Instr.build 25 #[]).run Tryz.prog w=.ok (.agg #[.int .i64 0,.slice none 0 0,.slice none 0 0]) w:=by kernel_rfl
 first | (simp [h,Result.andThen]) | (rw [h]; rfl) | (erw [h]; rfl)
theorem cT (b:Nat) (w:World):(Instr.fieldAt 25 (.pointer (some ⟨b,0,none⟩)) 0).run Tryz.prog w=.ok (.pointer (some ⟨b,0,none⟩)) w:=by kernel_rfl
theorem cp (b:Nat) (w:World):(Instr.fieldAt 25 (.pointer (some ⟨b,0,none⟩)) 1).run Tryz.prog w=.ok (.pointer (some ⟨b,1,none⟩)) w:=by kernel_rfl
theorem cJ (b:Nat) (w:World):(Instr.fieldAt 25 (.pointer (some ⟨b,0,none⟩)) 2).run Tryz.prog w=.ok (.pointer (some ⟨b,2,none⟩)) w:=by kernel_rfl
theorem tC:(Tryz.prog.info? 22).map (fun i=>(i.zero,i.size,i.bytes))=some (some (.slice none 0 0),1,24):=by kernel_rfl
theorem qH:(Tryz.prog.info? 23).map (fun i=>(i.zero,i.size,i.bytes))=some (some (.slice none 0 0),1,24):=by kernel_rfl
theorem bG:Rg.se Tryz.prog 23 41 (.slice none 0 0) 24:=⟨Tryz.underlying23,fk,rfl,by decide⟩
theorem nM (X:World) (u:Value) (hs:∃ a n c,u=.slice a n c):(Instr.buildSlice 23 1 #[(0,u)]).run Tryz.prog X=.ok (.slice (some ⟨X.heap.size,0,none⟩) 1 1) (X.alloc (.cells #[u] 41)):=by
 obtain ⟨i0,hi,dw,bJ,dZ⟩:=info_parts fk;obtain ⟨a,n,c,rfl⟩:=hs;refine run_buildSlice X 23 41 1 _ _ i0 _ Tryz.underlying23 hi dw (by rw [bJ]; decide) (by rw [bJ]; decide) ?_;generalize (fun x=>((Value.slice none 0 0).cells)[x % (Value.slice none 0 0).cells.size]!)=f;rw [bJ];have h1:Array.range (1*1)=#[0]:=rfl;simp [Instr.fill,Value.cells,h1]
end
section
theorem aL.kp {F M:Nat->Prop} {w w':World} {v:Value} {ll:List (List Int)} (h:Rg.aL F w v ll) (hk:Rg.Kp M w w') (hF:∀ k,F k->¬ M k):Rg.aL F w' v ll:=by
 obtain ⟨us,h1,h2⟩:=h;exact ⟨us,h1.kp hk hF,h2.kp hk hF⟩
theorem aL.mono {F F':Nat->Prop} {w:World} {v:Value} {ll:List (List Int)} (h:Rg.aL F w v ll) (hF:∀ k,F k->F' k):Rg.aL F' w v ll:=by
 obtain ⟨us,h1,h2⟩:=h;exact ⟨us,h1.mono hF,h2.mono hF⟩
theorem aL.rows {w:World} (h:Rg.aL F w v ll):Rg.Rows w v ll:=by
 obtain ⟨us,h1,h2⟩:=h;exact ⟨us,h1.Fp,h2.1,fun i a b=>(h2.2 i a b).ints⟩
theorem bX.kp {F M:Nat->Prop} {w w':World} {us:List Value} {ll:List (List (List Int))} (h:Rg.bX F w us ll) (hk:Rg.Kp M w w') (hF:∀ k,F k->¬ M k):Rg.bX F w' us ll:=⟨h.1,fun i a b=>aL.kp (h.2 i a b) hk hF⟩
theorem bX.mono {F F':Nat->Prop} {w:World} {us:List Value} {ll:List (List (List Int))} (h:Rg.bX F w us ll) (hF:∀ k,F k->F' k):Rg.bX F' w us ll:=⟨h.1,fun i a b=>aL.mono (h.2 i a b) hF⟩
theorem bR.snoc {w:World} {us:List Value} {u:Value} {l:List Int} (h:Rg.bR F w us ll) (hu:Rg.FI F w u l):Rg.bR F w (us++[u]) (ll++[l]):=by
 refine ⟨by simp [h.1],fun i a b=>?_⟩
 by_cases e:i<us.length
 ·have e2:i<ll.length:=by rw [<- h.1]; exact e
  rw [List.getElem_append_left e,List.getElem_append_left e2];exact h.2 i e e2
 ·have e1:i=us.length:=by simp at a; omega
  subst e1;have hl:=h.1;simp [hl];exact hu
theorem bX.snoc {w:World} {us:List Value} {ll:List (List (List Int))} {u:Value} {l:List (List Int)} (h:Rg.bX F w us ll) (hu:Rg.aL F w u l):Rg.bX F w (us++[u]) (ll++[l]):=by
 refine ⟨by simp [h.1],fun i a b=>?_⟩
 by_cases e:i<us.length
 ·have e2:i<ll.length:=by rw [<- h.1]; exact e
  rw [List.getElem_append_left e,List.getElem_append_left e2];exact h.2 i e e2
 ·have e1:i=us.length:=by simp at a; omega
  subst e1;have hl:=h.1;simp [hl];exact hu
def iH (B:Nat) (W:World) (tc:Nat) (ov rv:Value) (k:Nat):Prop:=B<=k/\k<W.heap.size/\ov.ownBlock≠some k/\rv.ownBlock≠some k/\k≠tc
structure dV (B:Nat) (W:World) (tc:Nat) (c0 c1 c2 ov rv:Value) (O:List (List Int)) (R:List (List (List Int))):Prop where
 gZ:cj W tc c0 c1 c2
 low:B<=tc
 own:∃ us vs,W.ownsRow B 26 1 ov O.length us/\W.ownsRow B 41 1 rv R.length vs/\Rg.bR (iH B W tc ov rv) W us O/\Rg.bX (iH B W tc ov rv) W vs R
 apart:∀ k,ov.ownBlock=some k->rv.ownBlock≠some k
 ot:ov.ownBlock≠some tc
 rt:rv.ownBlock≠some tc
theorem iH.up {k:Nat} (h:iH B W tc ov rv k) (hs:W.heap.size<=W'.heap.size):iH B W' tc ov rv k:=⟨h.1,Nat.lt_of_lt_of_le h.2.1 hs,h.2.2⟩
theorem dV.p {B:Nat} {W W':World} {tc:Nat} {c0 c1 c2 ov rv:Value} {O:List (List Int)} {R:List (List (List Int))} (h:dV B W tc c0 c1 c2 ov rv O R) (hb:BE W W'):dV B W' tc c0 c1 c2 ov rv O R:=by
 obtain ⟨us,vs,h1,h2,h3,h4⟩:=h.own;have hk:Rg.Kp (fun _=>False) W W':=Rg.Kp.aD hb;exact ⟨h.gZ.p hb,h.low,⟨us,vs,Rg.bP h1 hb,Rg.bP h2 hb,(h3.kp hk (fun _ _=>id)).mono (fun k hk=>hk.up hb.size),bX.mono (bX.kp h4 hk (fun _ _=>id)) (fun k hk=>hk.up hb.size)⟩,h.apart,h.ot,h.rt⟩
theorem dV.start {c0 c1 c2:Value} (ht:cj W tc c0 c1 c2) (hl:B<=tc):dV B W tc c0 c1 c2 (.slice none 0 0) (.slice none 0 0) [] [] :=
 ⟨ht,hl,⟨[],[],World.ownsRow_nil _ _ _ _,World.ownsRow_nil _ _ _ _,Rg.bR.nil _ _,⟨rfl,fun i h=>by simp at h⟩⟩,fun k h=>by simp [Value.ownBlock] at h,by simp [Value.ownBlock],by simp [Value.ownBlock]⟩
theorem dV.sq {c0 c1 c2:Value} {O:List (List Int)} {R:List (List (List Int))} (h:dV B W tc c0 c1 c2 ov rv O R):(∀ k,ov.ownBlock=some k->B<=k/\k<W.heap.size)/\(∀ k,rv.ownBlock=some k->B<=k/\k<W.heap.size):=by
 obtain ⟨us,vs,h1,h2,_⟩:=h.own;exact ⟨fun k e=>h1.lt k e,fun k e=>h2.lt k e⟩
theorem dV.lA {c0 c1 c2:Value} {O:List (List Int)} {R:List (List (List Int))} (h:dV B W tc c0 c1 c2 ov rv O R) (hB:B<=W.heap.size) {x:Value} {l:List Int} (hx:Rg.FI (iH B W tc ov rv) W x l) (hs:x.oneCell'=true) (hO:O.length<1000000) {p:Nat} (hp:W.cell? ⟨p,0,none⟩=some x) (ty:TypeId) :
  ∃ a c X,(Builtin.append_ #[22,22] ty #[ov,.slice (some ⟨p,0,none⟩) 1 1]).run Tryz.prog W=.ok (.slice a (O.length+1) c) X/\dV B X tc c0 c1 c2 (.slice a (O.length+1) c) rv (O++[l]) R/\W.grownBy X ov.ownBlock /\
   (∀ k,iH B W tc ov rv k->iH B X tc (.slice a (O.length+1) c) rv k):=by
 obtain ⟨us,vs,h1,h2,h3,h4⟩:=h.own;obtain ⟨v',X,r1,r2,r3,r4,a,c,rfl⟩:=fe (P:=Tryz.prog) bM ty h1 hB p 1 hp hs hO;have hk:Rg.Kp (fun k=>ov.ownBlock=some k) W X:=Rg.Kp.cC r3 fun _ e=>e
 have hm:∀ k,iH B W tc ov rv k->iH B X tc (.slice a (O.length+1) c) rv k:=fun k g=>by
  refine ⟨g.1,Nat.lt_of_lt_of_le g.2.1 hk.size,fun e=>?_,g.2.2.2⟩
  rcases r4 with r4 | r4
  ·rw [r4] at e; exact g.2.2.1 e
  ·rw [r4] at e; injection e with e; have:=g.2.1; omega
 have hg:∀ k,iH B W tc ov rv k->¬ ov.ownBlock=some k:=fun k g=>g.2.2.1;refine ⟨a,c,X,r1,⟨h.gZ.kp hk h.ot,h.low,⟨us++[x],vs,by rw [List.length_append]; exact r2,im h2 hk (fun k e e2=>h.apart k e e2),(bR.snoc (h3.kp hk hg) (hx.kp hk hg)).mono hm,bX.mono (bX.kp h4 hk hg) hm⟩,fun k e e2=>?_,fun e=>?_,h.rt⟩,r3,hm⟩
 ·rcases r4 with r4 | r4
  ·rw [r4] at e; exact h.apart k e e2
  ·rw [r4] at e; injection e with e; have:=(h.sq.2 k e2).2; omega
 ·rcases r4 with r4 | r4
  ·rw [r4] at e; exact h.ot e
  ·rw [r4] at e; injection e with e; have:=h.gZ.lt; omega
theorem dV.zF {c0 c1 c2:Value} {O:List (List Int)} {R:List (List (List Int))} (h:dV B W tc c0 c1 c2 ov rv O R) (hB:B<=W.heap.size) {x:Value} {l:List (List Int)} (hx:Rg.aL (iH B W tc ov rv) W x l) (hs:x.oneCell'=true) (hR:R.length<1000000) {p:Nat} (hp:W.cell? ⟨p,0,none⟩=some x) (ty:TypeId) :
  ∃ a c X,(Builtin.append_ #[23,23] ty #[rv,.slice (some ⟨p,0,none⟩) 1 1]).run Tryz.prog W=.ok (.slice a (R.length+1) c) X/\dV B X tc c0 c1 c2 ov (.slice a (R.length+1) c) O (R++[l])/\W.grownBy X rv.ownBlock:=by
 obtain ⟨us,vs,h1,h2,h3,h4⟩:=h.own;obtain ⟨v',X,r1,r2,r3,r4,a,c,rfl⟩:=fe (P:=Tryz.prog) bG ty h2 hB p 1 hp hs hR;have hk:Rg.Kp (fun k=>rv.ownBlock=some k) W X:=Rg.Kp.cC r3 fun _ e=>e
 have hm:∀ k,iH B W tc ov rv k->iH B X tc ov (.slice a (R.length+1) c) k:=fun k g=>by
  refine ⟨g.1,Nat.lt_of_lt_of_le g.2.1 hk.size,g.2.2.1,fun e=>?_,g.2.2.2.2⟩
  rcases r4 with r4 | r4
  ·rw [r4] at e; exact g.2.2.2.1 e
  ·rw [r4] at e; injection e with e; have:=g.2.1; omega
 have hg:∀ k,iH B W tc ov rv k->¬ rv.ownBlock=some k:=fun k g=>g.2.2.2.1;refine ⟨a,c,X,r1,⟨h.gZ.kp hk h.rt,h.low,⟨us,vs++[x],im h1 hk (fun k e e2=>h.apart k e2 e),by rw [List.length_append]; exact r2,(h3.kp hk hg).mono hm,bX.mono (bX.snoc (bX.kp h4 hk hg) (aL.kp hx hk hg)) hm⟩,fun k e e2=>?_,h.ot,fun e=>?_⟩,r3⟩
 ·rcases r4 with r4 | r4
  ·rw [r4] at e2; exact h.apart k e e2
  ·rw [r4] at e2; injection e2 with e2; have:=(h.sq.1 k e).2; omega
 ·rcases r4 with r4 | r4
  ·rw [r4] at e; exact h.rt e
  ·rw [r4] at e; injection e with e; have:=h.gZ.lt; omega
theorem dV.store {c0 c1 c2:Value} {O:List (List Int)} {R:List (List (List Int))} (h:dV B W tc c0 c1 c2 ov rv O R) (y z:Value) :
  dV B ((W.setCell ⟨tc,1,none⟩ y).setCell ⟨tc,2,none⟩ z) tc c0 y z ov rv O R:=by
 obtain ⟨us,vs,h1,h2,h3,h4⟩:=h.own;have hk:Rg.Kp (fun k=>k=tc) W ((W.setCell ⟨tc,1,none⟩ y).setCell ⟨tc,2,none⟩ z):=Rg.Kp.trans (Rg.Kp.aR (M:=fun k=>k=tc) rfl) (Rg.Kp.aR (M:=fun k=>k=tc) rfl) (fun _ _ e=>e);have hg:∀ k,iH B W tc ov rv k->¬ k=tc:=fun k g=>g.2.2.2.2;have hm:∀ k,iH B W tc ov rv k->iH B ((W.setCell ⟨tc,1,none⟩ y).setCell ⟨tc,2,none⟩ z) tc ov rv k:=fun k g=>g.up hk.size;exact ⟨h.gZ.XG y z,h.low,⟨us,vs,im h1 hk (fun k e e2=>h.ot (e▸e2)),im h2 hk (fun k e e2=>h.rt (e▸e2)),(h3.kp hk hg).mono hm,bX.mono (bX.kp h4 hk hg) hm⟩,h.apart,h.ot,h.rt⟩
def gC (w:World) (v:Value) (gl:List (List (List Int))):Prop:=∃ us,Rg.cH w v us/\us.length=gl.length/\∀ i (h:i<us.length) (h2:i<gl.length),Rg.Rows w us[i] gl[i]
theorem gC.p {w w':World} {v:Value} {gl:List (List (List Int))} (h:gC w v gl) (hb:BE w w'):gC w' v gl:=by
 obtain ⟨us,h1,h2,h3⟩:=h;exact ⟨us,Rg.jm.p h1 hb,h2,fun i a b=>(h3 i a b).p hb⟩
end
section
attribute [local irreducible] Go.Calls
theorem Qz (args:Array Value) (w:World):(callFunc 149 args).run Tryz.prog w=.ok (.enter 149 args) w:=by kernel_rfl
theorem QA (args:Array Value) (w:World):(callFunc 122 args).run Tryz.prog w=.ok (.enter 122 args) w:=by kernel_rfl
theorem QB (args:Array Value) (w:World):(callFunc 123 args).run Tryz.prog w=.ok (.enter 123 args) w:=by kernel_rfl
theorem po (v:Value) (l:List Int) (w:World) (h:Rg.Ints w v l) (h1:1<=l.length) (hl:l.length<=1000000) :
  Calls Tryz.prog 75 #[v] w fun e w'=>∃ v',e=.returned v'/\w'.ownsRow w.heap.size 3 1 v' l.length (l.map (Value.int .i64))/\BE w w':=by
 obtain ⟨la,lc,rfl,_,_,_,hs⟩:=h.shape;obtain ⟨b,o,rfl,_⟩:=hs (by omega);have HI:=U h;have K:=U (bi w);clear h hs
 go_enter Tryz.func75,Tryz.ntmps75
 go_upto_region 1 with fail;refine c6<|j8 rfl<|k8 (kD _ _ rfl rfl rfl) ?_;go_frame;go_upto_region 3 with fail;refine c6 ?_;have bV:=sL.new (B:=w.heap.size) w (Nat.le_refl _);refine k8 (Rg.o7 bC rfl w) ?_;go_frame;have hb:=be w (.cells #[] 3);generalize w.alloc (.cells #[] 3)=w1 at *;replace HI:=U (HI.u.p hb);replace K:=U (Rg.acc K.u hb);clear hb;have FO:=U bV;refine j8 rfl ?_;go_frame;obtain ⟨v5,X5,r1,r2,r3⟩:=Rg.wG (P:=Tryz.prog) bC 27 FO.u.1 K.u.size HI.u qD (by rw [List.length_map]; omega);refine k8 (Rg.aT _ _ _ rfl rfl rfl r1)<|j6 (v5) rfl ?_;go_frame;rw [List.length_map,Nat.zero_add,List.nil_append] at r2;have R2:=U r2;have K5:=U (K.u.grown r3 K.u.size (fun j hj=>(FO.u.1.lt j hj).1));clear r1 r2 r3 FO;go_wp2;go_ret;exact ⟨_,rfl,R2.u,K5.u⟩
theorem D7 (Bs:Nat) (sv:Value) (zs:List Int) (hlen:zs.length<=1000000) (w:World) (zC:Bs<w.heap.size) (cI:w.cell? ⟨Bs,0,none⟩=some sv) (hI:js w.heap.size w sv zs) :
  Calls Tryz.prog 122 #[.func (.func 124) #[] #[.pointer (some ⟨Bs,0,none⟩)]] w fun e w'=>∃ v,e=.returned v/\w'.ownsRow w.heap.size 3 1 v zs.length (zs.map (Value.int .i64))/\BE w w':=by
 have Gw:=callsIn_wide.1 (Bw Fence.wide 3 trivial trivial rfl (by omega) Bs sv zs hlen w zC cI hI);clear zC cI hI
 go_enter Tryz.func122,Tryz.ntmps122
 go_upto_region 1 with fail;refine c6<|j6 (.func (.func 124) #[] #[.pointer (some ⟨Bs,0,none⟩)]) rfl ?_;go_frame;refine f4 4 (ax 149 _ _ _ rfl rfl rfl (Qz _ _)) ?_;refine (Gw).mono ?_;rintro e1 w1 ⟨v,rfl,bH,hb⟩;have R:=U bH;have KB:=U hb;refine ⟨_,rfl,?_⟩;go_frame;clear hb;refine j6 (v) rfl ?_;go_frame;clear Gw bH;go_wp2;go_ret;exact ⟨_,rfl,R.u,KB.u⟩
theorem xS (Bs:Nat) (sv:Value) (zs:List Int) (h1:1<=zs.length) (hlen:zs.length<=1000000) (w:World) (zC:Bs<w.heap.size) (cI:w.cell? ⟨Bs,0,none⟩=some sv) (hI:js w.heap.size w sv zs) :
  Calls Tryz.prog 93 #[.func (.func 124) #[] #[.pointer (some ⟨Bs,0,none⟩)]] w fun e w'=>∃ v,e=.returned v/\w'.ownsRow w.heap.size 3 1 v zs.length ((Ob.jB zs).map (Value.int .i64))/\BE w w':=by
 have Gw:=D7 Bs sv zs hlen w zC cI hI;clear zC cI hI
 go_enter Tryz.func93,Tryz.ntmps93
 go_upto_region 1 with fail;refine c6<|j6 (.func (.func 124) #[] #[.pointer (some ⟨Bs,0,none⟩)]) rfl ?_;go_frame;refine f4 5 (aA 122 _ _ rfl rfl (QA _ _)) ?_;refine (Gw).mono ?_;rintro e1 w1 ⟨v,rfl,bH,hb⟩;have R:=U bH;have KB:=U hb;refine ⟨_,rfl,?_⟩;go_frame;clear hb;refine j6 (v) rfl ?_;go_frame;clear Gw bH;go_upto_region 2 with fail;refine c6<|j6 (v) rfl ?_;go_frame;refine f4 7 (aA 123 _ _ rfl rfl (QB _ _)) ?_;refine (N8 w.heap.size zs.length v zs w1 R.u h1 (by omega)).mono ?_;rintro e1 w2 ⟨⟨r,rfl⟩,QC,NN⟩;have R2:=U QC;have K2:=U (KB.u.grown NN KB.u.size (fun j hj=>(R.u.lt j hj).1));refine ⟨_,rfl,?_⟩;go_frame;clear NN;clear QC;go_wp2;go_ret;exact ⟨_,rfl,R2.u,K2.u⟩
end
end Go.Proofs.YtpedbljnhnoohaaGreat
namespace Go.Proofs.Cm
open Go.Proofs
structure PC (n:Nat) (H:List Nat->Prop) (tr:Tr) (k:Nat) (O:List (List Nat)) (R:List (List (List Nat))):Prop where
 i_:O.length=k
 iN:R.length=k
 jB:∀ i,i<k->(O.getD i []).Pairwise (· < ·)
 orb:∀ i p,i<k->(p∈O.getD i []↔∃ u,tr i p=some u)
 len:∀ i,i<k->(R.getD i []).length=(O.getD i []).length
 rep:∀ i j,i<k->j<(O.getD i []).length->lO n (fun z=>St H i z/\ap z i=(O.getD i []).getD j 0) ((R.getD i []).getD j [])
theorem PC.nil (n:Nat) (H:List Nat->Prop) (tr:Tr):PC n H tr 0 [] []:=⟨rfl,rfl,fun _ h=>absurd h (Nat.not_lt_zero _),fun _ _ h=>absurd h (Nat.not_lt_zero _),fun _ h=>absurd h (Nat.not_lt_zero _),fun _ _ h=>absurd h (Nat.not_lt_zero _)⟩
theorem PC.snoc {tr:Tr} {k:Nat} (h:PC n H tr k O R) {o:List Nat} {r:List (List Nat)} (h1:o.Pairwise (· < ·)) (h2:∀ p,p∈o↔∃ u,tr k p=some u) (h3:r.length=o.length)
  (h4:∀ j,j<o.length->lO n (fun z=>St H k z/\ap z k=o.getD j 0) (r.getD j [])):PC n H tr (k+1) (O++[o]) (R++[r]):=by
 have eO:∀ i,i<k->(O++[o]).getD i []=O.getD i []:=fun i hi=>by
  rw [List.getD_eq_getElem?_getD,List.getD_eq_getElem?_getD,List.getElem?_append_left (by rw [h.i_]; exact hi)]
 have eR:∀ i,i<k->(R++[r]).getD i []=R.getD i []:=fun i hi=>by
  rw [List.getD_eq_getElem?_getD,List.getD_eq_getElem?_getD,List.getElem?_append_left (by rw [h.iN]; exact hi)]
 have UX:(O++[o]).getD k []=o:=by
  rw [List.getD_eq_getElem?_getD,List.getElem?_append_right (by rw [h.i_]; exact Nat.le_refl _),h.i_]; simp
 have eR2:(R++[r]).getD k []=r:=by
  rw [List.getD_eq_getElem?_getD,List.getElem?_append_right (by rw [h.iN]; exact Nat.le_refl _),h.iN]; simp
 refine ⟨by simp [h.i_],by simp [h.iN],fun i hi=>?_,fun i p hi=>?_,fun i hi=>?_,fun i j hi hj=>?_⟩
 ·by_cases e:i=k
  ·subst e; rw [UX]; exact h1
  ·rw [eO i (by omega)]; exact h.jB i (by omega)
 ·by_cases e:i=k
  ·subst e; rw [UX]; exact h2 p
  ·rw [eO i (by omega)]; exact h.orb i p (by omega)
 ·by_cases e:i=k
  ·subst e; rw [UX,eR2]; exact h3
  ·rw [eO i (by omega),eR i (by omega)]; exact h.len i (by omega)
 ·by_cases e:i=k
  ·subst e; rw [UX] at hj ⊢; rw [eR2]; exact h4 j hj
  ·rw [eO i (by omega)] at hj ⊢; rw [eR i (by omega)]; exact h.rep i j (by omega) hj
theorem PC.Gy {tr:Tr} (h:PC n H tr n O R) (ht:mj n H tr):ar n H O R :=
 ⟨h.i_,h.iN,h.jB,fun i p hi=>by
  rw [h.orb i p hi]
  constructor
  ·rintro ⟨u,hu⟩
   exact ⟨u,⟨ht.mem i p u hi hu,ht.rp.fx i p u (Nat.zero_le _) hi hu⟩,ht.rp.at_ i p u (Nat.zero_le _) hi hu⟩
  ·rintro ⟨x,hx,rfl⟩
   exact ht.all i x hi hx,h.len,h.rep⟩
theorem On (xs:List Nat) (nd:xs.Nodup):∃ l:List Nat,((xs.map (fun x:Nat=>(x:Int))).mergeSort (fun a b=>decide (a<=b)))=l.map (fun x:Nat=>(x:Int))/\l.Pairwise (· < ·)/\(∀ p,p∈l↔p∈xs)/\l.length=xs.length:=by
 have hp:=List.mergeSort_perm (xs.map (fun x:Nat=>(x:Int))) (fun a b=>decide (a<=b));have hs:=List.pairwise_mergeSort (le:=fun a b:Int=>decide (a<=b)) (fun a b c h1 h2=>by simp at *; omega) (fun a b=>by simp; omega) (xs.map (fun x:Nat=>(x:Int)));generalize (xs.map (fun x:Nat=>(x:Int))).mergeSort (fun a b=>decide (a<=b))=m at *
 have hm:∀ z∈m,0<=z:=fun z hz=>by
  have:=hp.mem_iff.1 hz;simp at this;obtain ⟨a,_,rfl⟩:=this;omega
 have e:(m.map Int.toNat).map (fun x:Nat=>(x:Int))=m:=by
  rw [List.map_map]
  conv=>rhs; rw [<- List.map_id m]
  refine List.map_congr_left fun z hz=>?_;have:=hm z hz;simp; omega
 have hnd:m.Nodup:=hp.nodup_iff.2 (List.pairwise_map.2 (nd.imp fun h e=>h (by omega)));refine ⟨m.map Int.toNat,e.symm,?_,fun p=>?_,?_⟩
 ·rw [List.pairwise_map]
  have h2:m.Pairwise (fun a b=>a≠b):=hnd;refine (List.Pairwise.and hs h2).imp_of_mem fun {a b} ha hb fL=>?_;have h3:=hm a ha;have h4:=hm b hb
  have h5:a<=b:=by simpa using fL.1
  have h6:=fL.2;omega
 ·constructor
  ·intro kl
   obtain ⟨z,hz,rfl⟩:=List.mem_map.1 kl;have:=hp.mem_iff.1 hz;simp at this;obtain ⟨a,ha,rfl⟩:=this
   simpa using ha
  ·intro hpx
   refine List.mem_map.2 ⟨(p:Int),hp.mem_iff.2 (List.mem_map.2 ⟨p,hpx,rfl⟩),by simp⟩
 ·rw [List.length_map,hp.length_eq,List.length_map]
end Go.Proofs.Cm
namespace Go.Proofs.YtpedbljnhnoohaaGreat
open Go.RowKit
open Go.Proofs
open Go.Proofs.Cm (Lv bx cw)
attribute [local irreducible] Go.Calls
theorem CF.p {w:World} {b o:Nat} (h:CF F w b o v) (hb:BE w w'):CF F w' b o v:=h.kf (KF.aD hb)
theorem FP.p {w:World} {p:List Nat} (h:FP F w v p) (hb:BE w w'):FP F w' v p:=h.kf (KF.aD hb)
theorem CL.p {w:World} {b o:Nat} (h:CL w b o v) (hb:BE w w'):CL w' b o v:=h.up hb
theorem a_.p {w:World} {T:bx} {V:Nat->LV} (h:a_ F L n w T V) (hb:BE w w'):a_ F L n w' T V:=by
 have hk:Rg.Kp (fun _=>False) w w':=Rg.Kp.aD hb;exact ⟨fun k hf=>Nat.lt_of_lt_of_le (h.eP k hf) hb.size,h.LF,eY h.row hk id,fun i hi=>(h.lv i hi).kp hk (fun _ _=>id) (fun _ _=>id),h.kU⟩
theorem js.UY {w:World} {e:TypeId} {xs:List Int} (h:w.ownsRow B e 1 v n (xs.map (Value.int .i64))) (hn:n=xs.length) (h0:0<n):js w.heap.size w v xs:=by
 subst hn;have hh:=h;obtain ⟨h1,h2⟩:=h
 rcases h2 with ⟨_,h0'⟩ | ⟨g,cap,cur,rfl,hg,hc,h3,h4,h5,h6⟩
 ·omega
 ·refine ⟨g,0,cap,rfl,(Array.getElem?_eq_some_iff.1 hc).1,fun j hj=>?_⟩
  obtain ⟨g',c',u,e1,e2,e3,e4⟩:=jh hh hj;simp at e1;obtain ⟨rfl,_⟩:=e1;rw [e2];simp [List.getElem?_eq_getElem hj] at e3 ⊢;exact e3.symm
theorem js.up {w:World} {xs:List Int} (h:js w.heap.size w v xs) (hb:BE w w'):js w'.heap.size w' v xs:=by
 obtain ⟨b,o,c,e,h1,h2⟩:=h;exact ⟨b,o,c,e,Nat.lt_of_lt_of_le h1 hb.size,fun j hj=>(hb.cell (p:=⟨b,o+j,none⟩) h1).trans (h2 j hj)⟩
theorem qI (a:Option Addr) (len cap:Nat) (w:World) :
  Calls Tryz.prog 94 #[.slice a len cap] w fun e w'=>∃ fb,e=.returned (.func (.func 124) #[] #[.pointer (some ⟨fb,0,none⟩)])/\CL w' fb 0 (.slice a len cap)/\BE w w':=by
 refine (callsIn_wide.1 (JY Fence.wide 3 trivial rfl a len cap w)).mono ?_;rintro e w' ⟨rfl,rfl⟩;exact ⟨_,rfl,⟨by rw [Rg.aW]; rfl,by simp⟩,(Below.refl _ _).alloc (Nat.le_refl _) _⟩
def PG (B:Nat) (W:World) (v:Value) (k:Nat):Prop:=B<=k/\k<W.heap.size/\v.ownBlock≠some k
structure fE (B:Nat) (W:World) (v:Value) (ll:List (List Int)):Prop where
 own:∃ us,W.ownsRow B 27 1 v ll.length us/\Rg.bR (PG B W v) W us ll
theorem fE.nil (B:Nat) (W:World):fE B W (.slice none 0 0) []:=⟨[],World.ownsRow_nil _ _ _ _,Rg.bR.nil _ _⟩
theorem fE.p (h:fE B W v ll) (hb:BE W W'):fE B W' v ll:=by
 obtain ⟨us,h1,h2⟩:=h.own;exact ⟨us,Rg.bP h1 hb,(h2.kp (M:=fun _=>False) (Rg.Kp.aD hb) (fun _ _=>id)).mono fun k hk=>⟨hk.1,Nat.lt_of_lt_of_le hk.2.1 hb.size,hk.2.2⟩⟩
theorem fE.push (h:fE B W v ll) (hB:B<=W.heap.size) {u:Value} {l:List Int} {B2:Nat} (hu:W.ownsRow B2 3 1 u l.length (l.map (Value.int .i64))) (hl:l.length<=1000000000) (hB2:∀ k,u.ownBlock=some k->B<=k/\v.ownBlock≠some k) (hn:ll.length<1000000) (ty:TypeId) :
  ∃ a c X,(Builtin.append_ #[41,41] ty #[v,.slice (some ⟨W.heap.size,0,none⟩) 1 1]).run Tryz.prog (W.alloc (.cells #[u] 27))=.ok (.slice a (ll.length+1) c) X/\fE B X (.slice a (ll.length+1) c) (ll++[l])/\(∀ {B':Nat} {W0:World},B'<=B->Below B' W0 W->Below B' W0 X):=by
 obtain ⟨us,h1,h2⟩:=h.own;have hb:BE W (W.alloc (.cells #[u] 27)):=(Below.refl _ _).alloc (Nat.le_refl _) _;obtain ⟨ua,uc,Gz⟩:=Rg.cQ hu;have hv:Rg.FI (PG B W v) W u l:=Rg.cK.of (Rg.cH.cV hu hl) (fun k e=>⟨(hB2 k e).1,(hu.lt k e).2,(hB2 k e).2⟩);have az:=fun k e=>(h1.lt k e).2;obtain ⟨v',X,r1,r2,r3,r4,a,c,rfl⟩:=fe (P:=Tryz.prog) aM ty (Rg.bP h1 hb) (Nat.le_trans hB hb.size) W.heap.size 1 (u:=u) (by rw [Rg.aW]; rfl) (by rw [Gz]; rfl) hn;have gO:Rg.Kp (fun _=>False) W (W.alloc (.cells #[u] 27)):=Rg.Kp.aD hb
 have cR:(W.alloc (.cells #[u] 27)).heap.size=W.heap.size+1:=by simp
 have hk:Rg.Kp (fun k=>v.ownBlock=some k) W X:=Rg.Kp.trans (M:=fun k=>v.ownBlock=some k) (gO.gS fun _=>False.elim) (Rg.Kp.cC r3 fun _ e=>e) (fun _ _ e=>e);have hg:∀ k,PG B W v k->¬ v.ownBlock=some k:=fun k g=>g.2.2
 have hm:∀ k,PG B W v k->PG B X (.slice a (ll.length+1) c) k:=fun k g=>by
  refine ⟨g.1,Nat.lt_of_lt_of_le g.2.1 hk.size,fun e=>?_⟩
  rcases r4 with r4 | r4
  ·rw [r4] at e; exact g.2.2 e
  ·rw [r4] at e; injection e with e; have:=g.2.1; omega
 refine ⟨a,c,X,r1,⟨us++[u],by rw [List.length_append]; exact r2,(bR.snoc (h2.kp hk hg) (hv.kp hk hg)).mono hm⟩,fun {B' W0} JZ ky=>?_⟩;refine (ky.trans ⟨hk.os,hk.tape,hk.output,hk.size,fun k P2=>hk.block k ?_ fun e=>?_⟩)
 ·have:=ky.size; omega
 ·have:=(h1.lt k e).1; omega
end Go.Proofs.YtpedbljnhnoohaaGreat
namespace Go.Proofs.Rg
open Go Go.RowKit
variable {P:Program} {md:Region.Mode} {ops:Array Oper} {Q:Exit->Act->World->Prop} {S:Array Bool->World->Prop}
theorem Any.J0 {i k q di dk dj dq:Nat} {vq:Value} {I R0:World->Prop} {Ri Rk Rj:Value->World->Prop} {l:Array Bool} {a:Act} {w:World} (hS:∀ l W,I W->S l W)
  (ij:i≠j) (kj:k≠j) (qj:q≠j) (dij:di≠dj) (dkj:dk≠dj) (dqj:dq≠dj)
  (r0:Region.ready md ops l=[i,j]) (ri:Region.ready md ops (l.setIfInBounds i true)=[k,j]) (rj:Region.ready md ops (l.setIfInBounds j true)=[i])
  (aaI:Region.ready md ops (((l.setIfInBounds i true).setIfInBounds k true).setIfInBounds q true)=[j]) (rij:Region.ready md ops ((l.setIfInBounds i true).setIfInBounds j true)=[k])
  (wT:∀ u x W m,S ((l.setIfInBounds i true).setIfInBounds k true) W->Any P md ops Q S m (((l.setIfInBounds i true).setIfInBounds k true).setIfInBounds q true) (((a.put (some di) u).put (some dk) x).put (some dq) vq) W->Any P md ops Q S (m+1) ((l.setIfInBounds i true).setIfInBounds k true) ((a.put (some di) u).put (some dk) x) W)
  (oI:∀ u v x W m,S (((l.setIfInBounds i true).setIfInBounds j true).setIfInBounds k true) W->Any P md ops Q S m ((((l.setIfInBounds i true).setIfInBounds j true).setIfInBounds k true).setIfInBounds q true) ((((a.put (some di) u).put (some dj) v).put (some dk) x).put (some dq) vq) W->Any P md ops Q S (m+1) (((l.setIfInBounds i true).setIfInBounds j true).setIfInBounds k true) (((a.put (some di) u).put (some dj) v).put (some dk) x) W)
  (s0:∀ W W',BE W W'->R0 W->R0 W') (si:∀ u W W',BE W W'->Ri u W->Ri u W') (sk:∀ u W W',BE W W'->Rk u W->Rk u W') (sj:∀ u W W',BE W W'->Rj u W->Rj u W')
  (hi:∀ b,(b=a∨∃ u,b=a.put (some dj) u)->∀ W,I W->Does P ops Q i di I Ri (fun W W'=>BE W W') b W)
  (hj:∀ b,(b=a∨(∃ u,b=a.put (some di) u)∨∃ u v,b=((a.put (some di) u).put (some dk) v).put (some dq) vq)->∀ W,I W->Does P ops Q j dj I Rj (fun W W'=>BE W W') b W)
  (hk:∀ u b,(b=a.put (some di) u∨∃ v,b=(a.put (some di) u).put (some dj) v)->∀ W,I W->R0 W->Ri u W->Does P ops Q k dk I Rk (fun W W'=>∀ v,Rj v W->Rj v W') b W)
  (hI:I w) (h0:R0 w) (h:∀ W u x v,I W->Rk x W->Rj v W->Any P md ops Q S n ((((l.setIfInBounds i true).setIfInBounds k true).setIfInBounds q true).setIfInBounds j true) ((((a.put (some di) u).put (some dk) x).put (some dq) vq).put (some dj) v) W) :
  Any P md ops Q S (n+4) l a w:=by
 have ha:∀ u x v:Value,(((a.put (some di) u).put (some dj) v).put (some dk) x).put (some dq) vq=((((a.put (some di) u).put (some dk) x).put (some dq) vq).put (some dj) v):=fun u x v=>by
  rw [put_comm (a.put (some di) u) v x (Ne.symm dkj),put_comm ((a.put (some di) u).put (some dk) x) v vq (Ne.symm dqj)]
 have hl:(((l.setIfInBounds i true).setIfInBounds j true).setIfInBounds k true).setIfInBounds q true=(((l.setIfInBounds i true).setIfInBounds k true).setIfInBounds q true).setIfInBounds j true:=by
  rw [Array.setIfInBounds_comm true true (xs:=l.setIfInBounds i true) (Ne.symm kj),Array.setIfInBounds_comm true true (xs:=(l.setIfInBounds i true).setIfInBounds k true) (Ne.symm qj)]
 refine Any.two r0 ?_ ?_
 ·refine wpOp_mono ?_ (hi a (.inl rfl) w hI)
  rintro c W ⟨u,rfl,h1,h2,h3⟩;refine ⟨hS _ _ h1,Any.two ri ?_ ?_⟩
  ·refine wpOp_mono ?_ (hk u _ (.inl rfl) W h1 (s0 _ _ h3 h0) h2)
   rintro c W' ⟨x,rfl,g1,g2,g3⟩;refine ⟨hS _ _ g1,wT u x W' (n+1) (hS _ _ g1) (Any.one aaI ?_)⟩;refine wpOp_mono ?_ (hj _ (.inr (.inr ⟨u,x,rfl⟩)) W' g1);rintro c tD ⟨v,rfl,e1,e2,e3⟩;exact ⟨hS _ _ e1,h _ _ _ _ e1 (sk _ _ _ e3 g2) e2⟩
  ·refine wpOp_mono ?_ (hj _ (.inr (.inl ⟨u,rfl⟩)) W h1)
   rintro c W' ⟨v,rfl,g1,g2,g3⟩;refine ⟨hS _ _ g1,Any.one rij ?_⟩;refine wpOp_mono ?_ (hk u _ (.inr ⟨v,rfl⟩) W' g1 (s0 _ _ g3 (s0 _ _ h3 h0)) (si _ _ _ g3 h2));rintro c tD ⟨x,rfl,e1,e2,e3⟩;refine ⟨hS _ _ e1,oI u v x tD n (hS _ _ e1) ?_⟩;rw [ha,hl];exact h tD u x v e1 e2 (e3 _ g2)
 ·refine wpOp_mono ?_ (hj a (.inl rfl) w hI)
  rintro c W ⟨v,rfl,h1,h2,h3⟩;refine ⟨hS _ _ h1,Any.one rj ?_⟩;refine wpOp_mono ?_ (hi _ (.inr ⟨v,rfl⟩) W h1);rintro c W' ⟨u,rfl,g1,g2,g3⟩;refine ⟨hS _ _ g1,Any.one (by rw [Array.setIfInBounds_comm _ _ (Ne.symm ij)]; exact rij) ?_⟩;rw [put_comm a v u (Ne.symm dij),Array.setIfInBounds_comm _ _ (Ne.symm ij)];refine wpOp_mono ?_ (hk u _ (.inr ⟨v,rfl⟩) W' g1 (s0 _ _ g3 (s0 _ _ h3 h0)) g2);rintro c tD ⟨x,rfl,e1,e2,e3⟩;refine ⟨hS _ _ e1,oI u v x tD n (hS _ _ e1) ?_⟩;rw [ha,hl];exact h tD u x v e1 e2 (e3 _ (sj _ _ _ g3 h2))
end Go.Proofs.Rg
namespace Go.Proofs.YtpedbljnhnoohaaGreat
open Go.RowKit
open Go.Proofs
section
open Go.Proofs.Cm (Lv bx cw)
attribute [local irreducible] Go.Calls
theorem J1 (args:Array Value) (w:World):(callFunc 94 args).run Tryz.prog w=.ok (.enter 94 args) w:=by kernel_rfl
theorem J2 (args:Array Value) (w:World):(callFunc 93 args).run Tryz.prog w=.ok (.enter 93 args) w:=by kernel_rfl
theorem XH (args:Array Value) (w:World):(callFunc 95 args).run Tryz.prog w=.ok (.enter 95 args) w:=by kernel_rfl
theorem wU (args:Array Value) (w:World):(callFunc 75 args).run Tryz.prog w=.ok (.enter 75 args) w:=by kernel_rfl
structure g_ (B:Nat) (W:World) (v:Value) (l:List Int):Prop where
 own:W.ownsRow B 3 1 v l.length (l.map (Value.int .i64))
theorem g_.p {l:List Int} (h:g_ B W v l) (hb:BE W W'):g_ B W' v l:=⟨Rg.bP h.own hb⟩
structure SZ (m:Nat) (W:World):Prop where
 le:m<=W.heap.size
theorem SZ.p {m:Nat} (h:SZ m W) (hb:BE W W'):SZ m W':=⟨Nat.le_trans h.le hb.size⟩
theorem fE.lt {B:Nat} {W:World} {v:Value} {ll:List (List Int)} (h:fE B W v ll):∀ k,v.ownBlock=some k->B<=k/\k<W.heap.size:=fun k e=>by
 obtain ⟨us,h1,_⟩:=h.own;exact h1.lt k e
theorem fE.shape (h:fE B W v ll):∃ a c,v=.slice a ll.length c:=by
 obtain ⟨us,h1,_⟩:=h.own;exact Rg.cQ h1
theorem fE.J3 (h:fE B W v ll) (hl:ll.length<=1000000000) {G:Nat->Prop} (hG:∀ k,B<=k->k<W.heap.size->G k):Rg.aL G W v ll:=by
 obtain ⟨us,h1,h2⟩:=h.own;exact ⟨us,Rg.cK.of (Rg.cH.cV h1 hl) (fun k e=>hG k (h1.lt k e).1 (h1.lt k e).2),h2.mono fun k g=>hG k g.1 g.2.1⟩
theorem g_.fi {l:List Int} (h:g_ B W v l) (hl:l.length<=1000000000) {G:Nat->Prop} (hG:∀ k,B<=k->k<W.heap.size->G k):Rg.FI G W v l :=
 Rg.cK.of (Rg.cH.cV h.own hl) (fun k e=>hG k (h.own.lt k e).1 (h.own.lt k e).2)
theorem cj.CV {w:World} {b:Nat} {u3:Value} (h:cj w b u1 u2 u3) (y:Value):cj (w.setCell ⟨b,1,none⟩ y) b u1 y u3:=by
 refine ⟨?_,World.cell?_setCell_same (h:=h.c1) ..,?_,?_,?_,?_,by simpa using h.lt⟩
 ·rw [World.cell?_setCell_other (h:=by intro e; injection e with e1 e2; omega) ..]; exact h.c0
 ·rw [World.cell?_setCell_other (h:=by intro e; injection e with e1 e2; omega) ..]; exact h.c2
 ·rw [World.frozen?_setCell]; exact h.f0
 ·rw [World.frozen?_setCell]; exact h.f1
 ·rw [World.frozen?_setCell]; exact h.f2
theorem dV.uY {c0 c1 c2:Value} {O:List (List Int)} {R:List (List (List Int))} (h:dV B W tc c0 c1 c2 ov rv O R):∃ a c,ov=.slice a O.length c:=by
 obtain ⟨us,vs,h1,_⟩:=h.own;exact Rg.cQ h1
theorem dV.D8 {c0 c1 c2:Value} {O:List (List Int)} {R:List (List (List Int))} (h:dV B W tc c0 c1 c2 ov rv O R):∃ a c,rv=.slice a R.length c:=by
 obtain ⟨us,vs,_,h1,_⟩:=h.own;exact Rg.cQ h1
theorem dV.kp {M:Nat->Prop} {B:Nat} {W W':World} {tc:Nat} {c0 c1 c2 ov rv:Value} {O:List (List Int)} {R:List (List (List Int))} (h:dV B W tc c0 c1 c2 ov rv O R) (hk:Rg.Kp M W W') (hM:∀ z,M z->z<B):dV B W' tc c0 c1 c2 ov rv O R:=by
 obtain ⟨us,vs,h1,h2,h3,h4⟩:=h.own
 have hg:∀ z,iH B W tc ov rv z->¬ M z:=fun z g e=>by have:=hM z e; have:=g.1; omega
 have hm:∀ z,iH B W tc ov rv z->iH B W' tc ov rv z:=fun z g=>g.up hk.size;exact ⟨h.gZ.kp hk (fun e=>by have:=hM _ e; have:=h.low; omega),h.low,⟨us,vs,im h1 hk (fun z e e2=>by have:=hM z e; have:=(h1.lt z e2).1; omega),im h2 hk (fun z e e2=>by have:=hM z e; have:=(h2.lt z e2).1; omega),(h3.kp hk hg).mono hm,bX.mono (bX.kp h4 hk hg) hm⟩,h.apart,h.ot,h.rt⟩
def aV (F:Nat->Prop) (w:World) (v:Value) (gl:List (List (List Int))):Prop:=∃ us,Rg.cK F w v us/\Rg.bX F w us gl
theorem aV.rows {F:Nat->Prop} {w:World} {v:Value} {gl:List (List (List Int))} (h:aV F w v gl):gC w v gl:=by
 obtain ⟨us,h1,h2⟩:=h;exact ⟨us,h1.Fp,h2.1,fun i a b=>aL.rows (h2.2 i a b)⟩
theorem aV.kp {F M:Nat->Prop} {w w':World} {v:Value} {ll:List (List (List Int))} (h:aV F w v ll) (hk:Rg.Kp M w w') (hF:∀ k,F k->¬ M k):aV F w' v ll:=by
 obtain ⟨us,h1,h2⟩:=h;exact ⟨us,h1.kp hk hF,bX.kp h2 hk hF⟩
theorem dV.frO {c0 c1 c2:Value} {O:List (List Int)} {R:List (List (List Int))} (h:dV B W tc c0 c1 c2 ov rv O R) (hl:O.length<=1000000000):Rg.aL (fun z=>B<=z) W ov O:=by
 obtain ⟨us,vs,h1,h2,h3,h4⟩:=h.own;exact ⟨us,Rg.cK.of (Rg.cH.cV h1 hl) (fun k e=>(h1.lt k e).1),h3.mono fun _ g=>g.1⟩
theorem dV.frR {c0 c1 c2:Value} {O:List (List Int)} {R:List (List (List Int))} (h:dV B W tc c0 c1 c2 ov rv O R) (hl:R.length<=1000000000):aV (fun z=>B<=z) W rv R:=by
 obtain ⟨us,vs,h1,h2,h3,h4⟩:=h.own;exact ⟨vs,Rg.cK.of (Rg.cH.cV h2 hl) (fun k e=>(h2.lt k e).1),bX.mono h4 fun _ g=>g.1⟩
structure uZ (B:Nat) (W:World) (tc:Nat) (c0 c1 c2 ov rv:Value) (O:List (List Int)) (R:List (List (List Int))) (x5:Value) (l5:List Int) (x6:Value) (l6:List (List Int)):Prop where
 ch:dV B W tc c0 c1 c2 ov rv O R
 f5:Rg.FI (iH B W tc ov rv) W x5 l5
 f6:Rg.aL (iH B W tc ov rv) W x6 l6
theorem lS {x6:Value} {l6:List (List Int)} (h:Rg.aL (iH B W tc ov rv) W x6 l6) (hb:BE W W'):Rg.aL (iH B W' tc ov rv) W' x6 l6 :=
 aL.mono (aL.kp (M:=fun _=>False) h (Rg.Kp.aD hb) (fun _ _=>id)) (fun _ g=>g.up hb.size)
theorem uZ.p {B:Nat} {W W':World} {tc:Nat} {c0 c1 c2 ov rv:Value} {O:List (List Int)} {R:List (List (List Int))} {x5:Value} {l5:List Int} {x6:Value} {l6:List (List Int)} (h:uZ B W tc c0 c1 c2 ov rv O R x5 l5 x6 l6) (hb:BE W W'):uZ B W' tc c0 c1 c2 ov rv O R x5 l5 x6 l6 :=
 ⟨h.ch.p hb,Rg.FI.mono (Rg.FI.kp (M:=fun _=>False) h.f5 (Rg.Kp.aD hb) (fun _ _=>id)) (fun _ g=>g.up hb.size),lS h.f6 hb⟩
theorem CL.c {w:World} {b o:Nat} (h:CL w b o v):w.cell? ⟨b,o,none⟩=some v:=h.cell
theorem zG (aU:1<=n) (aZ:n<=64) {w:World} {T:bx} {V:Nat->LV} (hT:a_ F L n w T V) (cI:CF F w tb 0 (.int .i64 ((n:Nat):Int))) (dp:CF F w tb 1 (.slice (some ⟨L,0,none⟩) n n)) (hH:Cm.cz n H) (dJ:Cm.mj n H (cw T)) (hl:∀ j,j<n->Cm.fY n T j) :
  Calls Tryz.prog 70 #[.pointer (some ⟨tb,0,none⟩)] w fun e w'=>∃ ov rv O R,e=.returned (.agg #[.int .i64 ((n:Nat):Int),ov,rv])/\Rg.aL (fun z=>w.heap.size<=z) w' ov (O.map Ma.ah)/\aV (fun z=>w.heap.size<=z) w' rv (R.map (List.map Ma.ah))/\Cm.ar n H O R/\BE w w':=by
 have K:=U (bi w);have HT:=U hT;have C0:=U cI;have C1:=U dp;have HH:=U hH;have p9:=U dJ;have HL:=U hl;clear hT cI dp hH dJ hl
 go_enter Tryz.func70,Tryz.ntmps70
 go_upto_region 0 with fail;refine c6 ?_;have bV:=cj.new w (.int .i64 0) (.slice none 0 0) (.slice none 0 0);refine k8 (bj rfl) ?_;go_frame;have hb:=be w (.cells #[.int .i64 0,.slice none 0 0,.slice none 0 0] 25);generalize w.alloc (.cells #[.int .i64 0,.slice none 0 0,.slice none 0 0] 25)=w1 at *;replace HT:=U (HT.u.p hb);replace C0:=U (C0.u.p hb);replace C1:=U (C1.u.p hb);replace K:=U (Rg.acc K.u hb);clear hb;have FT:=U bV;have K1:=U (bi w1);have GC:=(FT.u.lt);clear bV;go_upto_region 1 with fail;refine c6<|j9 rfl<|k8 (bh _ rfl rfl)<|k8 (j4 (zq _ _))<|k8 (g7 (.int .i64 (n:Int)) ⟨tb,0,none⟩ (af ((Below.cell (p:=⟨tb,0,none⟩) K1.u C0.u.lt).trans C0.u.cell))) ?_;go_frame;refine k8 (nL (d:=(n:Int)) _ rfl rfl) ?_;go_frame;have bV:=cj.new w1 (.int .i64 0) (.slice none 0 0) (.slice none 0 0);refine k8 (bj rfl) ?_;go_frame;have hb:=be w1 (.cells #[.int .i64 0,.slice none 0 0,.slice none 0 0] 25);generalize w1.alloc (.cells #[.int .i64 0,.slice none 0 0,.slice none 0 0] 25)=w2 at *;replace K1:=U (Rg.acc K1.u hb);clear hb;have FC:=U bV;refine Rg.aG none rfl rfl (Rg.ak _ _ _ rfl _ rfl _ rfl (aJ _ _ _ _ _ _ _ FC.u)) ?_;go_frame;clear bV;replace FC:=U (FC.u.set (.int .i64 (n:Int)) (.slice none 0 0) (.slice none 0 0));replace K1:=U (((K1.u.setCell (p:=⟨w1.heap.size,0,none⟩) (Nat.le_refl _) (.int .i64 (n:Int))).setCell (p:=⟨w1.heap.size,1,none⟩) (Nat.le_refl _) (.slice none 0 0)).setCell (p:=⟨w1.heap.size,2,none⟩) (Nat.le_refl _) (.slice none 0 0));generalize (((w2).setCell ⟨w1.heap.size,0,none⟩ (.int .i64 (n:Int))).setCell ⟨w1.heap.size,1,none⟩ (.slice none 0 0)).setCell ⟨w1.heap.size,2,none⟩ (.slice none 0 0)=w5 at *;have CH:=U (dV.start FC.u (Nat.le_refl _));clear FC;go_upto_region 2 with fail
 refine c6<|j9 rfl<|k8 (bh _ rfl rfl)<|k8 (j4 (kC _ _))<|k8 (g7 (.slice (some ⟨L,0,none⟩) n n) ⟨tb,1,none⟩ (Rg.ae _ _ Tryz.underlying135 ((Below.cell (p:=⟨tb,1,none⟩) K1.u C1.u.lt).trans C1.u.cell))) ?_;go_frame;refine k8 (g9 Tryz.underlying135)<|j7 rfl ?_;go_frame;have pq:=U (Cm.PC.nil n H (cw T));go_wp2
 go_loopw [19] (fun iv wr=>∃ (k:Nat) (ov rv:Value) (O:List (List Nat)) (R:List (List (List Nat))),iv=.int .i64 k/\k<=n/\Hid (dV w1.heap.size wr w1.heap.size (.int .i64 ((n:Nat):Int)) ov rv ov rv (O.map Ma.ah) (R.map (List.map Ma.ah)))/\Hid (BE w1 wr)/\Hid (Cm.PC n H (cw T) k O R)) (fun iv _=>n - (intOf iv).toNat)
 case atStart=>exact ⟨0,_,_,[],[],rfl,Nat.zero_le _,CH,K1,pq⟩
 case round =>
  clear CH K1 pq;obtain ⟨k,ov,rv,O,R,rfl,hk,CH,K1,pq⟩:=hrel;have GD:=CH.u.uY;have GH:=CH.u.D8;rw [List.length_map] at GD GH;obtain ⟨dW,dX,rfl⟩:=GD;obtain ⟨dK,dL,rfl⟩:=GH
  by_cases b_:k<n
  ·have gY:(k:Int)<(n:Int):=by omega
   have yI:=HL.u k b_;have ir:=Cm.om yI;have JH:1<=(T k).orb.length:=List.length_pos_of_mem ((yI.orb k).2 ⟨_,yI.self⟩);obtain ⟨l,mh,qt,kG,D9⟩:=Cm.On (T k).orb yI.nd;have HA1:=U (show Ob.jB (Ma.ah (T k).orb)=Ma.ah l by rw [Ob.wI]; exact mh);have fC:=U qt;have J4:=U kG;have HA4:=U D9;obtain ⟨oa,oc,nH⟩:=HT.u.pW b_;have CO:=U (CL.mk (show w1.cell? ⟨L,k*194+1,none⟩=some (.slice oa (T k).orb.length oc) by rw [xM HT.u b_ rfl,nH]) HT.u.lt);have SI:=U (show js w1.heap.size w1 (.slice oa (T k).orb.length oc) (Ma.ah (T k).orb) by have:=js.UY (HT.u.lv k b_).sN (by rw [Ma.aB]) JH; rwa [nH] at this);have ba:=U b_;have fl:=U (show (∀ z,(Value.slice dW O.length dX).ownBlock=some z->z<wr.heap.size)/\(∀ z,(Value.slice dK R.length dL).ownBlock=some z->z<wr.heap.size)/\w1.heap.size<wr.heap.size from ⟨fun z e=>(CH.u.sq.1 z e).2,fun z e=>(CH.u.sq.2 z e).2,CH.u.gZ.lt⟩);have jR:=U (SZ.mk (Nat.le_refl wr.heap.size))
   have aaJ:1<=(Ma.ah (T k).orb).length:=by rw [Ma.aB]; exact JH
   have lI:(Ma.ah (T k).orb).length<=1000000:=by rw [Ma.aB]; omega
   have zH:=U (show l.length<=64 by rw [D9]; omega);have D_:=U (show 1<=l.length by rw [D9]; exact JH);clear yI mh qt kG D9 nH;go_upto_region 5 with fail;refine c6<|j9 rfl<|k8 (bh _ rfl rfl)<|k8 (j4 (kC _ _))<|k8 (g7 (.slice (some ⟨L,0,none⟩) n n) ⟨tb,1,none⟩ (Rg.ae _ _ Tryz.underlying135 ((Below.cell (p:=⟨tb,1,none⟩) K1.u C1.u.lt).trans C1.u.cell))) ?_;go_frame;refine j7 rfl<|k8 (bn _ _ rfl Tryz.underlying135 iq L (n) (n) (k) rfl rfl ba.u)<|k8 (j4 (Cz _ _ _))<|k8 (g7 (.slice oa (T k).orb.length oc) ⟨L,k*194+1,none⟩ (Rg.ae _ _ Tryz.underlying26 ((Below.cell (p:=⟨L,k*194+1,none⟩) K1.u CO.u.lt).trans CO.u.cell))) ?_;go_frame;refine f4 30 (aA 94 _ _ rfl rfl (J1 _ _)) ?_;refine (qI _ _ _ wr).mono ?_;rintro e1 gA ⟨fb,rfl,ph,hb⟩;refine ⟨_,rfl,?_⟩;go_frame;replace CH:=U (CH.u.p hb);replace jR:=U (jR.u.p hb);replace K1:=U (Rg.acc K1.u hb);clear hb;have FB:=U ph;have QD:=jR.u.le;refine f4 31 (aA 93 _ _ rfl rfl (J2 _ _)) ?_;refine (xS fb _ _ aaJ lI gA FB.u.lt FB.u.cell (SI.u.up K1.u)).mono ?_;rintro e1 u_ ⟨v,rfl,bH,hb⟩;rw [HA1.u,Ma.aB] at bH;have bH:=g_.mk (l:=Ma.ah l) (by rw [Ma.aB,HA4.u]; exact bH);have hq:=jh bH.own (k:=0) (by rw [Ma.aB]; exact D_.u);rw [Ma.aB] at hq;obtain ⟨sb,sc,u0,rfl,_,_,_⟩:=hq;have Ea:=U QD;refine ⟨_,rfl,?_⟩;go_frame;replace CH:=U (CH.u.p hb);replace jR:=U (jR.u.p hb);replace FB:=U (FB.u.p hb);replace K1:=U (Rg.acc K1.u hb);clear hb;have R5:=U bH;refine j8 rfl ?_;go_frame;clear ph bH FB CO SI;replace HT:=U (HT.u.p K1.u);replace C0:=U (C0.u.p K1.u);replace C1:=U (C1.u.p K1.u);replace FT:=U (FT.u.p K1.u);have K5:=U (bi u_);have RP:=U (fE.nil u_.heap.size u_);have zI:=U (show ∀ j,j<0->Cm.lO n (fun z=>Cm.St H k z/\Cm.ap z k=l.getD j 0) (([]:List (List Nat)).getD j []) from fun j h=>absurd h (Nat.not_lt_zero _));go_wp2
   go_loopw [34,6] (fun iv tv wq=>∃ (m:Nat) (rs:List (List Nat)),iv=.int .i64 m/\m<=l.length/\rs.length=m/\Hid (fE u_.heap.size wq tv (rs.map Ma.ah))/\Hid (BE u_ wq)/\Hid (∀ j,j<m->Cm.lO n (fun z=>Cm.St H k z/\Cm.ap z k=l.getD j 0) (rs.getD j []))) (fun iv _ _=>l.length - (intOf iv).toNat)
   case atStart=>exact ⟨0,[],rfl,Nat.zero_le _,rfl,RP,K5,zI⟩
   case round =>
    clear K5 RP zI;obtain ⟨m,rs,rfl,hm,zJ,RP,K5,zI⟩:=hrel
    have hlN:(l.length:Int)<=64:=by have:=zH.u; omega
    obtain ⟨ta,tc,rfl⟩:=RP.u.shape
    by_cases gB:m<l.length
    ·have uX:(m:Int)<(l.length:Int):=by omega
     obtain ⟨p,hp⟩:∃ p:Nat,Hid (p=l[m]):=⟨_,U rfl⟩
     have aP:u_.cell? ⟨sb,0+m,none⟩=some (.int .i64 (p:Int)):=by
      obtain ⟨g,c,u,e1,e2,e3,_⟩:=jh R5.u.own (k:=m) (by rw [Ma.aB]; exact gB);simp only [Value.slice.injEq,Option.some.injEq,Addr.mk.injEq] at e1;obtain ⟨⟨rfl,_,_⟩,_,_⟩:=e1;rw [e2,<- e3,hp.u];simp [Ma.ah,List.getElem?_eq_getElem gB]
     have CS:=U (CL.mk aP (dU aP));obtain ⟨u,hu⟩:=((HL.u k ba.u).orb p).1 ((J4.u p).1 (by rw [hp.u]; exact List.getElem_mem gB));have yI:=HL.u k ba.u;have D2:=yI.DS p u hu
     have ks:p<64:=by omega
     have GU:=U (yI.zi p u hu);have HU:=U hu;obtain ⟨ub,uo,uc,Gf,Gg⟩:=HT.u.UO ba.u ks hu GU.u aU;have UP:=U Gg;have CU:=U (CL.mk (show u_.cell? ⟨L,k*194+2+p,none⟩=some (.slice (some ⟨ub,uo,none⟩) n uc) by rw [tj HT.u ba.u ks (by omega),Gf]) HT.u.lt);have fM:=U gB;have nN:=U zJ;clear aP hu yI Gf Gg zJ;go_upto_region 9 with fail;refine c6<|k8 (ag aQ _ _ rfl sb (0) (l.length) sc (m) rfl rfl fM.u)<|k8 (g7 (.int .i64 (p:Int)) ⟨sb,0+m,none⟩ (af ((Below.cell (p:=⟨sb,0+m,none⟩) K5.u CS.u.lt).trans CS.u.cell)))<|j7 rfl ?_;go_frame;go_upto_region 10 with fail;refine c6<|j8 rfl<|j9 rfl<|j9 rfl<|k8 (bh _ rfl rfl) ?_;go_frame;refine k8 (j4 (kC _ _))<|k8 (g7 (.slice (some ⟨L,0,none⟩) n n) ⟨tb,1,none⟩ (Rg.ae _ _ Tryz.underlying135 ((Below.cell (p:=⟨tb,1,none⟩) K5.u C1.u.lt).trans C1.u.cell)))<|j7 rfl<|j7 rfl<|k8 (bn _ _ rfl Tryz.underlying135 iq L (n) (n) (k) rfl rfl ba.u) ?_;go_frame;refine k8 (j4 (xO _ _ _))<|k8 (bB _ _ rfl Tryz.underlying142 uP L (k*194+2) (p) rfl rfl ks)<|k8 (g7 (.slice (some ⟨ub,uo,none⟩) n uc) ⟨L,k*194+2+p,none⟩ (Rg.ae _ _ Tryz.underlying27 ((Below.cell (p:=⟨L,k*194+2+p,none⟩) K5.u CU.u.lt).trans CU.u.cell)))<|j7 rfl ?_;go_frame;refine f4 51 (dm 95 _ _ _ _ rfl rfl rfl rfl (XH _ _)) ?_;refine (JW aU aZ (HT.u.p K5.u) (C0.u.p K5.u) (C1.u.p K5.u) HH.u p9.u HL.u (UP.u.p K5.u) GU.u ba.u).mono ?_;rintro e1 fj ⟨F2,yv,y,rfl,_,_,hy,UZ,U0,hb⟩;have oD:=U UZ;have GY:=U U0;refine ⟨_,rfl,?_⟩;go_frame;replace RP:=U (RP.u.p hb);replace K5:=U (Rg.acc K5.u hb);clear hb;have YN:=U hy;have GJ:=U (fun z e=>(RP.u.lt z e).2);have QE:=U K5.u.size;refine f4 52 (aA 75 _ _ rfl rfl (wU _ _)) ?_;refine (po _ (Ma.ah y) fj YN.u.np (by rw [Ma.aB,GY.u.2]; exact aU) (by rw [Ma.aB,GY.u.2]; omega)).mono ?_;rintro e1 lQ ⟨cv,rfl,bH,hb⟩;obtain ⟨ca,cc,rfl⟩:=Rg.cQ bH;have mZ:=U bH;refine ⟨_,rfl,?_⟩;go_frame;replace RP:=U (RP.u.p hb);replace YN:=U (YN.u.p hb)
     replace K5:=U (Rg.acc K5.u hb);clear hb;refine k8 (Rg.aF _ _ _ rfl (.slice ca (Ma.ah y).length cc) rfl (cn lQ _ ⟨_,_,_,rfl⟩)) ?_;go_frame;obtain ⟨a9,c9,X9,r1,r2,r3⟩:=RP.u.push K5.u.size mZ.u (by rw [Ma.aB,GY.u.2]; omega) (fun z e=>⟨by have:=(mZ.u.lt z e).1; have:=QE.u; omega,fun e2=>by have:=(mZ.u.lt z e).1; have:=GJ.u z e2; omega⟩) (by rw [List.length_map,nN.u]; have:=zH.u; have:=fM.u; omega) 41;refine k8 (Rg.aT _ _ _ rfl rfl rfl r1)<|j8 rfl ?_;go_frame;have K6:=U (r3 (Nat.le_refl _) K5.u);have XI:=U (show fE u_.heap.size X9 (.slice a9 ((rs.map Ma.ah).length+1) c9) ((rs++[y]).map Ma.ah) by rw [List.map_append]; exact r2);have XJ:=U (Cm.LI.done HH.u ba.u ⟨p9.u.mem k p u ba.u HU.u,p9.u.rp.fx k p u (Nat.zero_le _) ba.u HU.u⟩ oD.u)
     have QF:=U (show ∀ j,j<m+1->Cm.lO n (fun z=>Cm.St H k z/\Cm.ap z k=l.getD j 0) ((rs++[y]).getD j []) from fun j hj=>by
      have hl:=nN.u
      by_cases e:j=m
      ·subst e
       have e1:(rs++[y]).getD j []=y:=by
        rw [List.getD_eq_getElem?_getD,List.getElem?_append_right (by omega),hl]; simp
       have e2:l.getD j 0=p:=by
        rw [hp.u,List.getD_eq_getElem?_getD,List.getElem?_eq_getElem fM.u]; rfl
       have e3:Cm.ap u k=p:=p9.u.rp.at_ k p u (Nat.zero_le _) ba.u HU.u;rw [e1,e2];have:=XJ.u
       rwa [e3] at this
      ·have e1:(rs++[y]).getD j []=rs.getD j []:=by
        rw [List.getD_eq_getElem?_getD,List.getD_eq_getElem?_getD,List.getElem?_append_left (by omega)]
       rw [e1]
       exact zI.u j (by omega))
     have QH:=U (show (rs++[y]).length=m+1 by rw [List.length_append,nN.u]; rfl);clear r1 r2 r3;go_wp2;go_roundw
     case rel=>exact ⟨m+1,rs++[y],by go_num,fM.u,QH.u,XI,K6,QF⟩
     case measure=>simp [intOf]; have:=fM.u; omega
    ·obtain rfl:m=l.length:=by omega
     have uX:¬ (l.length:Int)<(l.length:Int):=by omega
     replace CH:=U (CH.u.p K5.u);replace K1:=U (Rg.acc K1.u K5.u);have XK:=jR.u.le;replace jR:=U (jR.u.p K5.u);have QI:=R5.u.p K5.u
     have PD:=U (uZ.mk CH.u (QI.fi (by rw [Ma.aB]; omega) (G:=iH w1.heap.size wr w1.heap.size (Value.slice dW O.length dX) (Value.slice dK R.length dL)) (fun z g1 g2=>⟨by have:=Ea.u; have:=fl.u.2.2; omega,g2,fun e=>by have:=Ea.u; have:=fl.u.1 z e; omega,fun e=>by have:=Ea.u; have:=fl.u.2.1 z e; omega,by have:=Ea.u; have:=fl.u.2.2; omega⟩))
      (RP.u.J3 (by rw [List.length_map,zJ]; omega) (G:=iH w1.heap.size wr w1.heap.size (Value.slice dW O.length dX) (Value.slice dK R.length dL)) (fun z g1 g2=>⟨by have:=fl.u.2.2; omega,g2,fun e=>by have:=fl.u.1 z e; omega,fun e=>by have:=fl.u.2.1 z e; omega,by have:=fl.u.2.2; omega⟩)))
     have QJ:=U zJ;have sr:=U (show (O.map Ma.ah).length<1000000 by rw [List.length_map,pq.u.i_]; omega);have GK:=U (show (R.map (List.map Ma.ah)).length<1000000 by rw [List.length_map,pq.u.iN]; omega);clear XK QI CH RP R5 FT zJ;go_upto_region 12 with fail;have d_:BE wr wr.drew:=(Below.refl _ _).drew;replace PD:=U (PD.u.p d_);replace K1:=U (Rg.acc K1.u d_);replace jR:=U (jR.u.p d_);clear d_;have aj:BE wr wr.drew:=(Below.refl _ _).drew;generalize cE F wr wr.drew=F1 at *;clear aj;refine Rg.Any.begin (S:=Rg.aK 11 (fun W:World=>cj W w1.heap.size (.int .i64 (n:Int)) (Value.slice dW O.length dX) (Value.slice dK R.length dL)/\BE w1 W) (fun _=>True)) mix ?_;generalize wr.drew=fB at *;have hS:∀ (l:Array Bool) W,(fun W:World=>cj W w1.heap.size (.int .i64 (n:Int)) (Value.slice dW O.length dX) (Value.slice dK R.length dL)/\BE w1 W) W->Rg.aK 11 (fun W:World=>cj W w1.heap.size (.int .i64 (n:Int)) (Value.slice dW O.length dX) (Value.slice dK R.length dL)/\BE w1 W) (fun _=>True) l W:=fun l W h=>⟨.inr h,trivial⟩;have cF:∀ (l:Array Bool) W,l.getD 11 false=true->Rg.aK 11 (fun W:World=>cj W w1.heap.size (.int .i64 (n:Int)) (Value.slice dW O.length dX) (Value.slice dK R.length dL)/\BE w1 W) (fun _=>True) l W:=fun l W h=>⟨.inl h,trivial⟩;have hI:(fun W:World=>cj W w1.heap.size (.int .i64 (n:Int)) (Value.slice dW O.length dX) (Value.slice dK R.length dL)/\BE w1 W) fB:=⟨PD.u.ch.gZ,K1.u⟩;refine d7 0 11 (.pointer (some ⟨w1.heap.size,1,none⟩)) 56 rfl rfl (j3 fun w=>aw _ rfl rfl (cp _ _)) (hS _ _ hI)<|j0 1 11 (.slice dW O.length dX) 57 rfl rfl (j2 ⟨w1.heap.size,1,none⟩ (fun W hW=>Rg.ae _ _ Tryz.underlying22 hW.1.c1)) (hS _ _ hI)<|d8 2 11 (.slice (some ⟨sb,0,none⟩) l.length sc) 58 (hS _ _ hI)<|d7 5 11 (.pointer (some ⟨w1.heap.size,2,none⟩)) 61 rfl rfl (j3 fun w=>aw _ rfl rfl (cJ _ _)) (hS _ _ hI)<|j0 6 11 (.slice dK R.length dL) 62 rfl rfl (j2 ⟨w1.heap.size,2,none⟩ (fun W hW=>Rg.ae _ _ Tryz.underlying23 hW.1.c2)) (hS _ _ hI) ?_;go_frame
     refine d8 7 11 (.slice ta (rs.map Ma.ah).length tc) 63 (hS _ _ hI) ?_;go_frame
     refine Rg.Any.J0 (i:=3) (k:=4) (j:=8) (q:=10) (di:=59) (dk:=60) (dj:=64) (dq:=66) (vq:=.pointer (some ⟨w1.heap.size,1,none⟩)) (I:=fun W=>(fun W:World=>cj W w1.heap.size (.int .i64 ((n:Nat):Int)) (Value.slice dW O.length dX) (Value.slice dK R.length dL)/\BE w1 W) W/\fB.heap.size<=W.heap.size) (R0:=fun W=>uZ w1.heap.size W w1.heap.size (.int .i64 ((n:Nat):Int)) (Value.slice dW O.length dX) (Value.slice dK R.length dL) (Value.slice dW O.length dX) (Value.slice dK R.length dL) (O.map Ma.ah) (R.map (List.map Ma.ah)) (.slice (some ⟨sb,0,none⟩) l.length sc) (Ma.ah l) (.slice ta (rs.map Ma.ah).length tc) (rs.map Ma.ah)) (Ri:=fun u W=>Rg.f_ fB.heap.size [.slice (some ⟨sb,0,none⟩) l.length sc] u W) (Rk:=fun x W=>dV w1.heap.size W w1.heap.size (.int .i64 ((n:Nat):Int)) (Value.slice dW O.length dX) (Value.slice dK R.length dL) x (Value.slice dK R.length dL) (O.map Ma.ah++[Ma.ah l]) (R.map (List.map Ma.ah))/\Rg.aL (iH w1.heap.size W w1.heap.size x (Value.slice dK R.length dL)) W (.slice ta (rs.map Ma.ah).length tc) (rs.map Ma.ah)/\∃ a c,x=.slice a (O.length+1) c) (Rj:=fun v W=>Rg.f_ fB.heap.size [.slice ta (rs.map Ma.ah).length tc] v W) (fun l W h=>hS l W h.1)
      (by decide) (by decide) (by decide) (by decide) (by decide) (by decide) (by kernel_rfl) (by kernel_rfl) (by kernel_rfl) (by kernel_rfl) (by kernel_rfl) ?_ ?_
      (fun _ _ hb h=>h.p hb) (fun _ _ _ hb h=>h.p hb) (fun _ _ _ hb h=>⟨h.1.p hb,lS h.2.1 hb,h.2.2⟩) (fun _ _ _ hb h=>h.p hb) ?_ ?_ ?_ ⟨hI,Nat.le_refl _⟩ (PD.u) ?_
     ·intro u x W m hs h
      exact Rg.Any.qq (i:=10) (t:=11) (v:=.pointer (some ⟨w1.heap.size,1,none⟩)) (some 66) rfl rfl (by kernel_rfl) (by kernel_rfl) (by kernel_rfl) (fun _ _ _ h=>h) rfl (j3 fun w=>aw _ rfl rfl (cp _ _)) hs h
     ·intro u v x W m hs h
      exact Rg.Any.qq (i:=10) (t:=11) (v:=.pointer (some ⟨w1.heap.size,1,none⟩)) (some 66) rfl rfl (by kernel_rfl) (by kernel_rfl) (by kernel_rfl) (fun _ _ _ h=>h) rfl (j3 fun w=>aw _ rfl rfl (cp _ _)) hs h
     ·intro b hb W hW
      have kV:BE W (W.alloc (.cells #[.slice (some ⟨sb,0,none⟩) l.length sc] 26)):=(Below.refl _ _).alloc (Nat.le_refl _) _
      exact Rg.jK rfl rfl (by rcases hb with rfl | ⟨u,rfl⟩ <;> rfl) (Rg.aF _ _ _ rfl (.slice (some ⟨sb,0,none⟩) l.length sc) (by rcases hb with rfl | ⟨u,rfl⟩ <;> rfl) (pg W _ ⟨_,_,_,rfl⟩)) ⟨⟨⟨hW.1.1.p kV,Rg.acc hW.1.2 kV⟩,by simp; have:=hW.2; omega⟩,Rg.f_.new W [.slice (some ⟨sb,0,none⟩) l.length sc] 26 hW.2,kV⟩
     ·intro b hb W hW
      have kV:BE W (W.alloc (.cells #[.slice ta (rs.map Ma.ah).length tc] 41)):=(Below.refl _ _).alloc (Nat.le_refl _) _
      exact Rg.jK rfl rfl (by rcases hb with rfl | ⟨u,rfl⟩ | ⟨u,v,rfl⟩ <;> rfl) (Rg.aF _ _ _ rfl (.slice ta (rs.map Ma.ah).length tc) (by rcases hb with rfl | ⟨u,rfl⟩ | ⟨u,v,rfl⟩ <;> rfl) (nM W _ ⟨_,_,_,rfl⟩)) ⟨⟨⟨hW.1.1.p kV,Rg.acc hW.1.2 kV⟩,by simp; have:=hW.2; omega⟩,Rg.f_.new W [.slice ta (rs.map Ma.ah).length tc] 41 hW.2,kV⟩
     ·intro u b hb W hW h0 hu
      obtain ⟨pu,rfl,qd,px,nD⟩:=hu;obtain ⟨a2,c2,X,r1,r2,r3,r4⟩:=h0.ch.lA hW.1.2.size h0.f5 rfl sr.u (nD 0 (by simp)) 22;have jM:=Rg.Kp.cC r3 (M:=fun z=>(Value.slice dW O.length dX).ownBlock=some z) (fun _ e=>e)
      exact Rg.jK rfl rfl (by rcases hb with rfl | ⟨v,rfl⟩ <;> rfl) (Rg.aT _ _ _ rfl (by rcases hb with rfl | ⟨v,rfl⟩ <;> rfl) (by rcases hb with rfl | ⟨v,rfl⟩ <;> rfl) r1) ⟨⟨⟨r2.gZ,hW.1.2.grown r3 hW.1.2.size (fun j e=>(h0.ch.sq.1 j e).1)⟩,Nat.le_trans hW.2 r3.size⟩,⟨r2,aL.mono (aL.kp h0.f6 jM (fun z g e=>g.2.2.1 e)) r4,_,_,by rw [List.length_map]⟩,fun v hv=>hv.grown r3 (fun j e=>Nat.lt_of_lt_of_le (fl.u.1 j e) jR.u.le)⟩
     rintro tE fu fx fv hb hk hj;have tF:=hb.1;have WE:=hb.2;clear hb hI;go_frame;have FK:=U hk;have FJ:=U hj;obtain ⟨pj,QK,U1,yA,sf⟩:=FJ.u;subst QK;obtain ⟨a2,c2,F8⟩:=FK.u.2.2;subst F8;obtain ⟨a3,c3,X3,q1,q2,q3⟩:=FK.u.1.zF tF.2.size FK.u.2.1 rfl GK.u (sf 0 (by simp)) 23;rw [List.length_map] at q1 q2;have gQ:=(show _/\_ from ⟨q2.gZ,tF.2.grown q3 tF.2.size (fun j e=>(FK.u.1.sq.2 j e).1)⟩);refine j1 9 65 rfl rfl (Rg.aT _ _ _ rfl rfl rfl q1) (hS _ _ gQ) ?_;go_frame;have KX:=U gQ.2;refine Rg.Any.one (i:=11) (by kernel_rfl) (Rg.Any.dx none rfl rfl rfl (Rg.ak _ _ _ rfl _ rfl _ rfl (Rg.bz _ tC q2.gZ.c1 q2.gZ.f1)) (cF _ _ rfl) ?_);go_frame;refine d7 12 11 (.pointer (some ⟨w1.heap.size,2,none⟩)) 67 rfl rfl (j3 fun w=>aw _ rfl rfl (cJ _ _)) (cF _ _ rfl) ?_;go_frame;refine Rg.Any.one (i:=13) (by kernel_rfl) (Rg.Any.dx none rfl rfl rfl (Rg.ak _ _ _ rfl _ rfl _ rfl (Rg.bz _ qH (q2.gZ.CV _).c2 (q2.gZ.CV _).f2)) (cF _ _ rfl) ?_);go_frame;refine Rg.Any.done (by kernel_rfl) ?_ _;clear cF;clear hS gQ;have Bx:=q2.store (.slice a2 (O.length+1) c2) (.slice a3 (R.length+1) c3);have GL:=(KX.u.setCell (p:=⟨w1.heap.size,1,none⟩) (Nat.le_refl _) (.slice a2 (O.length+1) c2)).setCell (p:=⟨w1.heap.size,2,none⟩) (Nat.le_refl _) (.slice a3 (R.length+1) c3);generalize (X3.setCell ⟨w1.heap.size,1,none⟩ (.slice a2 (O.length+1) c2)).setCell ⟨w1.heap.size,2,none⟩ (.slice a3 (R.length+1) c3)=dB at *;have QL:=U (show dV w1.heap.size dB w1.heap.size (.int .i64 (n:Int)) (.slice a2 (O.length+1) c2) (.slice a3 (R.length+1) c3) (.slice a2 (O.length+1) c2) (.slice a3 (R.length+1) c3) ((O++[l]).map Ma.ah) ((R++[rs]).map (List.map Ma.ah)) by rw [List.map_append,List.map_append]; exact Bx)
     have K2:=U GL;have J5:=U (pq.u.snoc fC.u (fun p=>(J4.u p).trans ((HL.u k ba.u).orb p)) QJ.u zI.u);clear Bx GL q1 q2 q3 KX FK FJ PD;go_wp2;go_roundw
     case rel=>exact ⟨k+1,_,_,O++[l],R++[rs],by go_num,ba.u,QL,K2,J5⟩
     case measure=>simp [intOf]; have:=ba.u; omega
  ·obtain rfl:k=n:=by omega
   have gY:¬ (k:Int)<(k:Int):=by omega
   have TT:=U (FT.u.p K1.u);go_upto_region 14 with fail;refine c6<|k8 (Rg.eK _ _ rfl ⟨w1.heap.size,0,none⟩ rfl (mq CH.u.gZ))<|Rg.aG none rfl rfl (Rg.ak _ _ _ rfl _ rfl _ rfl (aJ _ _ _ _ _ _ _ TT.u)) ?_;go_frame;have wV:=Rg.Kp.trans (Rg.Kp.trans (Rg.Kp.aR (M:=fun z=>z=w.heap.size) (w:=wr) (a:=⟨w.heap.size,0,none⟩) (v:=.int .i64 (k:Int)) rfl) (Rg.Kp.aR (M:=fun z=>z=w.heap.size) (a:=⟨w.heap.size,1,none⟩) (v:=(Value.slice dW O.length dX)) rfl) (fun _ _ e=>e)) (Rg.Kp.aR (M:=fun z=>z=w.heap.size) (a:=⟨w.heap.size,2,none⟩) (v:=(Value.slice dK R.length dL)) rfl) (fun _ _ e=>e);have bT:=CH.u.kp wV (fun z e=>by rw [e]; exact GC);have zK:=TT.u.set (.int .i64 (k:Int)) (Value.slice dW O.length dX) (Value.slice dK R.length dL);have py:=((((K.u.trans (K1.u.mono K.u.size)).setCell (p:=⟨w.heap.size,0,none⟩) (Nat.le_refl _) (.int .i64 (k:Int))).setCell (p:=⟨w.heap.size,1,none⟩) (Nat.le_refl _) (Value.slice dW O.length dX)).setCell (p:=⟨w.heap.size,2,none⟩) (Nat.le_refl _) (Value.slice dK R.length dL));have QM:=pq.u.Gy p9.u
   have GN:∀ (X:World) (c0 c1 c2 a b:Value),dV w1.heap.size X w1.heap.size c0 c1 c2 a b (O.map Ma.ah) (R.map (List.map Ma.ah))->aV (fun z=>w.heap.size<=z) X b (R.map (List.map Ma.ah)):=fun _ _ _ _ _ _ h=>by
    obtain ⟨us,h1,h2⟩:=h.frR (by rw [List.length_map,pq.u.iN]; omega);exact ⟨us,h1.mono (fun z hz=>by omega),bX.mono h2 (fun z hz=>by omega)⟩
   go_wp2;exact bodyPost_ret (iw rfl _ rfl zK) rfl ⟨_,_,rfl,O,aL.mono (bT.frO (by rw [List.length_map,pq.u.i_]; omega)) (fun z hz=>by omega),R,GN _ _ _ _ _ _ bT,QM,py⟩
end
section
open Go.Proofs.Ob
open Go.Proofs.Cm (Lv bx cw)
attribute [local irreducible] Go.Calls
def MA (w:World) (cv:Value) (n:Nat) (gs:List (List Nat)):Prop:=∃ ov rv O R,cv=.agg #[.int .i64 ((n:Nat):Int),ov,rv]/\Rg.Rows w ov (O.map Ma.ah)/\gC w rv (R.map (List.map Ma.ah))/\Cm.ar n (Cm.Gr n (·∈gs)) O R
def kH:Value:=.agg #[.int .i64 0,.slice none 0 0,.slice none 0 0]
def pz (w:World) (d:Int) (ll:List (List Int)) (cv:Value) (c:Int):Prop:=(c≠0/\cv=kH)∨(c=0/\∃ n gs,d=((n:Nat):Int)/\ll=gs.map Ma.ah/\1<=n/\n<=64/\MA w cv n gs)
theorem MA.p {w w':World} {cv:Value} {n:Nat} {gs:List (List Nat)} (h:MA w cv n gs) (hb:BE w w'):MA w' cv n gs:=by
 obtain ⟨ov,rv,O,R,h1,h2,h3,h4⟩:=h;exact ⟨ov,rv,O,R,h1,h2.p hb,h3.p hb,h4⟩
theorem pz.p {w w':World} {d:Int} {ll:List (List Int)} {cv:Value} {c:Int} (h:pz w d ll cv c) (hb:BE w w'):pz w' d ll cv c:=by
 rcases h with h | ⟨h0,n,gs,h1,h2,h3,h4,h5⟩
 ·exact .inl h
 ·exact .inr ⟨h0,n,gs,h1,h2,h3,h4,h5.p hb⟩
theorem GO (aU:1<=n) (aZ:n<=64) {w:World} (hv:Rg.Rows w v (gs.map Ma.ah)) (hg:∀ s∈gs,Cm.Gd n s) (kE:gs.length<=1000000) :
  Calls Tryz.prog 69 #[.int .i64 ((n:Nat):Int),v] w fun e w'=>∃ (tb L:Nat) (F':Nat->Prop) (T':bx) (V':Nat->LV),e=.returned (.pointer (some ⟨tb,0,none⟩))/\a_ F' L n w' T' V'/\CF F' w' tb 0 (.int .i64 ((n:Nat):Int))/\CF F' w' tb 1 (.slice (some ⟨L,0,none⟩) n n)/\Cm.lB n (·∈gs) T'/\BE w w':=by
 refine (JV aU aZ (GS.Gq hv) hg kE).mono ?_;rintro e w' ⟨tb,L,F',T',V',rfl,hk,h1,h2,h3,h4⟩;exact ⟨tb,L,F',T',V',rfl,h1,h2,h3,h4,hk.kf.p (Nat.le_refl _) (fun _ h=>h)⟩
theorem gC.shape {w:World} (h:gC w v gl):∃ a c,v=.slice a gl.length c:=by
 obtain ⟨us,⟨a,cap,e,_⟩,h2,_⟩:=h;exact ⟨a,cap,by rw [e,h2]⟩
end
section
open Go.Proofs.Ob
open Go.Proofs.Cm (Lv bx cw)
attribute [local irreducible] Go.Calls Go.wpList
def bK (d:Int) (ll:List (List Int)):Int:=if 1<=d/\d<=64 then (if ll.length<=4096 then Ma.jF d ll else 4) else 2
theorem QN (h1:1<=d) (h2:d<=64) (h:Ma.jF d ll=0):∃ (n:Nat) (gs:List (List Nat)),d=n/\ll=gs.map Ma.ah/\(∀ s∈gs,Cm.Gd n s)/\1<=n/\n<=64/\gs.length=ll.length:=by
 have hz:=Ma.Ck h;obtain ⟨D,rfl⟩:∃ D:Nat,d=D:=⟨d.toNat,by omega⟩
 have hex:∀ l∈ll,∃ p,l=Ma.ah p/\Ma.kP p/\p.length=D:=fun l hl=>by
  obtain ⟨a,b⟩:=hz l hl;obtain ⟨_,_,c⟩:=Ma.jl a;obtain ⟨p,rfl,hp⟩:=Ma.mf c;rw [Ma.aB] at b;exact ⟨p,rfl,hp,by omega⟩
 clear h hz
 have:∃ gs:List (List Nat),ll=gs.map Ma.ah/\GG D gs:=by
  induction ll with
  | nil=>exact ⟨[],rfl,fun s hs=>by simp at hs⟩
  | cons l r ih =>
   obtain ⟨gs,rfl,hg⟩:=ih (fun x hx=>hex x (List.mem_cons_of_mem _ hx));obtain ⟨p,rfl,h3,h4⟩:=hex l (List.mem_cons_self ..)
   exact ⟨p :: gs,rfl,fun s hs=>by
    rcases List.mem_cons.1 hs with rfl | hs
    ·exact ⟨h3,h4⟩
    ·exact hg s hs⟩
 obtain ⟨gs,rfl,hg⟩:=this;exact ⟨D,gs,rfl,rfl,fun s hs=>hg s hs,by omega,by omega,by simp⟩
theorem gN {w:World} {td:Nat} {u3:Value} (h:cj X td u1 u2 u3) (hk:BE w X) (tG:w.heap.size<=td):cj (((X.setCell ⟨td,0,none⟩ (.int .i64 0)).setCell ⟨td,1,none⟩ (.slice none 0 0)).setCell ⟨td,2,none⟩ (.slice none 0 0)) td (.int .i64 0) (.slice none 0 0) (.slice none 0 0)/\BE w (((X.setCell ⟨td,0,none⟩ (.int .i64 0)).setCell ⟨td,1,none⟩ (.slice none 0 0)).setCell ⟨td,2,none⟩ (.slice none 0 0)) :=
 ⟨h.set _ _ _,((hk.setCell (p:=⟨td,0,none⟩) tG (.int .i64 0)).setCell (p:=⟨td,1,none⟩) tG (.slice none 0 0)).setCell (p:=⟨td,2,none⟩) tG (.slice none 0 0)⟩
end
section
attribute [local irreducible] Go.Calls
def lg (ll:List (List Int)):Bool:=(ll.take 21).any (fun l=>decide (70<l.length)) || decide (20<ll.length)
end
section
open Go.Proofs.Ob
attribute [local irreducible] Go.Calls
theorem Eb (v1 v2:Value) (l1 l2:List (List Int)) (w:World) (h1:Rg.Rows w v1 l1) (h2:Rg.Rows w v2 l2) :
  Calls Tryz.prog 57 #[v1,v2] w fun e w'=>e=.returned (.bool (decide (l1=l2)))/\∃ k,w'=w.drewN k:=by
 obtain ⟨a1,c1,rfl,n1,m1,_,k1⟩:=h1.shape;obtain ⟨a2,c2,rfl,n2,m2,_,k2⟩:=h2.shape;clear h1 h2;have K1:=U k1;have K2:=U k2;clear k1 k2;generalize hD:decide (l1=l2)=D;have HD:=U hD;clear hD
 by_cases hl:l1.length=l2.length
 ·have hb:((l1.length:Int) != (l2.length:Int))=false:=by rw [hl]; simp
  have Hl:=U hl;clear hl
  go_enter Tryz.func57,Tryz.ntmps57
  go_wp2;clear hb
  go_loopw [5] (fun v wr=>∃ i:Nat,v=.int .i64 i/\i<=l1.length/\Hid (∃ k,wr=w.drewN k)/\Hid (l1.take i=l2.take i)) (fun v _=>l1.length - (intOf v).toNat)
  case atStart=>exact ⟨0,rfl,by omega,⟨0,rfl⟩,by show _=_; simp⟩
  case round =>
   obtain ⟨i,rfl,hi,hw,hs⟩:=hrel
   by_cases az:i<l1.length
   ·have iE:i<l2.length:=by have:=Hl.u; omega
    obtain ⟨b1,o1,rfl,bZ,d1⟩:=K1.u (by omega);obtain ⟨b2,o2,rfl,dh,d2⟩:=K2.u (by omega);obtain ⟨u1,y1,uE⟩:=d1 i az;obtain ⟨u2,y2,p7⟩:=d2 i iE
    have x1:wr.cell? ⟨b1,o1+i,none⟩=some u1:=by obtain ⟨k,e⟩:=hw.u; rw [e]; exact y1
    have x2:wr.cell? ⟨b2,o2+i,none⟩=some u2:=by obtain ⟨k,e⟩:=hw.u; rw [e]; exact y2
    have fK:(i:Int)<(l2.length:Int):=by omega
    generalize hx:l1[i]=x at uE;generalize hy:l2[i]=y at p7;have Hx:=U hx;have Hy:=U hy;clear d1 d2 hx hy y1 y2;have hq:∀ n,_:=fun n=>DL u1 u2 x y (wr.drewN n) (by obtain ⟨k,e⟩:=hw.u; rw [e]; exact uE) (by obtain ⟨k,e⟩:=hw.u; rw [e]; exact p7)
    by_cases he:x=y
    ·have hdd:decide (x=y)=true:=decide_eq_true he
     have He:=U he;rw [hdd] at hq;have Hq:=U hq;clear he hdd hq;go_wp2
     go_quiet ((go_at_call 84; exact Calls.quiet_of (Hq.u _)))
     go_wp2;go_roundw
     case rel=>exact ⟨i+1,by go_num,by omega,by obtain ⟨k,e⟩:=hw.u; rw [e]; exact ⟨_,World.drewN_drewN _ _ _⟩,by show _=_; rw [List.take_succ_eq_append_getElem az,List.take_succ_eq_append_getElem iE,hs.u,Hx.u,Hy.u,He.u]⟩
     case measure=>simp [intOf]; omega
    ·have hdd:decide (x=y)=false:=decide_eq_false he
     have He:=U he;rw [hdd] at hq;have Hq:=U hq;clear he hdd hq;go_wp2
     go_quiet ((go_at_call 84; exact Calls.quiet_of (Hq.u _)))
     go_wp2;go_ret;exact ⟨Rg.cN (by rw [<- HD.u]; symm; rw [decide_eq_false_iff_not]; intro hc; subst hc; exact He.u (Hx.u.symm.trans Hy.u)),by obtain ⟨k,e⟩:=hw.u; rw [e]; exact ⟨_,World.drewN_drewN _ _ _⟩⟩
   ·go_wp2
    go_ret;refine ⟨Rg.cN ?_,hw.u⟩;rw [<- HD.u]; symm;rw [decide_eq_true_eq];have h1:=hs.u
    rwa [List.take_of_length_le (by omega),List.take_of_length_le (by have:=Hl.u; omega)] at h1
 ·have hb:((l1.length:Int) != (l2.length:Int))=true:=by rw [bne_iff_ne]; omega
  have Hl:=U hl;clear hl
  go_enter Tryz.func57,Tryz.ntmps57
  go_wp2;go_ret;exact ⟨Rg.cN (by rw [<- HD.u]; symm; rw [decide_eq_false_iff_not]; intro hc; subst hc; exact Hl.u rfl),0,rfl⟩
theorem pA {l1 l2:List (List Int)} {w:World} {b:Bool} (h1:Rg.Rows w v1 l1) (h2:Rg.Rows w v2 l2) (hd:Hid (decide (l1=l2)=b)) :
  Calls Tryz.prog 57 #[v1,v2] w fun e w'=>e=.returned (.bool b)/\BE w w':=by
 refine (Eb v1 v2 l1 l2 w h1 h2).mono ?_;rintro e w' ⟨rfl,k,rfl⟩;exact ⟨by rw [hd.u],Rg.drewN (Below.refl _ _) k⟩
end
section
open Go.Proofs.Ob
open Go.Proofs.Cm (Lv bx cw)
attribute [local irreducible] Go.Calls
theorem gC.nil (w:World) (a:Option Addr) (c:Nat) (hc:c<=maxLen):gC w (.slice a 0 c) []:=⟨[],Rg.cH.nil w a c hc,rfl,fun i h=>by simp at h⟩
theorem gC.Oo {w:World} {a:Option Addr} {m c:Nat} (h:gC w (.slice a m c) gl) {k:Nat} (hk:k<gl.length):∃ b o,a=some ⟨b,o,none⟩/\b<w.heap.size/\∃ u,w.cell? ⟨b,o+k,none⟩=some u/\Rg.Rows w u gl[k]:=by
 obtain ⟨us,⟨a',cap,e,_,_,_,h5⟩,h2,h3⟩:=h;obtain ⟨b,o,e1,e2,e3⟩:=h5 (by omega);simp at e;obtain ⟨rfl,_,_⟩:=e;exact ⟨b,o,e1,e2,us[k],e3 k (by omega),h3 k (by omega) hk⟩
end
end Go.Proofs.YtpedbljnhnoohaaGreat
namespace Go.Proofs.Cm
open Go.Proofs
def cL (n:Nat) (tr:Tr):Tr:=fun i p=>if p=i then some (Ma.bs n) else tr i p
def lJ (tr:Tr) (i p:Nat) (y:List Nat):Tr:=fun j q=>if j=i/\q=p then some y else tr j q
structure dg (n:Nat) (gs:List Nat->Prop) (tr:Tr):Prop where
 rp:Rp n 0 (cL n tr)
 diag:∀ i,tr i i=none
 lt:∀ i p u,tr i p=some u->i<n/\p<n
 mem:∀ i p u,tr i p=some u->Gr n gs u
theorem cP {tr:Tr} {i p:Nat} (h:p≠i):cL n tr i p=tr i p:=if_neg h
theorem cZ {tr:Tr} {i:Nat}:cL n tr i i=some (Ma.bs n):=if_pos rfl
theorem dg.QO {gs:List Nat->Prop}:dg n gs (fun _ _=>none):=by
 have h:∀ i p u,cL n (fun _ _=>none) i p=some u->p=i/\u=Ma.bs n:=fun i p u e=>by
  unfold cL at e
  by_cases h:p=i
  ·rw [if_pos h] at e; injection e with e; exact ⟨h,e.symm⟩
  ·rw [if_neg h] at e; cases e
 refine ⟨⟨fun i p u _ _ e=>?_,fun i p u _ hi e=>?_,fun i p u _ hi e=>?_,fun i _ _=>cZ⟩,fun _=>rfl,fun i p u e=>(by cases e),fun i p u e=>(by cases e)⟩
 ·obtain ⟨_,rfl⟩:=h i p u e; exact iF n
 ·obtain ⟨_,rfl⟩:=h i p u e; exact Fx.one (by omega)
 ·obtain ⟨rfl,rfl⟩:=h i p u e; exact dz hi
theorem dg.put {gs:List Nat->Prop} {tr:Tr} (h:dg n gs tr) {i:Nat} {y:List Nat} (hi:i<n) (gy:Gd n y) (fy:Fx i y) (hy:Gr n gs y) (hn:cL n tr i (ap y i)=none) :
  dg n gs (lJ tr i (ap y i) y)/\∀ j q u,cL n tr j q=some u->cL n (lJ tr i (ap y i) y) j q=some u:=by
 have hne:ap y i≠i:=fun e=>by rw [e,cZ] at hn; cases hn
 have ht:tr i (ap y i)=none:=by rwa [cP hne] at hn
 have hs:∀ j q u,cL n (lJ tr i (ap y i) y) j q=some u->cL n tr j q=some u∨(j=i/\q=ap y i/\u=y):=fun j q u e=>by
  by_cases hd:q=j
  ·subst hd; rw [cZ] at e; left; rw [cZ]; exact e
  ·rw [cP hd] at e
   unfold lJ at e
   by_cases hc:j=i/\q=ap y i
   ·rw [if_pos hc] at e; injection e with e; exact .inr ⟨hc.1,hc.2,e.symm⟩
   ·rw [if_neg hc] at e; left; rw [cP hd]; exact e
 refine ⟨⟨⟨fun j q u a b e=>?_,fun j q u a b e=>?_,fun j q u a b e=>?_,fun j _ _=>cZ⟩,fun j=>?_,fun j q u e=>?_,fun j q u e=>?_⟩,fun j q u e=>?_⟩
 ·rcases hs j q u e with e | ⟨_,_,rfl⟩
  ·exact h.rp.gd j q u a b e
  ·exact gy
 ·rcases hs j q u e with e | ⟨rfl,_,rfl⟩
  ·exact h.rp.fx j q u a b e
  ·exact fy
 ·rcases hs j q u e with e | ⟨rfl,rfl,rfl⟩
  ·exact h.rp.at_ j q u a b e
  ·rfl
 ·unfold lJ
  rw [if_neg (fun e=>hne (by omega))]; exact h.diag j
 ·unfold lJ at e
  by_cases hc:j=i/\q=ap y i
  ·exact ⟨by omega,by rw [hc.2]; exact cS gy hi⟩
  ·rw [if_neg hc] at e; exact h.lt j q u e
 ·unfold lJ at e
  by_cases hc:j=i/\q=ap y i
  ·rw [if_pos hc] at e; injection e with e; rw [<- e]; exact hy
  ·rw [if_neg hc] at e; exact h.mem j q u e
 ·by_cases hd:q=j
  ·subst hd; rw [cZ] at e ⊢; exact e
  ·rw [cP hd] at e ⊢
   unfold lJ
   by_cases hc:j=i/\q=ap y i
   ·obtain ⟨rfl,rfl⟩:=hc; rw [ht] at e; cases e
   ·rw [if_neg hc]; exact e
end Go.Proofs.Cm
namespace Go.Proofs.YtpedbljnhnoohaaGreat
open Go.Proofs
section
open Go.RowKit
open Go.Proofs.Cm (Tr)
structure cy (F:Nat->Prop) (tb tf n:Nat) (w:World) (tr:Tr) (Rb:Nat->Nat) (V:Nat->Nat->Value):Prop where
 eP:∀ k,F k->k<w.heap.size
 u:∀ i,i<n->CF F w tb (tf+i) (.slice (some ⟨Rb i,0,none⟩) n n)
 nF:∀ i,i<n->¬ F (Rb i)
 inj:∀ i j,i<n->j<n->Rb i=Rb j->i=j
 row:∀ i,i<n->w.rowIs (Rb i) 27 n (V i)
 some_:∀ i p u,i<n->p<n->tr i p=some u->FP F w (V i p) u
 none_:∀ i p,i<n->p<n->tr i p=none->V i p=.slice none 0 0
theorem cy.lt {w:World} {tr:Tr} {Rb:Nat->Nat} {V:Nat->Nat->Value} (h:cy F tb tf n w tr Rb V) {i:Nat} (hi:i<n):Rb i<w.heap.size:=l0 (h.row i hi)
theorem cy.up {F:Nat->Prop} {tb tf n:Nat} {w w':World} {tr:Tr} {Rb:Nat->Nat} {V:Nat->Nat->Value} (h:cy F tb tf n w tr Rb V) (hb:BE w w'):cy (cE F w w') tb tf n w' tr Rb V:=by
 have hk:Rg.Kp (fun _=>False) w w':=Rg.Kp.aD hb
 refine ⟨fun k hk=>by rcases hk with hk | hk; exact Nat.lt_of_lt_of_le (h.eP k hk) hb.size; exact hk.2,fun i hi=>(h.u i hi).up hb,fun i hi e=>?_,h.inj,fun i hi=>eY (h.row i hi) hk id,fun i p u hi hp e=>(h.some_ i p u hi hp e).up hb,h.none_⟩
 have:=h.lt hi
 rcases e with e | e
 ·exact h.nF i hi e
 ·omega
theorem cy.p {F:Nat->Prop} {tb tf n:Nat} {w w':World} {tr:Tr} {Rb:Nat->Nat} {V:Nat->Nat->Value} (h:cy F tb tf n w tr Rb V) (hb:BE w w'):cy F tb tf n w' tr Rb V:=by
 have hk:Rg.Kp (fun _=>False) w w':=Rg.Kp.aD hb;exact ⟨fun k hf=>Nat.lt_of_lt_of_le (h.eP k hf) hb.size,fun i hi=>(h.u i hi).p hb,h.nF,h.inj,fun i hi=>eY (h.row i hi) hk id,fun i p u hi hp e=>(h.some_ i p u hi hp e).p hb,h.none_⟩
theorem cy.cell {F:Nat->Prop} {tb tf n:Nat} {w:World} {tr:Tr} {Rb:Nat->Nat} {V:Nat->Nat->Value} (h:cy F tb tf n w tr Rb V) {i p:Nat} (hi:i<n) (hp:p<n):w.cell? ⟨Rb i,p,none⟩=some (V i p):=(h.row i hi).cell hp
theorem cy.put {w:World} {tr:Tr} {Rb:Nat->Nat} {V:Nat->Nat->Value} (h:cy F tb tf n w tr Rb V) {i p:Nat} (hi:i<n) {y:List Nat} (hy:FP F w yv y) :
  cy F tb tf n (w.setCell ⟨Rb i,p,none⟩ yv) (Cm.lJ tr i p y) Rb (fun j q=>if j=i/\q=p then yv else V j q)/\KF F w (w.setCell ⟨Rb i,p,none⟩ yv):=by
 have hk:Rg.Kp (fun z=>z=Rb i) w (w.setCell ⟨Rb i,p,none⟩ yv):=Rg.Kp.aR rfl;have hF:∀ z,F z->¬ z=Rb i:=fun z hz e=>h.nF i hi (e▸hz);have py:KF F w (w.setCell ⟨Rb i,p,none⟩ yv):=Rg.Kp.gS hk fun z e hz=>hF z hz e;refine ⟨⟨fun k hf=>Nat.lt_of_lt_of_le (h.eP k hf) hk.size,fun j hj=>(h.u j hj).kf py,h.nF,h.inj,fun j hj=>?_,fun j q u hj hq e=>?_,fun j q hj hq e=>?_⟩,py⟩
 ·by_cases e:j=i
  ·subst e
   refine ((h.row j hj).set p yv).congr fun q hq=>?_
   by_cases e2:q=p
   ·rw [if_pos e2,if_pos ⟨rfl,e2⟩]
   ·rw [if_neg e2,if_neg (fun e3=>e2 e3.2)]
  ·refine (eY (h.row j hj) hk (fun e2=>e (h.inj j i hj hi e2))).congr fun q hq=>?_
   rw [if_neg (fun e3=>e e3.1)]
 ·have e:(if j=i/\q=p then some y else tr j q)=some u:=e
  show FP F _ (if j=i/\q=p then yv else V j q) u
  by_cases hc:j=i/\q=p
  ·rw [if_pos hc] at e ⊢; injection e with e; subst e; exact hy.kf py
  ·rw [if_neg hc] at e ⊢; exact (h.some_ j q u hj hq e).kf py
 ·have e:(if j=i/\q=p then some y else tr j q)=none:=e
  show (if j=i/\q=p then yv else V j q)=_
  by_cases hc:j=i/\q=p
  ·rw [if_pos hc] at e; cases e
  ·rw [if_neg hc] at e ⊢; exact h.none_ j q hj hq e
def By (n:Nat) (Rb:Nat->Nat) (k:Nat):Prop:=∃ i,i<n/\k=Rb i
structure KI (F0:Nat->Prop) (w:World) (F:Nat->Prop) (W:World) (M:Nat->Prop):Prop where
 kg:KG F0 w F W
 kp:Rg.Kp M w W
 new:∀ k,F k->F0 k∨w.heap.size<=k
theorem KI.refl {F:Nat->Prop} {w:World} {M:Nat->Prop} (h:∀ k,F k->k<w.heap.size):KI F w F w M:=⟨KG.refl h,Rg.Kp.refl _ _,fun _ h=>.inl h⟩
theorem KI.up {F0 F:Nat->Prop} {w W W':World} {M:Nat->Prop} (h:KI F0 w F W M) (hb:BE W W'):KI F0 w (cE F W W') W' M :=
 ⟨h.kg.up hb,Rg.Kp.trans (M:=M) h.kp (Rg.Kp.aD (M:=M) hb) (fun _ _ e=>e),fun k hk=>by
  rcases hk with hk | hk
  ·exact h.new k hk
  ·exact .inr (Nat.le_trans h.kp.size hk.1)⟩
theorem KI.put {w:World} (h:KI F0 w F W M) (hk:KF F W W') (hm:Rg.Kp M W W'):KI F0 w F W' M :=
 ⟨h.kg.zp hk,Rg.Kp.trans (M:=M) h.kp hm (fun _ _ e=>e),h.new⟩
theorem cy.kp {w:World} {tr:Tr} {Rb:Nat->Nat} {V:Nat->Nat->Value} (h:cy F tb tf n w tr Rb V) (hk:Rg.Kp M w w') (hF:∀ k,F k->¬ M k) (hR:∀ i,i<n->¬ M (Rb i)):cy F tb tf n w' tr Rb V:=by
 have py:KF F w w':=Rg.Kp.gS hk fun z e hz=>hF z hz e;exact ⟨fun k hf=>Nat.lt_of_lt_of_le (h.eP k hf) hk.size,fun i hi=>(h.u i hi).kf py,h.nF,h.inj,fun i hi=>eY (h.row i hi) hk (hR i hi),fun i p u hi hp e=>(h.some_ i p u hi hp e).kf py,h.none_⟩
end
section
open Go.RowKit
open Go.Proofs.Cm (Tr)
attribute [local irreducible] Go.Calls
theorem XL (args:Array Value) (w:World):(callFunc 35 args).run Tryz.prog w=.ok (.enter 35 args) w:=by kernel_rfl
theorem tH (args:Array Value) (w:World):(callFunc 34 args).run Tryz.prog w=.ok (.enter 34 args) w:=by kernel_rfl
theorem fN:Rg.se Tryz.prog 180 41 (.slice none 0 0) 24:=⟨Tryz.underlying180,fk,rfl,by decide⟩
theorem rQ {a b:List Nat} {w:World} (h1:FP F w v1 a) (h2:FP F w v2 b) (ga:Cm.Gd n a) (gb:Cm.Gd n b) (aZ:n<=64) :
  Calls Tryz.prog 34 #[v1,v2] w fun e w'=>∃ v,e=.returned v/\FP (cE F w w') w' v (Ma.aq a b)/\BE w w':=by
 have e1:=ga.2;have e2:=gb.2;refine (xI v1 v2 a b w h1.np h2.np (fun x hx=>by have:=ga.1.1 x hx; omega) (by omega)).mono ?_;rintro e w' ⟨v,rfl,hv,hb⟩;exact ⟨v,rfl,FP.new hv,hb⟩
theorem U2 {a:List Nat} {w:World} (h1:FP F w v1 a) (ga:Cm.Gd n a) (aZ:n<=64) :
  Calls Tryz.prog 35 #[v1] w fun e w'=>∃ v,e=.returned v/\FP (cE F w w') w' v (Ma.bf a)/\BE w w':=by
 have e1:=ga.2;refine (Fw v1 a w h1.np ga.1 (by omega)).mono ?_;rintro e w' ⟨v,rfl,hv,hb⟩;exact ⟨v,rfl,FP.new hv,hb⟩
def lK (n:Nat) (tr:Tr) (A:Nat × List Nat):Tr:=if A.1<n then Cm.lJ tr A.1 (Cm.ap A.2 A.1) A.2 else tr
def qJ (F0:Nat->Prop) (w:World) (tb tf n:Nat) (tr:Tr) (Rb:Nat->Nat) (A:Nat × List Nat) (e:Ending) (w':World):Prop:=∃ F' V',e=.returned (.bool (decide (A.1<n)))/\KI F0 w F' w' (By n Rb)/\cy F' tb tf n w' (lK n tr A) Rb V'
theorem qJ.intro {w:World} {tr:Tr} {Rb:Nat->Nat} {A:Nat × List Nat} (F':Nat->Prop) (V':Nat->Nat->Value) (b:Bool) (h1:KI F0 w F' w' (By n Rb)) (h2:cy F' tb tf n w' (lK n tr A) Rb V') (hb:decide (A.1<n)=b):qJ F0 w tb tf n tr Rb A (.returned (.bool b)) w':=⟨F',V',by rw [hb],h1,h2⟩
theorem qK (aU:1<=n) (aZ:n<=64) {w:World} {tr:Tr} {Rb:Nat->Nat} {V:Nat->Nat->Value} (hT:cy F0 tb tf n w tr Rb V) (hr:Cm.Rp n 0 (Cm.cL n tr)) {x:List Nat} (hx:FP F0 w xv x) (gx:Cm.Gd n x) :
  Calls Tryz.prog 146 #[.slice (some ⟨tb,tf,none⟩) n tc,xv] w (qJ F0 w tb tf n tr Rb (Cm.dn n (Cm.cL n tr) n x)):=by
 obtain ⟨xb0,xo0,xc0,rfl⟩:=hx.du gx aU;have K:=U (KI.refl (M:=By n Rb) hT.eP);have HT:=U hT;have X:=U hx;have HR:=U hr;obtain ⟨A,hA⟩:∃ A,Hid (A=Cm.dn n (Cm.cL n tr) n x):=⟨_,U rfl⟩;rw [<- hA.u];have jS:=U (show Cm.dn n (Cm.cL n tr) (n - 0) x=A from hA.u.symm);have GX:=U gx;clear hT hx hr gx
 go_enter Tryz.func146,Tryz.ntmps146
 go_wp2
 go_loopw [1,5] (fun yv iv wr=>∃ (i:Nat) (y:List Nat) (F1:Nat->Prop),i<=n/\iv=.int .i64 i/\Hid (FP F1 wr yv y)/\Hid (cy F1 tb tf n wr tr Rb V)/\Hid (KI F0 w F1 wr (By n Rb))/\Hid (Cm.Gd n y)/\Hid (Cm.Fx i y)/\Hid (Cm.dn n (Cm.cL n tr) (n - i) y=A)) (fun _ iv _=>n - (intOf iv).toNat)
 case atStart=>exact ⟨0,x,F0,Nat.zero_le _,rfl,X,HT,K,GX,U (fun j h=>absurd h (Nat.not_lt_zero _)),jS⟩
 case round =>
  clear X HT K jS GX;obtain ⟨i,y,F,iE,rfl,X,HT,K,GY,FY,HS⟩:=hrel
  by_cases aS:i<n
  ·have yD:(i:Int)<(n:Int):=by omega
   obtain ⟨xb,xo,xc,rfl⟩:=X.u.du GY.u aU;have gP:=Cm.cS GY.u aS;obtain ⟨q,hq⟩:∃ q:Nat,Hid (q=Cm.ap y i):=⟨_,U rfl⟩;rw [<- hq.u] at gP;have CX:=U (show CF F wr xb (xo+i) (.int .i64 ((q:Nat):Int)) by rw [hq.u]; exact X.u.ap GY.u aS);have bN:=U aS;have CO:=U (HT.u.u i aS);have CE:=U (CL.mk (HT.u.cell aS gP) (HT.u.lt aS))
   have e1:n - i=(n - i - 1)+1:=by omega
   by_cases uU:q=i
   ·have QP:(q:Int)=(i:Int):=by omega
    have HY:=U (show Cm.dn n (Cm.cL n tr) (n - (i+1)) y=A by
     rw [<- HS.u,e1,Cm.iG (u:=Ma.bs n) (by rw [show n - (n - i - 1+1)=i by omega,<- hq.u,uU]; exact Cm.cZ),Cm.inv_one,Cm.mul_one GY.u,show n - i - 1=n - (i+1) by omega])
    have Oe:=U (show Cm.Fx (i+1) y from fun j hj=>by
     by_cases e:j=i
     ·subst e; rw [<- hq.u]; exact uU
     ·exact FY.u j (by omega))
    clear uU e1;go_upto_region 4 with fail;refine c6<|j8 rfl<|j7 rfl<|k8 (ag bC _ _ rfl xb (xo) (n) xc (i) rfl rfl bN.u)<|k8 (g7 (.int .i64 (q:Int)) ⟨xb,xo+i,none⟩ (af CX.u.cell)) ?_;go_frame;refine j7 rfl ?_;go_frame;go_upto_region 6 with fail;refine c6<|j7 rfl<|j7 rfl<|k8 (g8 (.bool true) .eql (h:=eM _ f7))<|k7 rfl ?_;go_frame;go_wp2;go_roundw
    case rel=>exact ⟨i+1,y,_,bN.u,by go_num,X,HT,K,GY,Oe,HY⟩
    case measure=>simp [intOf]; have:=bN.u; omega
   ·have QP:¬ (q:Int)=(i:Int):=by omega
    cases dJ:tr i q with
    | none =>
     have sP:=HT.u.none_ i q aS gP dJ;rw [sP] at CE
     have HE:=U (show A=(i,y) by
      rw [<- HS.u,e1,Cm.kA]
      ·rw [show n - (n - i - 1+1)=i by omega]
      ·rw [show n - (n - i - 1+1)=i by omega,<- hq.u,Cm.cP uU]; exact dJ)
     clear sP dJ uU e1;go_upto_region 4 with fail;refine c6<|j8 rfl<|j7 rfl<|k8 (ag bC _ _ rfl xb (xo) (n) xc (i) rfl rfl bN.u)<|k8 (g7 (.int .i64 (q:Int)) ⟨xb,xo+i,none⟩ (af CX.u.cell)) ?_;go_frame;refine j7 rfl ?_;go_frame;go_upto_region 6 with fail;refine c6<|j7 rfl<|j7 rfl<|k8 (g8 (.bool false) .eql (h:=eM _ f8))<|k7 rfl ?_;go_frame;go_upto_region 7 with fail;refine c6<|j8 rfl<|j7 rfl<|k8 (ag fN _ _ rfl tb (tf) (n) tc (i) rfl rfl bN.u)<|k8 (g7 (.slice (some ⟨(Rb i),0,none⟩) n n) ⟨tb,tf+i,none⟩ (Rg.ae _ _ Tryz.underlying41 CO.u.cell)) ?_;go_frame;refine j7 rfl<|k8 (ag aM _ _ rfl (Rb i) (0) (n) n (q) rfl rfl gP)<|k8 (g7 (.slice none 0 0) ⟨(Rb i),0+q,none⟩ (Rg.ae _ _ Tryz.underlying27 (by rw [Nat.zero_add]; exact CE.u.cell)))<|k8 (tq _ _ rfl rfl rfl)<|k7 rfl ?_;go_frame;go_upto_region 8 with fail;refine c6<|j8 rfl<|j7 rfl<|k8 (ag fN _ _ rfl tb (tf) (n) tc (i) rfl rfl bN.u)<|k8 (g7 (.slice (some ⟨(Rb i),0,none⟩) n n) ⟨tb,tf+i,none⟩ (Rg.ae _ _ Tryz.underlying41 CO.u.cell)) ?_;go_frame;refine j7 rfl<|j8 rfl<|k8 (ag aM _ _ rfl (Rb i) (0) (n) n (q) rfl rfl gP)<|Rg.aG none rfl rfl (Rg.ak _ _ _ rfl _ rfl _ rfl (Rg.bz _ cX (by rw [Nat.zero_add]; exact CE.u.cell) (by rw [Nat.zero_add]; exact (HT.u.row i bN.u).frozen _))) ?_;go_frame;obtain ⟨hT2,dF⟩:=HT.u.put (p:=q) bN.u X.u;have hkm:Rg.Kp (By n Rb) wr (wr.setCell ⟨Rb i,q,none⟩ (.slice (some ⟨xb,xo,none⟩) n xc)):=Rg.Kp.aR ⟨i,bN.u,rfl⟩;simp only [Nat.zero_add];generalize wr.setCell ⟨Rb i,q,none⟩ (.slice (some ⟨xb,xo,none⟩) n xc)=Oh at *;have jE:=U (show cy F tb tf n Oh (lK n tr A) Rb _ by unfold lK; rw [HE.u,if_pos bN.u,<- hq.u]; exact hT2);have K2:=U (K.u.put dF hkm);clear hT2 dF hkm;go_wp2;go_ret;exact qJ.intro _ _ true K2.u jE.u (by rw [HE.u]; exact decide_eq_true bN.u)
    | some u =>
     have hid:Cm.cL n tr i q=some u:=by rw [Cm.cP uU]; exact dJ
     have gu:=HR.u.gd i q u (Nat.zero_le _) aS hid;have tu:=HT.u.some_ i q u aS gP dJ;obtain ⟨ub,uo,uc,wW⟩:=tu.du gu aU;rw [wW] at tu CE;have UP:=U tu;have GU:=U gu;have GI:=U (Cm.aX gu)
     have HY:=U (show Cm.dn n (Cm.cL n tr) (n - (i+1)) (Ma.aq y (Ma.bf u))=A by
      rw [<- HS.u,e1,Cm.iG (u:=u) (by rw [show n - (n - i - 1+1)=i by omega,<- hq.u]; exact hid),show n - i - 1=n - (i+1) by omega])
     obtain ⟨F_,Ga⟩:=Cm.uM HR.u (Nat.zero_le _) aS GY.u FY.u (by rw [<- hq.u]; exact hid);have Xp:=U F_;have Oe:=U Ga;clear hid gu tu wW dJ F_ Ga uU e1;go_upto_region 4 with fail;refine c6<|j8 rfl<|j7 rfl<|k8 (ag bC _ _ rfl xb (xo) (n) xc (i) rfl rfl bN.u)<|k8 (g7 (.int .i64 (q:Int)) ⟨xb,xo+i,none⟩ (af CX.u.cell)) ?_;go_frame;refine j7 rfl ?_;go_frame;go_upto_region 6 with fail;refine c6<|j7 rfl<|j7 rfl<|k8 (g8 (.bool false) .eql (h:=eM _ f8))<|k7 rfl ?_;go_frame;go_upto_region 7 with fail;refine c6<|j8 rfl<|j7 rfl<|k8 (ag fN _ _ rfl tb (tf) (n) tc (i) rfl rfl bN.u)<|k8 (g7 (.slice (some ⟨(Rb i),0,none⟩) n n) ⟨tb,tf+i,none⟩ (Rg.ae _ _ Tryz.underlying41 CO.u.cell)) ?_;go_frame;refine j7 rfl<|k8 (ag aM _ _ rfl (Rb i) (0) (n) n (q) rfl rfl gP)<|k8 (g7 (.slice (some ⟨ub,uo,none⟩) n uc) ⟨(Rb i),0+q,none⟩ (Rg.ae _ _ Tryz.underlying27 (by rw [Nat.zero_add]; exact CE.u.cell)))<|k8 (kD _ _ rfl rfl rfl)<|k7 rfl ?_;go_frame;go_upto_region 5 with fail;refine c6<|j8 rfl<|j8 rfl<|j7 rfl<|k8 (ag fN _ _ rfl tb (tf) (n) tc (i) rfl rfl bN.u) ?_;go_frame;refine k8 (g7 (.slice (some ⟨(Rb i),0,none⟩) n n) ⟨tb,tf+i,none⟩ (Rg.ae _ _ Tryz.underlying41 CO.u.cell))<|j7 rfl<|k8 (ag aM _ _ rfl (Rb i) (0) (n) n (q) rfl rfl gP)<|k8 (g7 (.slice (some ⟨ub,uo,none⟩) n uc) ⟨(Rb i),0+q,none⟩ (Rg.ae _ _ Tryz.underlying27 (by rw [Nat.zero_add]; exact CE.u.cell))) ?_;go_frame;refine f4 25 (aA 35 _ _ rfl rfl (XL _ _)) ?_;refine (U2 UP.u GU.u aZ).mono ?_;rintro e1 w1 ⟨iv,rfl,p8,hb⟩;refine ⟨_,rfl,?_⟩;go_frame;replace X:=U (X.u.up hb);replace HT:=U (HT.u.up hb);replace CX:=U (CX.u.up hb);replace CO:=U (CO.u.up hb);replace CE:=U (CE.u.up hb);replace UP:=U (UP.u.up hb);replace K:=U (K.u.up hb);have IV:=U p8;generalize cE F wr w1=F1 at *;clear hb;clear p8;refine f4 26 (ax 34 _ _ _ rfl rfl rfl (tH _ _)) ?_;refine (rQ X.u IV.u GY.u GI.u aZ).mono ?_;rintro e1 w2 ⟨mv,rfl,gX,hb⟩;refine ⟨_,rfl,?_⟩;go_frame;replace X:=U (X.u.up hb);replace HT:=U (HT.u.up hb);replace CX:=U (CX.u.up hb);replace CO:=U (CO.u.up hb);replace CE:=U (CE.u.up hb);replace UP:=U (UP.u.up hb);replace IV:=U (IV.u.up hb);replace K:=U (K.u.up hb);have MV:=U gX;generalize cE F1 w1 w2=F2 at *
     clear hb;refine j6 (mv) rfl ?_;go_frame;clear gX;go_wp2;go_roundw
     case rel=>exact ⟨i+1,_,_,bN.u,by go_num,MV,HT,K,Xp,Oe,HY⟩
     case measure=>simp [intOf]; have:=bN.u; omega
  ·obtain rfl:i=n:=by omega
   have yD:¬ (i:Int)<(i:Int):=by omega
   have HE:=U (show A=(i,y) by rw [<- HS.u,Nat.sub_self]; rfl);have jE:=U (show cy F tb tf i wr (lK i tr A) Rb V by unfold lK; rw [HE.u,if_neg (Nat.lt_irrefl _)]; exact HT.u);go_wp2;go_ret;exact qJ.intro _ _ false K.u jE.u (by rw [HE.u]; exact decide_eq_false (Nat.lt_irrefl _))

theorem J6:(Tryz.prog.info? 27).map (fun i=>(i.zero,i.size,i.bytes))=some (some (.slice none 0 0),1,24):=by kernel_rfl
theorem QQ (n:Nat) (hn:n<=1000000) (w:World):(Instr.makeSlice 41 (.int .i64 (n:Int)) (.int .i64 (n:Int))).run Tryz.prog w=.ok (.slice (some ⟨w.heap.size,0,none⟩) n n) (w.alloc (.cells (madeCells #[.slice none 0 0] n) 27)) :=
 run_make_row' 41 27 (.slice none 0 0) 24 Tryz.underlying41 J6 rfl .i64 .i64 n (by omega) (by omega) w
theorem Ec (X:World) (u:Value) (hs:∃ a n c,u=.slice a n c):(Instr.buildSlice 180 1 #[(0,u)]).run Tryz.prog X=.ok (.slice (some ⟨X.heap.size,0,none⟩) 1 1) (X.alloc (.cells #[u] 41)):=by
 obtain ⟨i0,hi,dw,bJ,dZ⟩:=info_parts fk;obtain ⟨a,n,c,rfl⟩:=hs;refine run_buildSlice X 180 41 1 _ _ i0 _ Tryz.underlying180 hi dw (by rw [bJ]; decide) (by rw [bJ]; decide) ?_;generalize (fun x=>((Value.slice none 0 0).cells)[x % (Value.slice none 0 0).cells.size]!)=f;rw [bJ];have h1:Array.range (1*1)=#[0]:=rfl;simp [Instr.fill,Value.cells,h1]
structure Ed (B n:Nat) (W:World) (v:Value) (k:Nat) (Rb:Nat->Nat):Prop where
 size:B<=W.heap.size
 own:W.ownsRow B 41 1 v k ((List.range k).map (fun j=>.slice (some ⟨Rb j,0,none⟩) n n))
 row:∀ j,j<k->W.rowIs (Rb j) 27 n (fun _=>.slice none 0 0)/\B<=Rb j/\v.ownBlock≠some (Rb j)
 inj:∀ i j,i<k->j<k->Rb i=Rb j->i=j
theorem Ed.start (n:Nat) (w:World):Ed w.heap.size n w (.slice none 0 0) 0 (fun _=>0) :=
 ⟨Nat.le_refl _,World.ownsRow_nil _ _ _ _,fun _ h=>absurd h (Nat.not_lt_zero _),fun _ _ h=>absurd h (Nat.not_lt_zero _)⟩
theorem Ed.push {k:Nat} {Rb:Nat->Nat} (h:Ed B n W v k Rb) (hk:k<1000000) (ty:TypeId) :
  ∃ a c X,(Builtin.append_ #[180,180] ty #[v,.slice (some ⟨W.heap.size+1,0,none⟩) 1 1]).run Tryz.prog ((W.alloc (.cells (madeCells #[.slice none 0 0] n) 27)).alloc (.cells #[.slice (some ⟨W.heap.size,0,none⟩) n n] 41))=.ok (.slice a (k+1) c) X /\
   Ed B n X (.slice a (k+1) c) (k+1) (fun j=>if j=k then W.heap.size else Rb j)/\(∀ {B':Nat} {W0:World},B'<=B->Below B' W0 W->Below B' W0 X):=by
 have bZ:BE W (W.alloc (.cells (madeCells #[.slice none 0 0] n) 27)):=(Below.refl _ _).alloc (Nat.le_refl _) _
 have nB:(W.alloc (.cells (madeCells #[.slice none 0 0] n) 27)).heap.size=W.heap.size+1:=by simp
 have bV:=World.rowIs_made W (.slice none 0 0) n 27;generalize (W.alloc (.cells (madeCells #[.slice none 0 0] n) 27))=W1 at *;have dh:BE W1 (W1.alloc (.cells #[.slice (some ⟨W.heap.size,0,none⟩) n n] 41)):=(Below.refl _ _).alloc (Nat.le_refl _) _
 have jC:(W1.alloc (.cells #[.slice (some ⟨W.heap.size,0,none⟩) n n] 41)).heap.size=W1.heap.size+1:=by simp
 have hc:(W1.alloc (.cells #[.slice (some ⟨W.heap.size,0,none⟩) n n] 41)).cell? ⟨W.heap.size+1,0,none⟩=some (.slice (some ⟨W.heap.size,0,none⟩) n n):=by
  rw [<- nB,Rg.aW]; rfl
 generalize (W1.alloc (.cells #[.slice (some ⟨W.heap.size,0,none⟩) n n] 41))=W2 at *;have xT:Rg.Kp (fun _=>False) W W2:=Rg.Kp.trans (Rg.Kp.aD bZ) (Rg.Kp.aD (M:=fun _=>False) dh) (fun _ _ e=>e);have gH:=Rg.bP (Rg.bP h.own bZ) dh;obtain ⟨v',X,r1,r2,r3,r4,a,c,rfl⟩:=fe (P:=Tryz.prog) fN ty gH (by have:=h.size; omega) (W.heap.size+1) 1 hc rfl hk;have jM:Rg.Kp (fun z=>v.ownBlock=some z) W2 X:=Rg.Kp.cC r3 fun _ e=>e;have J7:Rg.Kp (fun z=>v.ownBlock=some z) W X:=Rg.Kp.trans (M:=fun z=>v.ownBlock=some z) (xT.gS fun _=>False.elim) jM (fun _ _ e=>e);have az:=fun z e=>(h.own.lt z e)
 have mO:∀ z,z<W2.heap.size->v.ownBlock≠some z->(Value.slice a (k+1) c).ownBlock≠some z:=fun z hz h1 e=>by
  rcases r4 with r4 | r4
  ·rw [r4] at e; exact h1 e
  ·rw [r4] at e; injection e with e; omega
 refine ⟨a,c,X,r1,⟨by have:=h.size; have:=J7.size; omega,?_,fun j hj=>?_,fun i j hi hj e=>?_⟩,fun {B' W0} JZ ky=>?_⟩
 ·have e:(List.range (k+1)).map (fun j=>Value.slice (some ⟨if j=k then W.heap.size else Rb j,0,none⟩) n n)=(List.range k).map (fun j=>Value.slice (some ⟨Rb j,0,none⟩) n n)++[.slice (some ⟨W.heap.size,0,none⟩) n n]:=by
   have e1:(List.range k).map (fun j=>Value.slice (some ⟨if j=k then W.heap.size else Rb j,0,none⟩) n n)=(List.range k).map (fun j=>Value.slice (some ⟨Rb j,0,none⟩) n n) :=
    List.map_congr_left fun j hj=>by rw [if_neg (by have:=List.mem_range.1 hj; omega)]
   rw [List.range_succ,List.map_append,e1,List.map_singleton,if_pos rfl]
  rw [e]; exact r2
 ·by_cases e:j=k
  ·simp only [if_pos e]
   exact ⟨eY (eY (M:=fun _=>False) bV (Rg.Kp.aD dh) id) jM (fun e2=>by have:=(az _ e2).2; omega),h.size,mO _ (by omega) (fun e2=>by have:=(az _ e2).2; omega)⟩
  ·simp only [if_neg e]
   obtain ⟨g1,g2,g3⟩:=h.row j (by omega);have:=l0 g1;exact ⟨eY g1 J7 g3,g2,mO _ (by omega) g3⟩
 ·by_cases e1:i=k
  ·by_cases e2:j=k
   ·omega
   ·simp only [if_pos e1,if_neg e2] at e
    have:=l0 (h.row j (by omega)).1;omega
  ·by_cases e2:j=k
   ·simp only [if_neg e1,if_pos e2] at e
    have:=l0 (h.row i (by omega)).1;omega
   ·simp only [if_neg e1,if_neg e2] at e
    exact h.inj i j (by omega) (by omega) e
 ·refine ky.trans ⟨J7.os,J7.tape,J7.output,J7.size,fun z hz=>J7.block z ?_ fun e=>?_⟩
  ·have:=h.size; omega
  ·have:=(az z e).1; omega
theorem Ed.done {w:World} {Rb:Nat->Nat} (h:Ed w.heap.size n W v n Rb) (hn:0<n) (hb:BE w W):∃ tb c F,v=.slice (some ⟨tb,0,none⟩) n c/\KG (fun k=>k<w.heap.size) w F W/\cy F tb 0 n W (fun _ _=>none) Rb (fun _ _=>.slice none 0 0):=by
 obtain ⟨g,c,u,rfl,_,_,hg⟩:=jh h.own hn;have hgo:w.heap.size<=g:=(h.own.lt g rfl).1
 refine ⟨g,c,fun k=>k<w.heap.size∨k=g,rfl,⟨fun k hk=>.inl hk,fun k hk=>by rcases hk with hk | rfl; exact Nat.lt_of_lt_of_le hk hb.size; exact hg,KF.aD hb⟩,⟨fun k hk=>by rcases hk with hk | rfl; exact Nat.lt_of_lt_of_le hk hb.size; exact hg,fun i hi=>?_,fun i hi e=>?_,h.inj,fun i hi=>(h.row i hi).1,fun i p u _ _ e=>(by cases e),fun _ _ _ _ _=>rfl⟩⟩
 ·obtain ⟨g',c',u',e1,e2,e3,_⟩:=jh h.own hi
  simp at e1;obtain ⟨rfl,_⟩:=e1;refine ⟨?_,.inr rfl,hg⟩;rw [e2,<- e3];simp [hi]
 ·obtain ⟨_,g2,g3⟩:=h.row i hi
  rcases e with e | e
  ·omega
  ·exact g3 (by rw [e]; rfl)
def MB (n:Nat) (w:World) (e:Ending) (w':World):Prop:=∃ tb c F Rb,e=.returned (.slice (some ⟨tb,0,none⟩) n c)/\KG (fun k=>k<w.heap.size) w F w'/\cy F tb 0 n w' (fun _ _=>none) Rb (fun _ _=>.slice none 0 0)
theorem J8 (aU:1<=n) (aZ:n<=64) (w:World) :
  Calls Tryz.prog 145 #[.int .i64 ((n:Nat):Int)] w (MB n w):=by
 have HE:=U (Ed.start n w);have K:=U (bi w)
 go_enter Tryz.func145,Tryz.ntmps145
 go_wp2
 go_loopw [3,4] (fun tv iv wr=>∃ (k:Nat) (Rb:Nat->Nat),iv=.int .i64 k/\k<=n/\(∃ a c,tv=.slice a k c)/\Hid (Ed w.heap.size n wr tv k Rb)/\Hid (BE w wr)) (fun _ iv _=>n - (intOf iv).toNat)
 case atStart=>exact ⟨0,_,rfl,Nat.zero_le _,⟨_,_,rfl⟩,HE,K⟩
 case round =>
  clear HE K;obtain ⟨k,Rb,rfl,hk,⟨ta,tc,rfl⟩,HE,K⟩:=hrel
  by_cases b_:k<n
  ·have gY:(k:Int)<(n:Int):=by omega
   have ba:=U b_;go_upto_region 5 with fail;refine c6<|j8 rfl<|j7 rfl<|k8 (oB _ _ _ rfl _ _ rfl rfl (QQ n (by omega) wr))<|k8 (Rg.aF _ _ _ rfl (.slice (some ⟨wr.heap.size,0,none⟩) n n) rfl (Ec _ _ ⟨_,_,_,rfl⟩)) ?_;go_frame;obtain ⟨a9,c9,X9,r1,r2,r3⟩:=HE.u.push (by have:=ba.u; omega) 180
   have cR:(wr.alloc (.cells (madeCells #[.slice none 0 0] n) 27)).heap.size=wr.heap.size+1:=by simp
   rw [<- cR] at r1;refine k8 (Rg.aT _ _ _ rfl rfl rfl r1)<|j8 rfl ?_;go_frame;have Bz:=U r2;have K2:=U (r3 (Nat.le_refl _) K.u);clear r1 r2 r3 cR;go_wp2;go_roundw
   case rel=>exact ⟨k+1,_,by go_num,ba.u,⟨_,_,rfl⟩,Bz,K2⟩
   case measure=>simp [intOf]; have:=ba.u; omega
  ·obtain rfl:k=n:=by omega
   have gY:¬ (k:Int)<(k:Int):=by omega
   obtain ⟨tb,c,F,he,h1,h2⟩:=HE.u.done aU K.u;have H1:=U h1;have H2:=U h2
   injection he with e1 _ e2
   subst e1 e2;clear h1 h2;go_wp2;go_ret;exact (show MB _ _ _ _ from ⟨_,_,_,_,rfl,H1.u,H2.u⟩)
end
section
open Go.RowKit
open Go.Proofs.Cm (Tr)
attribute [local irreducible] Go.Calls Go.wpList
theorem xU {o:Oper} {a:Act} {w:World} {ad:Addr} {c:Nat} (x y:Operand) (ho:o.op=.binOp .neq 27 x y 27) (hx:a.eval x=.slice (some ad) n c) (hy:a.eval y=.slice none 0 0):(execOp a.eval o).run Tryz.prog w=.ok (.value (.bool true)) w:=by
 have h1:(binOp .neq 27 (.slice (some ad) n c) (.slice none 0 0)).run Tryz.prog w=.ok (.bool true) w:=by kernel_rfl
 have hg:(eqGuard .neq 27 x y (.slice (some ad) n c) (.slice none 0 0)).run Tryz.prog w=.ok () w:=by
  simp [eqGuard]
 unfold execOp;simp only [ho,hx,hy,Sem.run_bind,Sem.run_pure,hg,h1,Result.andThen_ok]
theorem xV {o:Oper} {a:Act} {w:World} (x y:Operand) (ho:o.op=.binOp .neq 27 x y 27) (hx:a.eval x=.slice none 0 0) (hy:a.eval y=.slice none 0 0):(execOp a.eval o).run Tryz.prog w=.ok (.value (.bool false)) w:=by
 have h1:(binOp .neq 27 (.slice none 0 0) (.slice none 0 0)).run Tryz.prog w=.ok (.bool false) w:=by kernel_rfl
 have hg:(eqGuard .neq 27 x y (.slice none 0 0) (.slice none 0 0)).run Tryz.prog w=.ok () w:=by
  simp [eqGuard]
 unfold execOp;simp only [ho,hx,hy,Sem.run_bind,Sem.run_pure,hg,h1,Result.andThen_ok]
def jy (n:Nat) (tr:Tr) (i p:Nat):List (List Nat):=(List.range i).flatMap (fun j=>(List.range n).filterMap (tr j))++(List.range p).filterMap (tr i)
def dY (n:Nat) (tr:Tr):List (List Nat):=(List.range n).flatMap (fun j=>(List.range n).filterMap (tr j))
theorem J9 {tr:Tr} {i p:Nat} (h:tr i p=none):jy n tr i (p+1)=jy n tr i p:=by
 unfold jy;rw [List.range_succ,List.filterMap_append];simp [h]
theorem J_ {tr:Tr} {i p:Nat} {u:List Nat} (h:tr i p=some u):jy n tr i (p+1)=jy n tr i p++[u]:=by
 unfold jy;rw [List.range_succ,List.filterMap_append,List.append_assoc];simp [h]
theorem C6 (n:Nat) (tr:Tr) (i:Nat):jy n tr i n=jy n tr (i+1) 0:=by
 unfold jy;rw [List.range_succ,List.flatMap_append];simp
theorem rR (n:Nat) (tr:Tr):jy n tr n 0=dY n tr:=by
 unfold jy dY; simp
theorem mr {α β:Type} (f:α->Option β):∀ l:List α,(l.filterMap f).length<=l.length
 | []=>Nat.le_refl _
 | a :: l=>by
  have:=mr f l
  cases h:f a with
  | none=>rw [List.filterMap_cons_none h]; simp; omega
  | some b=>rw [List.filterMap_cons_some h]; simp; omega
theorem oJ (n:Nat) (tr:Tr):∀ i p,(jy n tr i p).length<=i*n+p
 | 0,p=>by
  have:=mr (tr 0) (List.range p);unfold jy; simp at this ⊢; exact this
 | i+1,p=>by
  have h1:=oJ n tr i n;rw [C6] at h1;have h2:=mr (tr (i+1)) (List.range p);rw [List.length_range] at h2
  have h3:(jy n tr (i+1) p).length=(jy n tr (i+1) 0).length+((List.range p).filterMap (tr (i+1))).length:=by
   unfold jy; simp
  have h4:(i+1)*n=i*n+n:=Nat.succ_mul i n;omega
structure dD (F:Nat->Prop) (B:Nat) (W:World) (v:Value) (l:List (List Nat)):Prop where
 size:B<=W.heap.size
 own:∃ us,W.ownsRow B 27 1 v l.length us/\Rg.bR F W us (l.map Ma.ah)
theorem dD.nil (F:Nat->Prop) {B:Nat} {W:World} (h:B<=W.heap.size):dD F B W (.slice none 0 0) []:=⟨h,[],World.ownsRow_nil _ _ _ _,Rg.bR.nil _ _⟩
theorem dD.p {l:List (List Nat)} (h:dD F B W v l) (hb:BE W W'):dD F B W' v l:=by
 obtain ⟨us,h1,h2⟩:=h.own;exact ⟨Nat.le_trans h.size hb.size,us,Rg.bP h1 hb,h2.kp (M:=fun _=>False) (Rg.Kp.aD hb) (fun _ _=>id)⟩
theorem dD.shape {l:List (List Nat)} (h:dD F B W v l):∃ a c,v=.slice a l.length c:=by
 obtain ⟨us,h1,_⟩:=h.own;exact Rg.cQ h1
theorem dD.QR {l:List (List Nat)} (h:dD F B W v l) (hF:∀ k,F k->k<B) {u:Value} {x:List Nat} (hu:FP F W u x) (hs:∃ a m c,u=.slice a m c) (hn:l.length<1000000) (ty:TypeId) :
  ∃ a c X,(Builtin.append_ #[41,41] ty #[v,.slice (some ⟨W.heap.size,0,none⟩) 1 1]).run Tryz.prog (W.alloc (.cells #[u] 27))=.ok (.slice a (l.length+1) c) X/\dD F B X (.slice a (l.length+1) c) (l++[x])/\(∀ {B':Nat} {W0:World},B'<=B->Below B' W0 W->Below B' W0 X)/\Rg.Kp (fun k=>v.ownBlock=some k) W X:=by
 obtain ⟨us,h1,h2⟩:=h.own;obtain ⟨a0,m0,c0,rfl⟩:=hs;have hb:BE W (W.alloc (.cells #[.slice a0 m0 c0] 27)):=(Below.refl _ _).alloc (Nat.le_refl _) _;obtain ⟨v',X,r1,r2,r3,r4,a,c,rfl⟩:=fe (P:=Tryz.prog) aM ty (Rg.bP h1 hb) (Nat.le_trans h.size hb.size) W.heap.size 1 (u:=.slice a0 m0 c0) (by rw [Rg.aW]; rfl) rfl hn;have hk:Rg.Kp (fun k=>v.ownBlock=some k) W X:=Rg.Kp.trans (M:=fun k=>v.ownBlock=some k) ((Rg.Kp.aD hb).gS fun _=>False.elim) (Rg.Kp.cC r3 fun _ e=>e) (fun _ _ e=>e)
 have hg:∀ k,F k->¬ v.ownBlock=some k:=fun k g e=>by have:=hF k g; have:=(h1.lt k e).1; omega
 refine ⟨a,c,X,r1,⟨Nat.le_trans h.size hk.size,us++[.slice a0 m0 c0],by rw [List.length_append]; exact r2,by rw [List.map_append]; exact bR.snoc (h2.kp hk hg) (Rg.FI.kp hu hk hg)⟩,fun {B' W0} JZ ky=>?_,hk⟩;refine (ky.trans ⟨hk.os,hk.tape,hk.output,hk.size,fun k P2=>hk.block k ?_ fun e=>?_⟩)
 ·have:=h.size; omega
 ·have:=(h1.lt k e).1; omega
theorem dD.push {l:List (List Nat)} (h:dD F B W v l) (hF:∀ k,F k->k<B) {u:Value} {x:List Nat} (hu:FP F W u x) (hs:∃ a m c,u=.slice a m c) (hn:l.length<1000000) (ty:TypeId) :
  ∃ a c X,(Builtin.append_ #[41,41] ty #[v,.slice (some ⟨W.heap.size,0,none⟩) 1 1]).run Tryz.prog (W.alloc (.cells #[u] 27))=.ok (.slice a (l.length+1) c) X/\dD F B X (.slice a (l.length+1) c) (l++[x])/\(∀ {B':Nat} {W0:World},B'<=B->Below B' W0 W->Below B' W0 X):=by
 obtain ⟨a,c,X,r1,r2,r3,_⟩:=h.QR hF hu hs hn ty;exact ⟨a,c,X,r1,r2,r3⟩
def GP (F:Nat->Prop) (B:Nat) (w:World) (l:List (List Nat)) (e:Ending) (w':World):Prop:=∃ v,e=.returned v/\dD F B w' v l/\Below B w w'
theorem fo (aU:1<=n) (aZ:n<=64) {w:World} {tr:Tr} {Rb:Nat->Nat} {V:Nat->Nat->Value} (hT:cy F tb tf n w tr Rb V) (eH:∀ i p u,tr i p=some u->Cm.Gd n u) :
  Calls Tryz.prog 163 #[.slice (some ⟨tb,tf,none⟩) n tc] w (GP F w.heap.size w (dY n tr)):=by
 have HT:=U hT;have HG:=U eH;have K:=U (bi w);have RO:=U (show dD F w.heap.size w (.slice none 0 0) (jy n tr 0 0) from dD.nil F (Nat.le_refl _));clear hT eH
 go_enter Tryz.func163,Tryz.ntmps163
 go_wp2
 go_loopw [3,4] (fun tv iv wr=>∃ i:Nat,iv=.int .i64 i/\i<=n/\Hid (dD F w.heap.size wr tv (jy n tr i 0))/\Hid (BE w wr)) (fun _ iv _=>n - (intOf iv).toNat)
 case atStart=>exact ⟨0,rfl,Nat.zero_le _,RO,K⟩
 case round =>
  clear RO K;obtain ⟨i,rfl,hi,RO,K⟩:=hrel
  by_cases aS:i<n
  ·have yD:(i:Int)<(n:Int):=by omega
   have bN:=U aS;have CO:=U (HT.u.u i aS);go_wp2
   go_loopw [3,5] (fun tv pv wr=>∃ q:Nat,pv=.int .i64 q/\q<=n/\Hid (dD F w.heap.size wr tv (jy n tr i q))/\Hid (BE w wr)) (fun _ pv _=>n - (intOf pv).toNat)
   case atStart=>exact ⟨0,rfl,Nat.zero_le _,RO,K⟩
   case round =>
    clear RO K;obtain ⟨q,rfl,hq,RO,K⟩:=hrel
    by_cases gP:q<n
    ·have QP:(q:Int)<(n:Int):=by omega
     have kY:=U gP;have CE:=U (CL.mk (show w.cell? ⟨Rb i,0+q,none⟩=some (V i q) by rw [Nat.zero_add]; exact HT.u.cell aS gP) (HT.u.lt aS))
     cases dJ:tr i q with
     | none =>
      have sP:=HT.u.none_ i q aS gP dJ;rw [sP] at CE;have HE:=U (J9 (n:=n) dJ);clear sP dJ;go_upto_region 8 with fail;refine c6<|j8 rfl<|j7 rfl<|k8 (ag fN _ _ rfl tb (tf) (n) tc (i) rfl rfl bN.u)<|k8 (g7 (.slice (some ⟨(Rb i),0,none⟩) n n) ⟨tb,tf+i,none⟩ (Rg.ae _ _ Tryz.underlying41 ((Below.cell (p:=⟨tb,tf+i,none⟩) K.u CO.u.lt).trans CO.u.cell))) ?_;go_frame;refine j7 rfl<|k8 (ag aM _ _ rfl (Rb i) (0) (n) n (q) rfl rfl kY.u)<|k8 (g7 (.slice none 0 0) ⟨(Rb i),0+q,none⟩ (Rg.ae _ _ Tryz.underlying27 ((Below.cell (p:=⟨(Rb i),0+q,none⟩) K.u CE.u.lt).trans CE.u.cell)))<|k8 (xV _ _ rfl rfl rfl) ?_;go_frame;go_wp2;go_roundw
      case rel=>exact ⟨q+1,by go_num,kY.u,by rw [HE.u]; exact RO,K⟩
      case measure=>simp [intOf]; have:=kY.u; omega
     | some u =>
      have gu:=HG.u i q u dJ;have tu:=HT.u.some_ i q u aS gP dJ;obtain ⟨ub,uo,uc,wW⟩:=tu.du gu aU;rw [wW] at tu CE;have UP:=U tu;have HE:=U (J_ (n:=n) dJ)
      have QT:=U (show (jy n tr i q).length<1000000 by
       have h1:=oJ n tr i q;have h2:i*n<=64*64:=Nat.mul_le_mul (by omega) aZ
       omega)
      obtain ⟨ta,U3,dG⟩:=RO.u.shape;subst dG;clear gu tu wW dJ;go_upto_region 8 with fail;refine c6<|j8 rfl<|j7 rfl<|k8 (ag fN _ _ rfl tb (tf) (n) tc (i) rfl rfl bN.u)<|k8 (g7 (.slice (some ⟨(Rb i),0,none⟩) n n) ⟨tb,tf+i,none⟩ (Rg.ae _ _ Tryz.underlying41 ((Below.cell (p:=⟨tb,tf+i,none⟩) K.u CO.u.lt).trans CO.u.cell))) ?_;go_frame;refine j7 rfl<|k8 (ag aM _ _ rfl (Rb i) (0) (n) n (q) rfl rfl kY.u)<|k8 (g7 (.slice (some ⟨ub,uo,none⟩) n uc) ⟨(Rb i),0+q,none⟩ (Rg.ae _ _ Tryz.underlying27 ((Below.cell (p:=⟨(Rb i),0+q,none⟩) K.u CE.u.lt).trans CE.u.cell)))<|k8 (xU _ _ rfl rfl rfl) ?_;go_frame;go_upto_region 9 with fail;refine c6<|j8 rfl<|j8 rfl<|j7 rfl<|k8 (ag fN _ _ rfl tb (tf) (n) tc (i) rfl rfl bN.u) ?_;go_frame;refine k8 (g7 (.slice (some ⟨(Rb i),0,none⟩) n n) ⟨tb,tf+i,none⟩ (Rg.ae _ _ Tryz.underlying41 ((Below.cell (p:=⟨tb,tf+i,none⟩) K.u CO.u.lt).trans CO.u.cell)))<|j7 rfl<|k8 (ag aM _ _ rfl (Rb i) (0) (n) n (q) rfl rfl kY.u)<|k8 (g7 (.slice (some ⟨ub,uo,none⟩) n uc) ⟨(Rb i),0+q,none⟩ (Rg.ae _ _ Tryz.underlying27 ((Below.cell (p:=⟨(Rb i),0+q,none⟩) K.u CE.u.lt).trans CE.u.cell)))<|k8 (Rg.aF _ _ _ rfl (.slice (some ⟨ub,uo,none⟩) n uc) rfl (cn wr _ ⟨_,_,_,rfl⟩)) ?_;go_frame;obtain ⟨a9,c9,X9,r1,r2,r3⟩:=RO.u.push HT.u.eP (UP.u.p K.u) ⟨_,_,_,rfl⟩ QT.u 41;refine k8 (Rg.aT _ _ _ rfl rfl rfl r1)<|j8 rfl ?_;go_frame;have tI:=U r2;have K2:=U (r3 (Nat.le_refl _) K.u);clear r1 r2 r3;go_wp2;go_roundw
      case rel=>exact ⟨q+1,by go_num,kY.u,by rw [HE.u]; exact tI,K2⟩
      case measure=>simp [intOf]; have:=kY.u; omega
    ·obtain rfl:q=n:=by omega
     have QP:¬ (q:Int)<(q:Int):=by omega
     have tI:=U (by have:=RO.u; rwa [C6] at this);go_wp2;go_roundw
     case rel=>exact ⟨i+1,by go_num,bN.u,tI,K⟩
     case measure=>simp [intOf]; have:=bN.u; omega
  ·obtain rfl:i=n:=by omega
   have yD:¬ (i:Int)<(i:Int):=by omega
   have tI:=U (by have:=RO.u; rwa [rR] at this);go_wp2;go_ret;exact (show GP _ _ _ _ _ _ from ⟨_,rfl,tI.u,K.u⟩)
end
section
open Go.Proofs.Cm (Tr dg Gr Gd Sd cL dn)
theorem eZ {α:Type} [DecidableEq α]:∀ {l m:List α},l.Nodup->(∀ x∈l,x∈m)->l.length<=m.length
 | [],_,_,_=>Nat.zero_le _
 | a :: l,m,nd,h=>by
  have ha:=h a (List.mem_cons_self ..);have h1:=eZ (l:=l) (m:=m.erase a) (List.nodup_cons.1 nd).2 (fun x hx=>(List.mem_erase_of_ne (fun e:x=a=>(List.nodup_cons.1 nd).1 (by rw [<- e]; exact hx))).2 (h x (List.mem_cons_of_mem _ hx)));rw [List.length_erase_of_mem ha] at h1;have h2:=List.length_pos_of_mem ha;simp only [List.length_cons]; omega
theorem jz {tr:Tr} {x:List Nat}:x∈dY n tr↔∃ i p,i<n/\p<n/\tr i p=some x:=by
 unfold dY;simp only [List.mem_flatMap,List.mem_range,List.mem_filterMap];exact ⟨fun ⟨i,hi,p,hp,e⟩=>⟨i,p,hi,hp,e⟩,fun ⟨i,p,hi,hp,e⟩=>⟨i,hi,p,hp,e⟩⟩
theorem zL {gs:List Nat->Prop} {tr:Tr} (h:dg n gs tr) {i p q:Nat} {u:List Nat} (h1:tr i p=some u) (h2:tr j q=some u):i=j/\p=q:=by
 have key:∀ {i p j q:Nat},tr i p=some u->tr j q=some u->¬ i<j:=fun {i p j q} h1 h2 az=>by
  have hne:p≠i:=fun e=>by subst e; rw [h.diag] at h1; cases h1
  have QU:q≠j:=fun e=>by subst e; rw [h.diag] at h2; cases h2
  have a1:=h.rp.at_ i p u (Nat.zero_le _) (h.lt i p u h1).1 (by rw [Cm.cP hne]; exact h1);have a2:=h.rp.fx j q u (Nat.zero_le _) (h.lt j q u h2).1 (by rw [Cm.cP QU]; exact h2) i az;exact hne (a1.symm.trans a2)
 have e:i=j:=by
  rcases Nat.lt_trichotomy i j with h3 | h3 | h3
  ·exact absurd h3 (key h1 h2)
  ·exact h3
  ·exact absurd h3 (key h2 h1)
 subst e
 have hne:p≠i:=fun e=>by subst e; rw [h.diag] at h1; cases h1
 have QU:q≠i:=fun e=>by subst e; rw [h.diag] at h2; cases h2
 have a1:=h.rp.at_ i p u (Nat.zero_le _) (h.lt i p u h1).1 (by rw [Cm.cP hne]; exact h1);have a2:=h.rp.at_ i q u (Nat.zero_le _) (h.lt i q u h2).1 (by rw [Cm.cP QU]; exact h2);exact ⟨rfl,a1.symm.trans a2⟩
theorem qL {gs:List Nat->Prop} {tr:Tr} (h:dg n gs tr):(dY n tr).Nodup:=by
 unfold dY List.Nodup;rw [List.pairwise_flatMap];refine ⟨fun i _=>?_,?_⟩
 ·rw [List.pairwise_filterMap]
  refine List.Pairwise.imp (fun {a b} fL x hx y hy e=>?_) (List.nodup_range (n:=n));subst e;exact fL (zL h hx hy).2
 ·refine List.Pairwise.imp (fun {a b} fL x hx y hy e=>?_) (List.nodup_range (n:=n))
  subst e;rw [List.mem_filterMap] at hx hy;obtain ⟨p,_,hp⟩:=hx;obtain ⟨q,_,hq⟩:=hy;exact fL (zL h hp hq).1
theorem iI {gs:List Nat->Prop} {tr:Tr} (h:dg n gs tr) {i p:Nat} {u:List Nat} (h1:tr i p=some u):Gd n u:=by
 have hne:p≠i:=fun e=>by subst e; rw [h.diag] at h1; cases h1
 exact h.rp.gd i p u (Nat.zero_le _) (h.lt i p u h1).1 (by rw [Cm.cP hne]; exact h1)
theorem MC {gs:List Nat->Prop} {tr:Tr} (h:dg n gs tr) {i p:Nat} {u:List Nat} (h1:cL n tr i p=some u):Gr n gs u:=by
 by_cases e:p=i
 ·subst e; rw [Cm.cZ] at h1; injection h1 with h1; rw [<- h1]; exact .one
 ·rw [Cm.cP e] at h1; exact h.mem i p u h1
theorem vd {gs:List Nat->Prop} (hg:∀ s,gs s->Gd n s) {tr:Tr} (h:dg n gs tr) {x:List Nat} (hx:Gr n gs x) :
  dg n gs (lK n tr (dn n (cL n tr) n x))/\(∀ i p u,cL n tr i p=some u->cL n (lK n tr (dn n (cL n tr) n x)) i p=some u)/\Sd n (cL n (lK n tr (dn n (cL n tr) n x))) n x /\
   ((dY n (lK n tr (dn n (cL n tr) n x))).length<=(dY n tr).length->lK n tr (dn n (cL n tr) n x)=tr):=by
 have gx:=(Gr.dE hg).gd x hx;obtain ⟨a1,_,a3,a4,a5⟩:=Cm.oh h.rp (Nat.le_refl n) (by omega) gx (fun j hj=>absurd hj (by omega));have a6:=Cm.zh (tr:=cL n tr) (Gr.dE hg) (d:=n) (x:=x) (Nat.le_refl n) (fun i p u _ _ e=>MC h e) hx;have a7:=fun tr' (hm:∀ i p u,cL n tr i p=some u->cL n tr' i p=some u) hs=>Cm.rO (n:=n) (tr:=cL n tr) (tr':=cL n tr') (d:=n) (x:=x) (Nat.le_refl n) (fun i p u _=>hm i p u) hs;generalize dn n (cL n tr) n x=A at *;obtain ⟨i,y⟩:=A;simp only at a1 a3 a4 a5 a6 a7;unfold lK
 by_cases hi:i<n
 ·simp only [if_pos hi]
  obtain ⟨b1,b2⟩:=h.put hi a3 a4 a6 (a5 hi)
  have hne:Cm.ap y i≠i:=fun e=>by have:=a5 hi; rw [e,Cm.cZ] at this; cases this
  have hy:Cm.lJ tr i (Cm.ap y i) y i (Cm.ap y i)=some y:=if_pos ⟨rfl,rfl⟩
  have aaK:cL n (Cm.lJ tr i (Cm.ap y i) y) i (Cm.ap y i)=some y:=by rw [Cm.cP hne]; exact hy
  refine ⟨b1,b2,a7 _ b2 ?_,fun hlen=>?_⟩
  ·have h1:n - i=(n - (i+1))+1:=by omega
   have hyS:=Cm.Sd.entry b1.rp hi aaK;have h2:=(Cm.Sd.up (k:=i) (d:=n - i) b1.rp (by omega) (by omega) a3 (by rw [show n - (n - i)=i by omega]; exact a4)).1;rw [show n - i+i=n by omega] at h2;exact h2 hyS
  ·exfalso
   have hn:y∉dY n tr:=fun hm=>by
    obtain ⟨j,q,hj,hq,e⟩:=jz.1 hm
    have e2:Cm.lJ tr i (Cm.ap y i) y j q=some y:=by
     by_cases hc:j=i/\q=Cm.ap y i
     ·exact if_pos hc
     ·unfold Cm.lJ; rw [if_neg hc]; exact e
    obtain ⟨rfl,rfl⟩:=zL b1 e2 hy;have:=a5 hi;rw [Cm.cP hne,e] at this
    cases this
   have h1:=eZ (l:=y :: dY n tr) (m:=dY n (Cm.lJ tr i (Cm.ap y i) y)) (List.nodup_cons.2 ⟨hn,qL h⟩) (fun z hz=>by
    rcases List.mem_cons.1 hz with rfl | hz
    ·exact jz.2 ⟨i,_,hi,Cm.cS a3 hi,hy⟩
    ·obtain ⟨j,q,hj,hq,e⟩:=jz.1 hz
     refine jz.2 ⟨j,q,hj,hq,?_⟩
     have WG:q≠j:=fun e3=>by subst e3; rw [h.diag] at e; cases e
     have:=b2 j q z (by rw [Cm.cP WG]; exact e)
     rwa [Cm.cP WG] at this)
   simp only [List.length_cons] at h1;omega
 ·simp only [if_neg hi]
  obtain rfl:i=n:=by omega
  refine ⟨h,fun _ _ _ e=>e,a7 _ (fun _ _ _ e=>e) ?_,fun _=>trivial⟩;rw [Nat.sub_self];show y=_;exact Cm.Fx.all a3 a4
structure LE (n:Nat) (gs:List Nat->Prop) (tr:Tr) (l:List (List Nat)):Prop where
 ok:dg n gs tr
 sub:∀ x∈l,x∈dY n tr
 all:∀ x∈dY n tr,x∈l
 nd:l.Nodup
 gn:∀ s,gs s->Sd n (cL n tr) n s
theorem LE.len {gs:List Nat->Prop} {tr:Tr} {l:List (List Nat)} (h:LE n gs tr l):l.length<=n*n:=by
 have h1:=eZ h.nd h.sub;have h2:=oJ n tr n 0;rw [rR] at h2;omega
theorem LE.gr {gs:List Nat->Prop} {tr:Tr} {l:List (List Nat)} (h:LE n gs tr l) {x:List Nat} (hx:x∈l):Gr n gs x/\Gd n x:=by
 obtain ⟨i,p,_,_,e⟩:=jz.1 (h.sub x hx);exact ⟨h.ok.mem i p x e,iI h.ok e⟩
theorem LE.start {gs:List Nat->Prop} {tr:Tr} (h:dg n gs tr) (hg:∀ s,gs s->Sd n (cL n tr) n s):LE n gs tr (dY n tr):=⟨h,fun _ hx=>hx,fun _ hx=>hx,qL h,hg⟩
def jT (n:Nat) (tr:Tr) (l:List (List Nat)):List (List Nat):=(dY n tr).filter fun x=>decide (x∉l)
theorem LE.more {gs:List Nat->Prop} {tr tr':Tr} {l:List (List Nat)} (h:LE n gs tr l) (h':dg n gs tr') (hm:∀ i p u,cL n tr i p=some u->cL n tr' i p=some u):LE n gs tr' (l++jT n tr' l):=by
 have hs:∀ x∈dY n tr,x∈dY n tr':=fun x hx=>by
  obtain ⟨i,p,hi,hp,e⟩:=jz.1 hx
  have hne:p≠i:=fun e3=>by subst e3; rw [h.ok.diag] at e; cases e
  refine jz.2 ⟨i,p,hi,hp,?_⟩;have:=hm i p x (by rw [Cm.cP hne]; exact e)
  rwa [Cm.cP hne] at this
 refine ⟨h',fun x hx=>?_,fun x hx=>?_,?_,fun s hs=>Sd.mono (fun i p u _=>hm i p u) (h.gn s hs)⟩
 ·rcases List.mem_append.1 hx with hx | hx
  ·exact hs x (h.sub x hx)
  ·exact (List.mem_filter.1 hx).1
 ·by_cases hl:x∈l
  ·exact List.mem_append_left _ hl
  ·exact List.mem_append_right _ (List.mem_filter.2 ⟨hx,by simp [hl]⟩)
 ·refine List.nodup_append.2 ⟨h.nd,List.Pairwise.filter _ (qL h'),fun a ha b hb e=>?_⟩
  subst e;have:=(List.mem_filter.1 hb).2;simp [ha] at this
def qM (n:Nat) (tr:Tr) (l:List (List Nat)) (a b:Nat):Prop:=Sd n (cL n tr) n (Ma.aq (l.getD a []) (l.getD b []))
theorem l4 {l m:List (List Nat)} {a:Nat} (h:a<l.length):(l++m).getD a []=l.getD a []:=by
 rw [List.getD_eq_getElem?_getD,List.getD_eq_getElem?_getD,List.getElem?_append_left h]
theorem qM.more {tr tr':Tr} {l m:List (List Nat)} {a b:Nat} (h:qM n tr l a b) (ha:a<l.length) (hb:b<l.length) (hm:∀ i p u,cL n tr i p=some u->cL n tr' i p=some u):qM n tr' (l++m) a b:=by
 unfold qM;rw [l4 ha,l4 hb];exact Sd.mono (fun i p u _=>hm i p u) h
theorem LE.done {gs:List Nat->Prop} (hg:∀ s,gs s->Gd n s) {tr:Tr} {l:List (List Nat)} (h:LE n gs tr l) (hp:∀ a b,a<l.length->b<l.length->qM n tr l a b):Cm.mj n (Gr n gs) (cL n tr):=by
 have aS:∀ i p u,i<n->p≠i->cL n tr i p=some u->∃ a,a<l.length/\l.getD a []=u:=fun i p u hi hne e=>by
  rw [Cm.cP hne] at e;have h1:=h.all u (jz.2 ⟨i,p,hi,(h.ok.lt i p u e).2,e⟩);obtain ⟨a,ha,e2⟩:=List.getElem_of_mem h1;exact ⟨a,ha,by rw [List.getD_eq_getElem?_getD,List.getElem?_eq_getElem ha]; exact e2⟩
 refine Cm.NU h.ok.rp hg h.gn (fun i p u hi e=>MC h.ok e) fun i p u j q v hi hj e1 e2=>?_;have gu:=h.ok.rp.gd i p u (Nat.zero_le _) hi e1;have gv:=h.ok.rp.gd j q v (Nat.zero_le _) hj e2
 by_cases c1:p=i
 ·subst c1
  rw [Cm.cZ] at e1
  injection e1 with e1
  subst e1;rw [Cm.one_mul gv];exact Cm.Sd.entry h.ok.rp hj e2
 ·by_cases c2:q=j
  ·subst c2
   rw [Cm.cZ] at e2
   injection e2 with e2
   subst e2;rw [Cm.mul_one gu];exact Cm.Sd.entry h.ok.rp hi e1
  ·obtain ⟨a,ha,ea⟩:=aS i p u hi c1 e1
   obtain ⟨b,hb,eb⟩:=aS j q v hj c2 e2;have:=hp a b ha hb;unfold qM at this
   rwa [ea,eb] at this
end
section
open Go.RowKit
open Go.Proofs.Cm (Tr)
theorem XM {P:Program} {t e:TypeId} (T:Rg.se P t e z bytes) (ty:TypeId) {us:List Value} (gH:X.ownsRow B e 1 v n xs) (hX:B<=X.heap.size)
  (nz:Rg.cH X xv us) (h1:∀ u∈us,u.oneCell'=true) (hn:n+us.length<1000000000) :
  ∃ v' X',(Builtin.append_ #[t,t] ty #[v,xv]).run P X=.ok v' X'/\X'.ownsRow B e 1 v' (n+us.length) (xs++us)/\X.grownBy X' v.ownBlock/\(v'.ownBlock=v.ownBlock∨v'.ownBlock=some X.heap.size):=by
 obtain ⟨i0,hi,dw,bJ,dZ⟩:=info_parts T.info;obtain ⟨ad,cap,rfl,q2,q3,q4,q5⟩:=nz
 cases ad with
 | none =>
  have h0:us=[]:=by
   cases us with
   | nil=>rfl
   | cons u r=>obtain ⟨b,o,e1,_⟩:=q5 (by simp); cases e1
  subst h0;exact ⟨v,X,Rg.uA (P:=P) (w:=X) B t ty e i0 1 cap T.ty hi v n xs gH,by simpa using gH,⟨rfl,rfl,rfl,Nat.le_refl _,fun _ _ _=>rfl⟩,.inl rfl⟩
 | some ad =>
  obtain ⟨v',w',hr,h2,h3,h4,h5⟩:=run_append_own_at (P:=P) X B t ty e i0 z 1 bytes T.ty hi dw bJ dZ T.zc (by decide) v n xs gH ad us.length cap us (by omega) (fun j u hu=>by
   have hj:=(List.getElem?_eq_some_iff.1 hu).1;obtain ⟨b,o,e1,e2,e3⟩:=q5 (by omega);simp at e1; subst e1
   rw [Addr.add_mid,e3 j hj,<- hu,List.getElem?_eq_getElem hj]) h1 (by unfold maxLen; omega) (by have:(n+us.length)*bytes<=1000000000*64:=Nat.mul_le_mul (by omega) T.small; omega) hX
  exact ⟨v',w',hr,h2,h3,h5⟩
structure ef (F M:Nat->Prop) (W:World) (v:Value) (l:List (List Nat)):Prop where
 own:∃ B us,B<=W.heap.size/\W.ownsRow B 27 1 v l.length us/\Rg.bR F W us (l.map Ma.ah)
 off:∀ k,v.ownBlock=some k->¬ F k/\¬ M k
theorem dD.g {l:List (List Nat)} (h:dD F B W v l) (hF:∀ k,F k->k<B) (hM:∀ k,M k->k<B):ef F M W v l:=by
 obtain ⟨us,h1,h2⟩:=h.own;refine ⟨⟨B,us,h.size,h1,h2⟩,fun k e=>?_⟩;have:=(h1.lt k e).1;exact ⟨fun g=>by have:=hF k g; omega,fun g=>by have:=hM k g; omega⟩
theorem ef.lt {F M:Nat->Prop} {W:World} {v:Value} {l:List (List Nat)} (h:ef F M W v l):∀ k,v.ownBlock=some k->k<W.heap.size:=fun k e=>by
 obtain ⟨B,us,h0,h1,h2⟩:=h.own;exact (h1.lt k e).2
theorem ef.up {l:List (List Nat)} (h:ef F M W v l) (hb:BE W W'):ef (cE F W W') M W' v l:=by
 obtain ⟨B,us,h0,h1,h2⟩:=h.own;refine ⟨⟨B,us,Nat.le_trans h0 hb.size,Rg.bP h1 hb,(h2.kp (M:=fun _=>False) (Rg.Kp.aD hb) (fun _ _=>id)).mono fun _=>.inl⟩,fun k e=>⟨fun g=>?_,(h.off k e).2⟩⟩;have:=h.lt k e
 rcases g with g | g
 ·exact (h.off k e).1 g
 ·omega
theorem ef.ki {l:List (List Nat)} (h:ef F M W v l) (hk:KI F W F' W' M):ef F' M W' v l:=by
 obtain ⟨B,us,h0,h1,h2⟩:=h.own;refine ⟨⟨B,us,Nat.le_trans h0 hk.kp.size,im h1 hk.kp (fun k hk e=>(h.off k e).2 hk),(Rg.bR.kp h2 hk.kg.kf (fun _ hF hn=>hn hF)).mono hk.kg.sub⟩,fun k e=>⟨fun g=>?_,(h.off k e).2⟩⟩;have:=h.lt k e
 rcases hk.new k g with g | g
 ·exact (h.off k e).1 g
 ·omega
theorem ef.shape {l:List (List Nat)} (h:ef F M W v l):∃ a c,v=.slice a l.length c:=by
 obtain ⟨B,us,h0,h1,h2⟩:=h.own;exact Rg.cQ h1
theorem ef.at {l:List (List Nat)} (h:ef F M W v l) {i:Nat} (hi:i<l.length):∃ g c u,v=.slice (some ⟨g,0,none⟩) l.length c/\CL W g (0+i) u/\FP F W u l[i]:=by
 obtain ⟨B,us,h0,h1,h2⟩:=h.own;obtain ⟨g,c,u,e1,e2,e3,e4⟩:=jh h1 hi;obtain ⟨hu,rfl⟩:=List.getElem?_eq_some_iff.1 e3;have:=h2.2 i hu (by rw [List.length_map]; exact hi);rw [List.getElem_map] at this;exact ⟨g,c,us[i],e1,⟨e2,e4⟩,this⟩
theorem ef.app {F M:Nat->Prop} {W:World} {v v2:Value} {l m:List (List Nat)} {B2:Nat} (h:ef F M W v l) (h2:dD F B2 W v2 m) (hF:∀ k,F k->k<W.heap.size) (hM:∀ k,M k->k<W.heap.size) (hn:l.length+m.length<1000000) (ty:TypeId) :
  ∃ a c X,(Builtin.append_ #[41,41] ty #[v,v2]).run Tryz.prog W=.ok (.slice a (l.length+m.length) c) X/\ef F M X (.slice a (l.length+m.length) c) (l++m)/\Rg.Kp (fun k=>v.ownBlock=some k) W X:=by
 obtain ⟨B,us,h0,h1,h3⟩:=h.own;obtain ⟨us2,g1,g2⟩:=h2.own
 have hl:us2.length=m.length:=by have:=g2.1; rwa [List.length_map] at this
 obtain ⟨v',X,r1,r2,r3,r4⟩:=XM (P:=Tryz.prog) aM ty h1 h0 (Rg.cH.cV g1 (by omega)) g2.PO (by omega);have hk:Rg.Kp (fun k=>v.ownBlock=some k) W X:=Rg.Kp.cC r3 fun _ e=>e;rw [hl] at r2;obtain ⟨a,c,rfl⟩:=Rg.cQ r2;have hg:∀ k,F k->¬ v.ownBlock=some k:=fun k g e=>(h.off k e).1 g;refine ⟨a,c,X,r1,⟨⟨B,us++us2,Nat.le_trans h0 hk.size,by rw [List.length_append]; exact r2,by rw [List.map_append]; exact (h3.kp hk hg).app (g2.kp hk hg)⟩,fun k e=>?_⟩,hk⟩
 rcases r4 with r4 | r4
 ·exact h.off k (by rw [<- r4]; exact e)
 ·rw [r4] at e
  injection e with e
  subst e;exact ⟨fun g=>by have:=hF _ g; omega,fun g=>by have:=hM _ g; omega⟩
end
section
open Go.RowKit
open Go.Proofs.Cm (Tr)
attribute [local irreducible] Go.Calls
theorem qN (args:Array Value) (w:World):(callFunc 163 args).run Tryz.prog w=.ok (.enter 163 args) w:=by kernel_rfl
theorem XN (args:Array Value) (w:World):(callFunc 84 args).run Tryz.prog w=.ok (.enter 84 args) w:=by kernel_rfl
theorem dD.at {l:List (List Nat)} (h:dD F B W v l) {i:Nat} (hi:i<l.length):∃ g c u,v=.slice (some ⟨g,0,none⟩) l.length c/\CL W g (0+i) u/\FP F W u l[i]:=by
 obtain ⟨us,h1,h2⟩:=h.own;obtain ⟨g,c,u,e1,e2,e3,e4⟩:=jh h1 hi;obtain ⟨hu,rfl⟩:=List.getElem?_eq_some_iff.1 e3;have:=h2.2 i hu (by rw [List.length_map]; exact hi);rw [List.getElem_map] at this;exact ⟨g,c,us[i],e1,⟨e2,e4⟩,this⟩
theorem QV {w:World} {a:Option Addr} {m c:Nat} {l:List (List Nat)} (h:Rg.Rows w (.slice a m c) (l.map Ma.ah)) {k:Nat} (hk:k<l.length):∃ b o u,a=some ⟨b,o,none⟩/\CL w b (o+k) u/\Rg.Ints w u (Ma.ah l[k]):=by
 obtain ⟨a',c',e,_,_,_,h2⟩:=h.shape
 injection e with e1 _ _
 obtain ⟨b,o,e2,hb,h3⟩:=h2 (by rw [List.length_map]; omega);obtain ⟨u,hu,hi⟩:=h3 k (by rw [List.length_map]; exact hk);rw [List.getElem_map] at hi;exact ⟨b,o,u,e1.trans e2,⟨hu,hb⟩,hi⟩
def gU (E l:List (List Nat)) (i:Nat):List (List Nat):=(E.take i).filter fun x=>decide (x∉l)
theorem Ka {E l:List (List Nat)} {i:Nat} (hi:i<E.length) (h:E[i]∈l):gU E l (i+1)=gU E l i:=by
 unfold gU;rw [List.take_succ_eq_append_getElem hi,List.filter_append];simp [h]
theorem GW {E l:List (List Nat)} {i:Nat} (hi:i<E.length) (h:E[i]∉l):gU E l (i+1)=gU E l i++[E[i]]:=by
 unfold gU;rw [List.take_succ_eq_append_getElem hi,List.filter_append];simp [h]
theorem Kb (E l:List (List Nat)) (i:Nat):(gU E l i).length<=E.length:=by
 unfold gU;exact Nat.le_trans (List.length_filter_le _ _) (List.length_take_le' _ _)
theorem GZ (n:Nat) (tr:Tr) (l:List (List Nat)):gU (dY n tr) l (dY n tr).length=jT n tr l:=by
 unfold gU jT;rw [List.take_length]
theorem zM {x:List Nat} {l:List (List Nat)} {k:Nat} (hk:k<l.length) (h:x∉l.take k):decide (x∈l.take (k+1))=decide (Ma.ah x=Ma.ah l[k]):=by
 have h1:(Ma.ah x=Ma.ah l[k])↔x=l[k]:=⟨Ma.mg,fun e=>by rw [e]⟩
 have h2:x∈l.take (k+1)↔x=l[k]:=by
  rw [List.take_succ_eq_append_getElem hk,List.mem_append,List.mem_singleton];exact ⟨fun e=>e.resolve_left h,.inr⟩
 exact decide_eq_decide.2 (h2.trans h1.symm)
def MD (F:Nat->Prop) (w:World) (l:List (List Nat)) (e:Ending) (w':World):Prop:=∃ v B,e=.returned v/\w.heap.size<=B/\dD F B w' v l/\BE w w'
theorem zN (aU:1<=n) (aZ:n<=64) {w:World} {tr:Tr} {Rb:Nat->Nat} {V:Nat->Nat->Value} (hT:cy F tb tf n w tr Rb V) (eH:∀ i p u,tr i p=some u->Cm.Gd n u) {lv:Value} {l:List (List Nat)} (hl:Rg.Rows w lv (l.map Ma.ah)) :
  Calls Tryz.prog 164 #[.slice (some ⟨tb,tf,none⟩) n tc,lv] w (MD F w (jT n tr l)):=by
 obtain ⟨la,lc,rfl,_,qt,_,_⟩:=hl.shape;rw [List.length_map] at qt;have G1:=U qt;have HT:=U hT;have HG:=U eH;have HL:=U hl;have Ee:=U hT.eP;have K:=U (bi w);clear hT eH hl qt;simp only [List.length_map]
 go_enter Tryz.func164,Tryz.ntmps164
 go_upto_region 2 with fail;refine c6<|j8 rfl ?_;go_frame;refine f4 11 (aA 163 _ _ rfl rfl (qN _ _)) ?_;refine (fo aU aZ HT.u HG.u).mono ?_;rintro e1 w1 ⟨av,rfl,kW,hb⟩;refine ⟨_,rfl,?_⟩;go_frame;replace HT:=U (HT.u.p hb);replace HL:=U (HL.u.p hb);replace K:=U (Rg.acc K.u hb);clear hb;have RA:=U kW;refine j6 (av) rfl ?_;go_frame;clear kW;obtain ⟨aa,ac,Xu⟩:=RA.u.shape;subst Xu;obtain ⟨E,hE⟩:∃ E,Hid (dY n tr=E):=⟨_,U rfl⟩;rw [hE.u] at RA ⊢;have KB:=K;have K1:=U (bi w1);clear K;have RO:=U (show dD F w1.heap.size w1 (.slice none 0 0) (gU E l 0) from dD.nil F (Nat.le_refl _));have HFW:=U (show ∀ k,F k->k<w1.heap.size from fun k hk=>Nat.lt_of_lt_of_le (Ee.u k hk) KB.u.size)
 have XP:E.length<1000000:=by
  have h1:=oJ n tr n 0;rw [rR,hE.u] at h1;have h2:n*n<=64*64:=Nat.mul_le_mul aZ aZ;omega
 have U4:=U XP;clear XP;go_wp2
 go_loopw [5,7] (fun tv iv wr=>∃ i:Nat,iv=.int .i64 i/\i<=E.length/\Hid (dD F w1.heap.size wr tv (gU E l i))/\Hid (BE w1 wr)) (fun _ iv _=>E.length - (intOf iv).toNat)
 case atStart=>exact ⟨0,rfl,Nat.zero_le _,RO,K1⟩
 case round =>
  clear RO K1;obtain ⟨i,rfl,hi,RO,K1⟩:=hrel;obtain ⟨ta,U3,dG⟩:=RO.u.shape;subst dG;have XP:=U4.u
  by_cases aS:i<E.length
  ·have yD:(i:Int)<(E.length:Int):=by omega
   have bN:=U aS;obtain ⟨g,c,u,e1,e2,e3⟩:=RA.u.at aS;simp only [Value.slice.injEq] at e1;obtain ⟨rfl,_,_⟩:=e1;obtain ⟨x,hx⟩:∃ x:List Nat,Hid (E[i]'aS=x):=⟨_,U rfl⟩
   replace e3:FP F w1 u x:=by rw [<- hx.u]; exact e3
   have CA:=U e2;have UP:=U e3;have XU:=U (show Rg.Ints w1 u (Ma.ah x) from e3.np);have QW:=U (show false=decide (x∈l.take 0) by simp);clear e2 e3;go_wp2
   go_loopw [8,9] (fun sv kv wr=>∃ (b:Bool) (k:Nat),sv=.bool b/\kv=.int .i64 k/\k<=l.length/\Hid (b=decide (x∈l.take k))/\Hid (dD F w1.heap.size wr (.slice ta (gU E l i).length U3) (gU E l i))/\Hid (BE w1 wr)) (fun _ kv _=>l.length - (intOf kv).toNat)
   case atStart=>exact ⟨false,0,rfl,rfl,Nat.zero_le _,QW,RO,K1⟩
   case round =>
    clear RO K1 QW;obtain ⟨b,k,rfl,rfl,hk,HB,RO,K1⟩:=hrel
    by_cases wX:b=true
    ·subst wX
     have aaL:=U (show E[i]'bN.u∈l by
      have:=HB.u;rw [hx.u]
      exact List.mem_of_mem_take (of_decide_eq_true this.symm))
     go_upto_region 8 with fail;refine c6<|k7 rfl<|k8 (bw _ _ true rfl rfl)<|k7 rfl ?_;go_frame;refine kT (some 21) rfl rfl ?_;go_frame;refine kT (some 22) rfl rfl ?_;go_frame;refine kT (some 23) rfl rfl ?_;go_frame;refine kT (some 24) rfl rfl ?_;go_frame;refine k8 (i7 (.bool false)) ?_;go_frame;go_upto_region 11 with fail;refine c6<|k7 rfl<|k8 (bw _ _ true rfl rfl) ?_;go_frame;have HE:=U (Ka bN.u aaL.u);go_wp2;go_roundw
     case rel=>exact ⟨i+1,by go_num,bN.u,by rw [HE.u]; exact RO,K1⟩
     case measure=>simp [intOf]; have:=bN.u; omega
    ·have hbf:b=false:=by simpa using wX
     subst hbf;clear wX;have HNM:=U (show x∉l.take k from of_decide_eq_false HB.u.symm);have hln:=G1.u
     by_cases b_:k<l.length
     ·have gY:(k:Int)<(l.length:Int):=by omega
      have ba:=U b_;obtain ⟨lb,lo,y,rfl,zO,hy⟩:=QV HL.u b_;have CY:=U zO;have YU:=U hy;obtain ⟨bq,hbq⟩:∃ b,Hid (decide (Ma.ah x=Ma.ah (l[k]'b_))=b):=⟨_,U rfl⟩;clear zO hy;go_upto_region 8 with fail;refine c6<|k7 rfl<|k8 (bw _ _ false rfl rfl)<|k7 rfl<|j7 rfl ?_;go_frame;refine j8 rfl<|k8 (g9 Tryz.underlying41)<|k8 (g8 (.bool true) .lss (h:=aI _ f7))<|k8 (i8 (.bool true)) ?_;go_frame;go_upto_region 10 with fail;have aj:BE wr wr.drew:=(Below.refl _ _).drew;replace RO:=U (RO.u.p aj);replace K1:=U (Rg.acc K1.u aj);clear aj;refine Rg.Any.begin (S:=Rg.aK 9 (fun _=>True) (fun W=>BE w1 W)) mix ?_;generalize wr.drew=gA at *;have hS:∀ (l:Array Bool) W,BE w1 W->Rg.aK 9 (fun _=>True) (fun W=>BE w1 W) l W:=fun l W h=>⟨.inr trivial,h⟩;have hI:=K1.u;refine d8 0 9 (.slice (some ⟨g,0,none⟩) E.length ac) 28 (hS _ _ hI)<|d8 1 9 (.int .i64 (i:Int)) 29 (hS _ _ hI)<|d7 2 9 (.pointer (some ⟨g,0+i,none⟩)) 30 rfl rfl (Rg.ai aM _ _ rfl rfl g (0) (E.length) ac (i) rfl rfl bN.u) (hS _ _ hI)<|d7 3 9 (u) 31 rfl rfl (j2 ⟨g,0+i,none⟩ (fun W hW=>Rg.ae _ _ Tryz.underlying27 ((Below.cell (p:=⟨g,0+i,none⟩) hW CA.u.lt).trans CA.u.cell))) (hS _ _ hI)<|d8 4 9 (.slice (some ⟨lb,lo,none⟩) l.length lc) 32 (hS _ _ hI) ?_;go_frame;refine d8 5 9 (.int .i64 (k:Int)) 33 (hS _ _ hI)<|d7 6 9 (.pointer (some ⟨lb,lo+k,none⟩)) 34 rfl rfl (Rg.ai aM _ _ rfl rfl lb (lo) (l.length) lc (k) rfl rfl ba.u) (hS _ _ hI)<|d7 7 9 (y) 35 rfl rfl (j2 ⟨lb,lo+k,none⟩ (fun W hW=>Rg.ae _ _ Tryz.underlying27 ((Below.cell (p:=⟨lb,lo+k,none⟩) hW CY.u.lt).trans CY.u.cell))) (hS _ _ hI) ?_;go_frame
      refine Rg.Any.one (i:=8) (by kernel_rfl) (Rg.Any.ask (some 36) rfl rfl rfl _ _ (ax 84 _ _ _ rfl rfl rfl (XN _ _)) ?_);refine (NH (XU.u.p hI) (YU.u.p hI) hbq (Below.refl _ _)).mono ?_;rintro e1 u_ ⟨rfl,hb⟩;have br:=Rg.acc hI hb;have dH:=hb;clear hb hI;refine ⟨_,rfl,(hS _ _ br),?_⟩;go_frame;refine j1 9 8 rfl rfl (b6 (.bool bq) _ rfl rfl) (hS _ _ br) ?_;go_frame;refine Rg.Any.done (by kernel_rfl) ?_ _;replace RO:=U (RO.u.p dH);replace K1:=U br;clear hS br dH;have wS:=U (show bq=decide (x∈l.take (k+1)) by rw [zM ba.u HNM.u,hbq.u]);go_wp2;go_roundw
      case rel=>exact ⟨bq,k+1,rfl,by go_num,ba.u,wS,RO,K1⟩
      case measure=>simp [intOf]; have:=ba.u; omega
     ·obtain rfl:k=l.length:=by omega
      have aaM:=U (show E[i]'bN.u∉l by
       have:=HNM.u;rw [hx.u]
       rwa [List.take_length] at this)
      have G2:=U (Nat.lt_of_le_of_lt (Kb E l i) U4.u);go_upto_region 8 with fail;refine c6<|k7 rfl<|k8 (bw _ _ false rfl rfl)<|k7 rfl<|j7 rfl ?_;go_frame;refine j8 rfl<|k8 (g9 Tryz.underlying41)<|k8 (g8 (.bool false) .lss (h:=aI _ f8))<|k8 (i8 (.bool false)) ?_;go_frame;go_upto_region 11 with fail;refine c6<|k7 rfl<|k8 (bw _ _ false rfl rfl) ?_;go_frame;go_upto_region 12 with fail;refine c6<|j8 rfl<|j8 rfl<|j7 rfl<|k8 (ag aM _ _ rfl g (0) (E.length) ac (i) rfl rfl bN.u) ?_;go_frame;refine k8 (g7 (u) ⟨g,0+i,none⟩ (Rg.ae _ _ Tryz.underlying27 ((Below.cell (p:=⟨g,0+i,none⟩) K1.u CA.u.lt).trans CA.u.cell)))<|k8 (Rg.aF _ _ _ rfl (u) rfl (cn wr _ (by obtain ⟨_,a,cc,_,e,_⟩:=UP.u.np.len; exact ⟨a,_,cc,e⟩))) ?_;go_frame;obtain ⟨a9,c9,X9,r1,r2,r3⟩:=RO.u.push HFW.u (UP.u.p K1.u) (by obtain ⟨_,a,cc,_,e,_⟩:=UP.u.np.len; exact ⟨a,_,cc,e⟩) G2.u 41;refine k8 (Rg.aT _ _ _ rfl rfl rfl r1)<|j8 rfl ?_;go_frame;have HE:=U (GW bN.u aaM.u);have tI:=U r2;have K2:=U (r3 (Nat.le_refl _) K1.u);clear r1 r2 r3;go_wp2;go_roundw
      case rel=>exact ⟨i+1,by go_num,bN.u,by rw [HE.u,hx.u]; exact tI,K2⟩
      case measure=>simp [intOf]; have:=bN.u; omega
  ·obtain rfl:i=E.length:=by omega
   have yD:¬ (E.length:Int)<(E.length:Int):=by omega
   have tI:=U (show dD F w1.heap.size wr _ (jT n tr l) by have:=RO.u; rw [<- GZ,hE.u]; exact this);have KF2:=U (KB.u.trans (K1.u.mono KB.u.size));go_wp2;go_ret;exact (show MD _ _ _ _ _ from ⟨_,_,rfl,KB.u.size,tI.u,KF2.u⟩)
end
section
open Go.RowKit
open Go.Proofs.Cm (Tr dg)
attribute [local irreducible] Go.Calls Go.wpList
theorem Kc (args:Array Value) (w:World):(callFunc 146 args).run Tryz.prog w=.ok (.enter 146 args) w:=by kernel_rfl
theorem QZ (args:Array Value) (w:World):(callFunc 164 args).run Tryz.prog w=.ok (.enter 164 args) w:=by kernel_rfl
theorem dD.mono {F F':Nat->Prop} {B:Nat} {W:World} {v:Value} {l:List (List Nat)} (h:dD F B W v l) (hF:∀ k,F k->F' k):dD F' B W v l:=by
 obtain ⟨us,h1,h2⟩:=h.own;exact ⟨h.size,us,h1,h2.mono hF⟩
theorem ef.rows {l:List (List Nat)} (h:ef F M W v l) (hl:l.length<=1000000000):Rg.Rows W v (l.map Ma.ah):=by
 obtain ⟨B,us,h0,h1,h2⟩:=h.own;have e:us.length=(l.map Ma.ah).length:=h2.1;exact Rg.Rows.cV h1 hl e fun i a b=>(h2.2 i a b).ints
def PP (n:Nat) (tr:Tr) (l:List (List Nat)) (i k m:Nat):Prop:=(∀ a b,a<i->b<i->qM n tr l a b)/\(∀ b,b<k->qM n tr l i b/\qM n tr l b i)/\(0<m->qM n tr l i k)/\(1<m->qM n tr l k i)
theorem PP.start {tr:Tr} {l:List (List Nat)}:PP n tr l 0 0 0:=⟨fun _ _ h=>absurd h (Nat.not_lt_zero _),fun _ h=>absurd h (Nat.not_lt_zero _),fun h=>absurd h (Nat.lt_irrefl _),fun h=>absurd h (by decide)⟩
theorem PP.more {n:Nat} {tr tr':Tr} {l m':List (List Nat)} {i k m:Nat} (h:PP n tr l i k m) (hi:i<l.length) (hk:k<=i) (hm:∀ i p u,Cm.cL n tr i p=some u->Cm.cL n tr' i p=some u):PP n tr' (l++m') i k m :=
 ⟨fun a b ha hb=>(h.1 a b ha hb).more (by omega) (by omega) hm,fun b hb=>⟨(h.2.1 b hb).1.more hi (by omega) hm,(h.2.1 b hb).2.more (by omega) hi hm⟩,fun e=>(h.2.2.1 e).more hi (by omega) hm,fun e=>(h.2.2.2 e).more (by omega) hi hm⟩
theorem PP.Q0 {tr:Tr} {l:List (List Nat)} {i k:Nat} (h:PP n tr l i k 0) (hp:qM n tr l i k):PP n tr l i k 1:=⟨h.1,h.2.1,fun _=>hp,fun e=>absurd e (by decide)⟩
theorem PP.Q4 {tr:Tr} {l:List (List Nat)} {i k:Nat} (h:PP n tr l i k 1) (hp:qM n tr l k i):PP n tr l i k 2:=⟨h.1,h.2.1,fun _=>h.2.2.1 (by decide),fun _=>hp⟩
theorem PP.next {tr:Tr} {l:List (List Nat)} {i k:Nat} (h:PP n tr l i k 2):PP n tr l i (k+1) 0 :=
 ⟨h.1,fun b hb=>by
  by_cases e:b=k
  ·subst e; exact ⟨h.2.2.1 (by decide),h.2.2.2 (by decide)⟩
  ·exact h.2.1 b (by omega),fun e=>absurd e (by decide),fun e=>absurd e (by decide)⟩
theorem PP.row {tr:Tr} {l:List (List Nat)} {i:Nat} (h:PP n tr l i (i+1) 0):PP n tr l (i+1) 0 0 :=
 ⟨fun a b ha hb=>by
  by_cases e:a=i
  ·subst e; exact (h.2.1 b hb).1
  ·by_cases e2:b=i
   ·subst e2; exact (h.2.1 a ha).2
   ·exact h.1 a b (by omega) (by omega),fun _ e=>absurd e (by omega),fun e=>absurd e (by decide),fun e=>absurd e (by decide)⟩
theorem jU {l:List (List Nat)} {i:Nat} (h:i<l.length):l.getD i []=l[i]:=by rw [List.getD_eq_getElem?_getD,List.getElem?_eq_getElem h]; rfl
theorem ve (aZ:n<=64) (tr:Tr):(dY n tr).length<=4096:=by
 have h1:=oJ n tr n 0;rw [rR] at h1;have h2:n*n<=64*64:=Nat.mul_le_mul aZ aZ;omega
theorem LE.le (aZ:n<=64) {gs:List Nat->Prop} {tr:Tr} {l:List (List Nat)} (h:LE n gs tr l):l.length<=4096:=by
 have h1:=h.len;have h2:n*n<=64*64:=Nat.mul_le_mul aZ aZ;omega
def ME (F0:Nat->Prop) (w:World) (tb tf n:Nat) (gs:List Nat->Prop) (Rb:Nat->Nat) (e:Ending) (w':World):Prop:=∃ F' V' tr',e=.returned (.tuple #[])/\KG F0 w F' w'/\cy F' tb tf n w' tr' Rb V'/\dg n gs tr'/\Cm.mj n (Cm.Gr n gs) (Cm.cL n tr')
theorem G3 (aU:1<=n) (aZ:n<=64) {w:World} {zj:Tr} {Rb:Nat->Nat} {V:Nat->Nat->Value} (hT:cy F0 tb tf n w zj Rb V) {gs:List Nat->Prop} (hg:∀ s,gs s->Cm.Gd n s) (BA:dg n gs zj) (jr:∀ s,gs s->Cm.Sd n (Cm.cL n zj) n s) :
  Calls Tryz.prog 147 #[.slice (some ⟨tb,tf,none⟩) n tc] w (ME F0 w tb tf n gs Rb):=by
 have HT:=U hT;have HG:=U hg;have km:=U (LE.start BA jr);have XQ:=U (show ∀ k,By n Rb k->k<w.heap.size from fun k hk=>by obtain ⟨i,hi,rfl⟩:=hk; exact hT.lt hi);have K:=U (KG.refl hT.eP);clear hT hg BA jr
 go_enter Tryz.func147,Tryz.ntmps147
 go_upto_region 0 with fail;refine c6<|j8 rfl ?_;go_frame;refine f4 9 (aA 163 _ _ rfl rfl (qN _ _)) ?_;refine (fo aU aZ HT.u (fun i p u e=>iI km.u.ok e)).mono ?_;rintro e1 w1 ⟨av,rfl,kW,hb⟩;replace K:=U (K.u.zp (KF.aD hb));have RW:=U (kW.g (M:=By n Rb) HT.u.eP XQ.u);clear kW;refine ⟨_,rfl,?_⟩;go_frame;replace HT:=U (HT.u.p hb);clear hb;refine j6 (av) rfl ?_;go_frame;have HP:=U (PP.start (n:=n) (tr:=zj) (l:=dY n zj));go_wp2
 go_loopw [2,3] (fun lv iv wr=>∃ (i:Nat) (l:List (List Nat)) (tr:Tr) (F1:Nat->Prop) (V:Nat->Nat->Value),iv=.int .i64 i/\i<=l.length/\Hid (ef F1 (By n Rb) wr lv l)/\Hid (cy F1 tb tf n wr tr Rb V)/\Hid (KG F0 w F1 wr)/\Hid (LE n gs tr l)/\Hid (PP n tr l i 0 0)) (fun _ iv _=>4096 - (intOf iv).toNat)
 case atStart=>exact ⟨0,_,_,_,_,rfl,Nat.zero_le _,RW,HT,K,km,HP⟩
 case round =>
  clear RW HT K km HP;obtain ⟨i,l,tr,F,V,rfl,hi,RW,HT,K,km,HP⟩:=hrel;obtain ⟨ra,rc,dG⟩:=RW.u.shape;subst dG;have ss:=km.u.le aZ
  by_cases aS:i<l.length
  ·have yD:(i:Int)<(l.length:Int):=by omega
   have hi4:i<4096:=by omega
   clear ss hi;go_wp2
   go_loopw [2,4] (fun lv kv wr=>∃ (k:Nat) (l:List (List Nat)) (tr:Tr) (F1:Nat->Prop) (V:Nat->Nat->Value),kv=.int .i64 k/\k<=i+1/\i<l.length/\Hid (ef F1 (By n Rb) wr lv l)/\Hid (cy F1 tb tf n wr tr Rb V)/\Hid (KG F0 w F1 wr)/\Hid (LE n gs tr l)/\Hid (PP n tr l i k 0)) (fun _ kv _=>i+1 - (intOf kv).toNat)
   case atStart=>exact ⟨0,_,_,_,_,rfl,Nat.zero_le _,aS,RW,HT,K,km,HP⟩
   case round =>
    clear RW HT K km HP aS yD;obtain ⟨k,l,tr,F,V,rfl,hk,aS,RW,HT,K,km,HP⟩:=hrel;obtain ⟨ra,rc,dG⟩:=RW.u.shape;subst dG
    by_cases n7:k<=i
    ·have gY:(k:Int)<=(i:Int):=by omega
     go_wp2
     go_loopw [2,5] (fun lv mv wr=>∃ (m:Nat) (l:List (List Nat)) (tr:Tr) (F1:Nat->Prop) (V:Nat->Nat->Value),mv=.int .i64 m/\m<=2/\i<l.length/\Hid (ef F1 (By n Rb) wr lv l)/\Hid (cy F1 tb tf n wr tr Rb V)/\Hid (KG F0 w F1 wr)/\Hid (LE n gs tr l)/\Hid (PP n tr l i k m)) (fun _ mv _=>2 - (intOf mv).toNat)
     case atStart=>exact ⟨0,_,_,_,_,rfl,by decide,aS,RW,HT,K,km,HP⟩
     case round =>
      clear RW HT K km HP aS;obtain ⟨m,l,tr,F,V,rfl,hm,aS,RW,HT,K,km,HP⟩:=hrel;have ss:=km.u.le aZ;have bN:=U aS;have tJ:=U (show k<l.length by omega)
      by_cases ND:m<2
      ·have uX:(m:Int)<2:=by omega
       obtain ⟨g,c,ua,e1,e2,e3⟩:=RW.u.at bN.u;subst e1;obtain ⟨g',c',ub,Kd,G4,U5⟩:=RW.u.at tJ.u;simp only [Value.slice.injEq,Option.some.injEq,Addr.mk.injEq,and_true,true_and] at Kd;obtain ⟨e1a,e1b⟩:=Kd;subst e1a e1b;have CA:=U e2;have UA:=U e3;have CB:=U G4;have UB:=U U5;have GA:=U (km.u.gr (List.getElem_mem bN.u));have GB:=U (km.u.gr (List.getElem_mem tJ.u));have tK:=U ss;clear e2 e3 G4 U5 ss aS
       by_cases hm0:m=0
       ·subst hm0
        go_upto_region 10 with fail;have aj:BE wr wr.drew:=(Below.refl _ _).drew;replace RW:=U (RW.u.up aj);replace HT:=U (HT.u.up aj);replace CA:=U (CA.u.up aj);replace CB:=U (CB.u.up aj);replace UA:=U (UA.u.up aj);replace UB:=U (UB.u.up aj);replace K:=U (K.u.up aj);generalize cE F wr wr.drew=F1 at *;clear aj;refine Rg.Any.begin (S:=Rg.aK 9 (fun _=>True) (fun W=>Below wr.drew.heap.size wr.drew W)) mix ?_;generalize wr.drew=w1 at *;have hS:∀ (l:Array Bool) W,BE w1 W->Rg.aK 9 (fun _=>True) (fun W=>BE w1 W) l W:=fun l W h=>⟨.inr trivial,h⟩;have hI:BE w1 w1:=Below.refl _ _;refine d8 0 9 (.slice (some ⟨g,0,none⟩) l.length c) 25 (hS _ _ hI)<|d8 1 9 (.int .i64 (i:Int)) 26 (hS _ _ hI)<|d7 2 9 (.pointer (some ⟨g,0+i,none⟩)) 27 rfl rfl (Rg.ai aM _ _ rfl rfl g (0) (l.length) c (i) rfl rfl bN.u) (hS _ _ hI)<|d7 3 9 (ua) 28 rfl rfl (j2 ⟨g,0+i,none⟩ (fun W hW=>Rg.ae _ _ Tryz.underlying27 ((Below.cell (p:=⟨g,0+i,none⟩) hW CA.u.lt).trans CA.u.cell))) (hS _ _ hI)<|d8 4 9 (.slice (some ⟨g,0,none⟩) l.length c) 29 (hS _ _ hI) ?_;go_frame;refine d8 5 9 (.int .i64 (k:Int)) 30 (hS _ _ hI)<|d7 6 9 (.pointer (some ⟨g,0+k,none⟩)) 31 rfl rfl (Rg.ai aM _ _ rfl rfl g (0) (l.length) c (k) rfl rfl tJ.u) (hS _ _ hI)<|d7 7 9 (ub) 32 rfl rfl (j2 ⟨g,0+k,none⟩ (fun W hW=>Rg.ae _ _ Tryz.underlying27 ((Below.cell (p:=⟨g,0+k,none⟩) hW CB.u.lt).trans CB.u.cell))) (hS _ _ hI) ?_;go_frame;refine Rg.Any.one (i:=8) (by kernel_rfl) (Rg.Any.ask (some 33) rfl rfl rfl _ _ (ax 34 _ _ _ rfl rfl rfl (tH _ _)) ?_);refine (rQ UA.u UB.u GA.u.2 GB.u.2 aZ).mono ?_;rintro e1 w2 ⟨mv,rfl,gX,hb⟩;have jO:=Rg.acc hI hb;clear hI;replace RW:=U (RW.u.up hb);replace HT:=U (HT.u.up hb);replace CA:=U (CA.u.up hb);replace CB:=U (CB.u.up hb);replace UA:=U (UA.u.up hb);replace UB:=U (UB.u.up hb);replace K:=U (K.u.up hb);have XV:=U gX;generalize cE F1 w1 w2=F2 at *;clear hb;refine ⟨_,rfl,(hS _ _ jO),?_⟩;go_frame;refine j1 9 6 rfl rfl (b6 (mv) _ rfl rfl) (hS _ _ jO) ?_;go_frame;refine Rg.Any.done (by kernel_rfl) ?_ _;clear hS jO;clear gX;go_upto_region 11 with fail
        refine c6<|j7 rfl<|k8 (g8 (.bool false) .eql (h:=eM _ f8)) ?_;go_frame;obtain ⟨x,hx⟩:∃ x,Hid (Ma.aq (l[i]'bN.u) (l[k]'tJ.u)=x):=⟨_,U rfl⟩;rw [hx.u] at XV
        have G5:Cm.Gr n gs x:=by rw [<- hx.u]; exact .mul _ _ GA.u.1 GB.u.1
        have GX:=U (show Cm.Gd n x by rw [<- hx.u]; exact Cm.bm GA.u.2 GB.u.2);have lL:=vd HG.u km.u.ok G5;go_upto_region 13 with fail;refine c6<|j8 rfl ?_;go_frame;refine f4 46 (aA 163 _ _ rfl rfl (qN _ _)) ?_;refine (fo aU aZ HT.u (fun i p u e=>iI km.u.ok e)).mono ?_;rintro e1 w3 ⟨av,rfl,kW,hb⟩;obtain ⟨aa,ac,rfl⟩:=kW.shape;clear kW;refine ⟨_,rfl,?_⟩;go_frame;replace RW:=U (RW.u.up hb);replace HT:=U (HT.u.up hb);replace CA:=U (CA.u.up hb);replace CB:=U (CB.u.up hb);replace UA:=U (UA.u.up hb);replace UB:=U (UB.u.up hb);replace XV:=U (XV.u.up hb);replace K:=U (K.u.up hb);generalize cE F2 w2 w3=F3 at *;clear hb;refine k8 (g9 Tryz.underlying41)<|j7 rfl ?_;go_frame;go_upto_region 14 with fail;refine c6<|j8 rfl<|j6 (mv) rfl ?_;go_frame;refine f4 50 (ax 146 _ _ _ rfl rfl rfl (Kc _ _)) ?_;refine (qK aU aZ HT.u km.u.ok.rp XV.u GX.u).mono ?_;rintro e1 w4 ⟨F9,V9,rfl,n7,m_⟩;have eE:=n7.kg;have G6:=RW.u.ki n7;refine ⟨_,rfl,?_⟩;go_frame;clear HT;clear CA;clear CB;clear UA;clear UB;replace RW:=U G6;replace XV:=U (XV.u.kg eE);replace K:=U (K.u.trans eE);have HT:=U m_;clear eE G6;clear n7 m_;generalize lK n tr (Cm.dn n (Cm.cL n tr) n x)=qO at *;have zP:=U lL.1;have Q5:=U lL.2.1;have Q6:=U lL.2.2.1;have XS:=U lL.2.2.2;clear lL G5;have HE1:=U (ve aZ tr);have Bz:=U (ve aZ qO)
        by_cases NN:(dY n tr).length<(dY n qO).length
        ·have Q7:((dY n tr).length:Int)<((dY n qO).length:Int):=by omega
         go_upto_region 15 with fail;refine c6<|j8 rfl ?_;go_frame;refine f4 52 (aA 163 _ _ rfl rfl (qN _ _)) ?_;refine (fo aU aZ HT.u (fun i p u e=>iI zP.u e)).mono ?_;rintro e1 w5 ⟨av,rfl,kW,hb⟩;obtain ⟨XT,XW,rfl⟩:=kW.shape;clear kW;refine ⟨_,rfl,?_⟩;go_frame;replace RW:=U (RW.u.up hb);replace XV:=U (XV.u.up hb);replace HT:=U (HT.u.up hb);replace K:=U (K.u.up hb);generalize cE F9 w4 w5=F4 at *;clear hb;refine k8 (g9 Tryz.underlying41)<|j7 rfl<|k8 (g8 (.bool true) .gtr (h:=bA _ f7)) ?_;go_frame;go_upto_region 16 with fail;refine c6<|j8 rfl<|j8 rfl<|j8 rfl ?_;go_frame;refine f4 59 (ax 164 _ _ _ rfl rfl rfl (QZ _ _)) ?_;refine (zN aU aZ HT.u (fun i p u e=>iI zP.u e) (RW.u.rows (by have:=tK.u; omega))).mono ?_;rintro e1 w6 ⟨fv,B9,rfl,G7,dC,hb⟩;refine ⟨_,rfl,?_⟩;go_frame;replace RW:=U (RW.u.up hb);replace XV:=U (XV.u.up hb);replace HT:=U (HT.u.up hb);replace K:=U (K.u.up hb);have RF:=U (dC.mono (fun _ h=>Or.inl h):dD (cE F4 w5 w6) _ _ _ _);generalize cE F4 w5 w6=F5 at *;clear hb;clear dC;have vg:(jT n qO l).length<=4096:=Nat.le_trans (List.length_filter_le _ _) Bz.u;obtain ⟨a9,c9,X9,r1,r2,r3⟩:=RW.u.app RF.u HT.u.eP (fun k hk=>by obtain ⟨i,hi,rfl⟩:=hk; exact HT.u.lt hi) (by have:=tK.u; omega) 41;refine k8 (Rg.aT _ _ _ rfl rfl rfl r1)<|j8 rfl ?_;go_frame;have Ke:=U (HT.u.kp r3 (fun k hF e=>(RW.u.off k e).1 hF) (fun i hi e=>(RW.u.off _ e).2 ⟨i,hi,rfl⟩));have K2:=U (K.u.zp (Rg.Kp.gS r3 (fun k e hF=>(RW.u.off k e).1 hF)));have pB:=U r2;have XX:=U (km.u.more zP.u Q5.u)
         have Kf:=U ((HP.u.more (m':=jT n qO l) bN.u n7 Q5.u).Q0 (by
          unfold qM;rw [l4 bN.u,l4 tJ.u,jU bN.u,jU tJ.u,hx.u]
          exact Q6.u))
         have Q8:=U (show i<(l++jT n qO l).length by rw [List.length_append]; have:=bN.u; omega);clear r1 r2 r3;go_wp2;go_roundw
         case rel=>exact ⟨1,_,_,_,_,by go_num,by decide,Q8.u,pB,Ke,K2,XX,Kf⟩
         case measure=>simp [intOf]
        ·have Q7:¬ ((dY n tr).length:Int)<((dY n qO).length:Int):=by omega
         have Q9:=XS.u (by omega);go_upto_region 15 with fail;refine c6<|j8 rfl ?_;go_frame;refine f4 52 (aA 163 _ _ rfl rfl (qN _ _)) ?_;refine (fo aU aZ HT.u (fun i p u e=>iI zP.u e)).mono ?_;rintro e1 w5 ⟨av,rfl,kW,hb⟩;obtain ⟨XT,XW,rfl⟩:=kW.shape;clear kW;refine ⟨_,rfl,?_⟩;go_frame;replace RW:=U (RW.u.up hb);replace XV:=U (XV.u.up hb);replace HT:=U (HT.u.up hb);replace K:=U (K.u.up hb);generalize cE F9 w4 w5=F4 at *;clear hb;refine k8 (g9 Tryz.underlying41)<|j7 rfl<|k8 (g8 (.bool false) .gtr (h:=bA _ f8)) ?_;go_frame;have Ke:=U (show cy F4 tb tf n w5 tr Rb _ by have:=HT.u; rw [Q9] at this; exact this)
         have Kf:=U (HP.u.Q0 (by
          unfold qM;rw [jU bN.u,jU tJ.u,hx.u,<- Q9]
          exact Q6.u))
         go_wp2;go_roundw
         case rel=>exact ⟨1,_,_,_,_,by go_num,by decide,bN.u,RW,Ke,K,km,Kf⟩
         case measure=>simp [intOf]
       ·obtain rfl:m=1:=by omega
        clear hm0;go_upto_region 10 with fail;have aj:BE wr wr.drew:=(Below.refl _ _).drew;replace RW:=U (RW.u.up aj);replace HT:=U (HT.u.up aj);replace CA:=U (CA.u.up aj);replace CB:=U (CB.u.up aj);replace UA:=U (UA.u.up aj);replace UB:=U (UB.u.up aj);replace K:=U (K.u.up aj);generalize cE F wr wr.drew=F1 at *;clear aj;refine Rg.Any.begin (S:=Rg.aK 9 (fun _=>True) (fun W=>Below wr.drew.heap.size wr.drew W)) mix ?_;generalize wr.drew=w1 at *;have hS:∀ (l:Array Bool) W,BE w1 W->Rg.aK 9 (fun _=>True) (fun W=>BE w1 W) l W:=fun l W h=>⟨.inr trivial,h⟩;have hI:BE w1 w1:=Below.refl _ _;refine d8 0 9 (.slice (some ⟨g,0,none⟩) l.length c) 25 (hS _ _ hI)<|d8 1 9 (.int .i64 (i:Int)) 26 (hS _ _ hI)<|d7 2 9 (.pointer (some ⟨g,0+i,none⟩)) 27 rfl rfl (Rg.ai aM _ _ rfl rfl g (0) (l.length) c (i) rfl rfl bN.u) (hS _ _ hI)<|d7 3 9 (ua) 28 rfl rfl (j2 ⟨g,0+i,none⟩ (fun W hW=>Rg.ae _ _ Tryz.underlying27 ((Below.cell (p:=⟨g,0+i,none⟩) hW CA.u.lt).trans CA.u.cell))) (hS _ _ hI)<|d8 4 9 (.slice (some ⟨g,0,none⟩) l.length c) 29 (hS _ _ hI) ?_;go_frame;refine d8 5 9 (.int .i64 (k:Int)) 30 (hS _ _ hI)<|d7 6 9 (.pointer (some ⟨g,0+k,none⟩)) 31 rfl rfl (Rg.ai aM _ _ rfl rfl g (0) (l.length) c (k) rfl rfl tJ.u) (hS _ _ hI)<|d7 7 9 (ub) 32 rfl rfl (j2 ⟨g,0+k,none⟩ (fun W hW=>Rg.ae _ _ Tryz.underlying27 ((Below.cell (p:=⟨g,0+k,none⟩) hW CB.u.lt).trans CB.u.cell))) (hS _ _ hI) ?_;go_frame;refine Rg.Any.one (i:=8) (by kernel_rfl) (Rg.Any.ask (some 33) rfl rfl rfl _ _ (ax 34 _ _ _ rfl rfl rfl (tH _ _)) ?_);refine (rQ UA.u UB.u GA.u.2 GB.u.2 aZ).mono ?_;rintro e1 w2 ⟨mv,rfl,gX,hb⟩;have tA:=Rg.acc hI hb;clear hI;replace RW:=U (RW.u.up hb);replace HT:=U (HT.u.up hb);replace CA:=U (CA.u.up hb);replace CB:=U (CB.u.up hb);replace UA:=U (UA.u.up hb);replace UB:=U (UB.u.up hb);replace K:=U (K.u.up hb);have XV:=U gX;generalize cE F1 w1 w2=F2 at *;clear hb;refine ⟨_,rfl,(hS _ _ tA),?_⟩;go_frame;refine j1 9 6 rfl rfl (b6 (mv) _ rfl rfl) (hS _ _ tA) ?_;go_frame;refine Rg.Any.done (by kernel_rfl) ?_ _;clear hS tA;clear gX;go_upto_region 11 with fail
        refine c6<|j7 rfl<|k8 (g8 (.bool true) .eql (h:=eM _ f7)) ?_;go_frame;clear XV;go_upto_region 12 with fail;have aj:BE w2 w2.drew:=(Below.refl _ _).drew;replace RW:=U (RW.u.up aj);replace HT:=U (HT.u.up aj);replace CA:=U (CA.u.up aj);replace CB:=U (CB.u.up aj);replace UA:=U (UA.u.up aj);replace UB:=U (UB.u.up aj);replace K:=U (K.u.up aj);generalize cE F2 w2 w2.drew=F3 at *;clear aj;refine Rg.Any.begin (S:=Rg.aK 9 (fun _=>True) (fun W=>Below w2.drew.heap.size w2.drew W)) mix ?_;generalize w2.drew=w3 at *;have hS:∀ (l:Array Bool) W,BE w3 W->Rg.aK 9 (fun _=>True) (fun W=>BE w3 W) l W:=fun l W h=>⟨.inr trivial,h⟩;have hI:BE w3 w3:=Below.refl _ _;refine d8 0 9 (.slice (some ⟨g,0,none⟩) l.length c) 36 (hS _ _ hI)<|d8 1 9 (.int .i64 (k:Int)) 37 (hS _ _ hI)<|d7 2 9 (.pointer (some ⟨g,0+k,none⟩)) 38 rfl rfl (Rg.ai aM _ _ rfl rfl g (0) (l.length) c (k) rfl rfl tJ.u) (hS _ _ hI)<|d7 3 9 (ub) 39 rfl rfl (j2 ⟨g,0+k,none⟩ (fun W hW=>Rg.ae _ _ Tryz.underlying27 ((Below.cell (p:=⟨g,0+k,none⟩) hW CB.u.lt).trans CB.u.cell))) (hS _ _ hI)<|d8 4 9 (.slice (some ⟨g,0,none⟩) l.length c) 40 (hS _ _ hI) ?_;go_frame;refine d8 5 9 (.int .i64 (i:Int)) 41 (hS _ _ hI)<|d7 6 9 (.pointer (some ⟨g,0+i,none⟩)) 42 rfl rfl (Rg.ai aM _ _ rfl rfl g (0) (l.length) c (i) rfl rfl bN.u) (hS _ _ hI)<|d7 7 9 (ua) 43 rfl rfl (j2 ⟨g,0+i,none⟩ (fun W hW=>Rg.ae _ _ Tryz.underlying27 ((Below.cell (p:=⟨g,0+i,none⟩) hW CA.u.lt).trans CA.u.cell))) (hS _ _ hI) ?_;go_frame;refine Rg.Any.one (i:=8) (by kernel_rfl) (Rg.Any.ask (some 44) rfl rfl rfl _ _ (ax 34 _ _ _ rfl rfl rfl (tH _ _)) ?_);refine (rQ UB.u UA.u GB.u.2 GA.u.2 aZ).mono ?_;rintro e1 w4 ⟨mv2,rfl,gX,hb⟩;have zQ:=Rg.acc hI hb;clear hI;replace RW:=U (RW.u.up hb);replace HT:=U (HT.u.up hb);replace CA:=U (CA.u.up hb);replace CB:=U (CB.u.up hb);replace UA:=U (UA.u.up hb);replace UB:=U (UB.u.up hb);replace K:=U (K.u.up hb);have XV:=U gX;generalize cE F3 w3 w4=F4 at *;clear hb;refine ⟨_,rfl,(hS _ _ zQ),?_⟩;go_frame;refine j1 9 6 rfl rfl (b6 (mv2) _ rfl rfl) (hS _ _ zQ) ?_;go_frame;refine Rg.Any.done (by kernel_rfl) ?_ _;clear hS zQ;clear gX;obtain ⟨x,hx⟩:∃ x,Hid (Ma.aq (l[k]'tJ.u) (l[i]'bN.u)=x):=⟨_,U rfl⟩;rw [hx.u] at XV
        have G5:Cm.Gr n gs x:=by rw [<- hx.u]; exact .mul _ _ GB.u.1 GA.u.1
        have GX:=U (show Cm.Gd n x by rw [<- hx.u]; exact Cm.bm GB.u.2 GA.u.2);have lL:=vd HG.u km.u.ok G5;go_upto_region 13 with fail;refine c6<|j8 rfl ?_;go_frame;refine f4 46 (aA 163 _ _ rfl rfl (qN _ _)) ?_;refine (fo aU aZ HT.u (fun i p u e=>iI km.u.ok e)).mono ?_;rintro e1 w5 ⟨av,rfl,kW,hb⟩;obtain ⟨aa,ac,rfl⟩:=kW.shape;clear kW;refine ⟨_,rfl,?_⟩;go_frame;replace RW:=U (RW.u.up hb);replace HT:=U (HT.u.up hb);replace CA:=U (CA.u.up hb);replace CB:=U (CB.u.up hb);replace UA:=U (UA.u.up hb);replace UB:=U (UB.u.up hb);replace XV:=U (XV.u.up hb);replace K:=U (K.u.up hb);generalize cE F4 w4 w5=F5 at *;clear hb;refine k8 (g9 Tryz.underlying41)<|j7 rfl ?_;go_frame;go_upto_region 14 with fail;refine c6<|j8 rfl<|j6 (mv2) rfl ?_;go_frame;refine f4 50 (ax 146 _ _ _ rfl rfl rfl (Kc _ _)) ?_;refine (qK aU aZ HT.u km.u.ok.rp XV.u GX.u).mono ?_;rintro e1 w6 ⟨F9,V9,rfl,n7,m_⟩;have eE:=n7.kg;have G6:=RW.u.ki n7;refine ⟨_,rfl,?_⟩;go_frame;clear HT;clear CA;clear CB;clear UA;clear UB;replace RW:=U G6;replace XV:=U (XV.u.kg eE);replace K:=U (K.u.trans eE);have HT:=U m_;clear eE G6;clear n7 m_;generalize lK n tr (Cm.dn n (Cm.cL n tr) n x)=qO at *;have zP:=U lL.1;have Q5:=U lL.2.1;have Q6:=U lL.2.2.1;have XS:=U lL.2.2.2;clear lL G5;have HE1:=U (ve aZ tr);have Bz:=U (ve aZ qO)
        by_cases NN:(dY n tr).length<(dY n qO).length
        ·have Q7:((dY n tr).length:Int)<((dY n qO).length:Int):=by omega
         go_upto_region 15 with fail;refine c6<|j8 rfl ?_;go_frame;refine f4 52 (aA 163 _ _ rfl rfl (qN _ _)) ?_;refine (fo aU aZ HT.u (fun i p u e=>iI zP.u e)).mono ?_;rintro e1 w7 ⟨av,rfl,kW,hb⟩;obtain ⟨XT,XW,rfl⟩:=kW.shape;clear kW;refine ⟨_,rfl,?_⟩;go_frame;replace RW:=U (RW.u.up hb);replace XV:=U (XV.u.up hb);replace HT:=U (HT.u.up hb);replace K:=U (K.u.up hb);generalize cE F9 w6 w7=F6 at *;clear hb;refine k8 (g9 Tryz.underlying41)<|j7 rfl<|k8 (g8 (.bool true) .gtr (h:=bA _ f7)) ?_;go_frame;go_upto_region 16 with fail;refine c6<|j8 rfl<|j8 rfl<|j8 rfl ?_;go_frame;refine f4 59 (ax 164 _ _ _ rfl rfl rfl (QZ _ _)) ?_;refine (zN aU aZ HT.u (fun i p u e=>iI zP.u e) (RW.u.rows (by have:=tK.u; omega))).mono ?_;rintro e1 w8 ⟨fv,B9,rfl,G7,dC,hb⟩;refine ⟨_,rfl,?_⟩;go_frame;replace RW:=U (RW.u.up hb);replace XV:=U (XV.u.up hb);replace HT:=U (HT.u.up hb);replace K:=U (K.u.up hb);have RF:=U (dC.mono (fun _ h=>Or.inl h):dD (cE F6 w7 w8) _ _ _ _);generalize cE F6 w7 w8=F7 at *;clear hb;clear dC;have vg:(jT n qO l).length<=4096:=Nat.le_trans (List.length_filter_le _ _) Bz.u;obtain ⟨a9,c9,X9,r1,r2,r3⟩:=RW.u.app RF.u HT.u.eP (fun k hk=>by obtain ⟨i,hi,rfl⟩:=hk; exact HT.u.lt hi) (by have:=tK.u; omega) 41;refine k8 (Rg.aT _ _ _ rfl rfl rfl r1)<|j8 rfl ?_;go_frame;have Ke:=U (HT.u.kp r3 (fun k hF e=>(RW.u.off k e).1 hF) (fun i hi e=>(RW.u.off _ e).2 ⟨i,hi,rfl⟩));have K2:=U (K.u.zp (Rg.Kp.gS r3 (fun k e hF=>(RW.u.off k e).1 hF)));have pB:=U r2;have XX:=U (km.u.more zP.u Q5.u)
         have Kf:=U ((HP.u.more (m':=jT n qO l) bN.u n7 Q5.u).Q4 (by
          unfold qM;rw [l4 tJ.u,l4 bN.u,jU tJ.u,jU bN.u,hx.u]
          exact Q6.u))
         have Q8:=U (show i<(l++jT n qO l).length by rw [List.length_append]; have:=bN.u; omega);clear r1 r2 r3;go_wp2;go_roundw
         case rel=>exact ⟨2,_,_,_,_,by go_num,by decide,Q8.u,pB,Ke,K2,XX,Kf⟩
         case measure=>simp [intOf]
        ·have Q7:¬ ((dY n tr).length:Int)<((dY n qO).length:Int):=by omega
         have Q9:=XS.u (by omega);go_upto_region 15 with fail;refine c6<|j8 rfl ?_;go_frame;refine f4 52 (aA 163 _ _ rfl rfl (qN _ _)) ?_;refine (fo aU aZ HT.u (fun i p u e=>iI zP.u e)).mono ?_;rintro e1 w7 ⟨av,rfl,kW,hb⟩;obtain ⟨XT,XW,rfl⟩:=kW.shape;clear kW;refine ⟨_,rfl,?_⟩;go_frame;replace RW:=U (RW.u.up hb);replace XV:=U (XV.u.up hb);replace HT:=U (HT.u.up hb);replace K:=U (K.u.up hb);generalize cE F9 w6 w7=F6 at *;clear hb;refine k8 (g9 Tryz.underlying41)<|j7 rfl<|k8 (g8 (.bool false) .gtr (h:=bA _ f8)) ?_;go_frame;have Ke:=U (show cy F6 tb tf n w7 tr Rb _ by have:=HT.u; rw [Q9] at this; exact this)
         have Kf:=U (HP.u.Q4 (by
          unfold qM;rw [jU tJ.u,jU bN.u,hx.u,<- Q9]
          exact Q6.u))
         go_wp2;go_roundw
         case rel=>exact ⟨2,_,_,_,_,by go_num,by decide,bN.u,RW,Ke,K,km,Kf⟩
         case measure=>simp [intOf]
      ·obtain rfl:m=2:=by omega
       have uX:¬ ((2:Nat):Int)<2:=by omega
       have J5:=U HP.u.next;clear ss hm ND;go_wp2;go_roundw
       case rel=>exact ⟨k+1,_,_,_,_,by go_num,by omega,bN.u,RW,HT,K,km,J5⟩
       case measure=>simp [intOf]; omega
    ·obtain rfl:k=i+1:=by omega
     have gY:¬ ((i+1:Nat):Int)<=(i:Int):=by omega
     have J5:=U HP.u.row;go_wp2;go_roundw
     case rel=>exact ⟨i+1,_,_,_,_,by go_num,aS,RW,HT,K,km,J5⟩
     case measure=>simp [intOf]; omega
  ·obtain rfl:i=l.length:=by omega
   have yD:¬ (l.length:Int)<(l.length:Int):=by omega
   have p9:=U (km.u.done HG.u HP.u.1);go_wp2;exact bodyPost_ret (results_none rfl _ _ _) rfl (show ME _ _ _ _ _ _ _ _ _ from ⟨_,_,_,rfl,K.u,HT.u,km.u.ok,p9.u⟩)

theorem g_.shape {l:List Int} (h:g_ B W v l):∃ a c,v=.slice a l.length c:=Rg.cQ h.own
theorem g_.nil (B:Nat) (W:World):g_ B W (.slice none 0 0) []:=⟨World.ownsRow_nil _ _ _ _⟩
theorem g_.push {l:List Int} (h:g_ B W v l) (hB:B<=W.heap.size) (x:Int) (hn:l.length<1000000) (ty:TypeId) :
  ∃ a c X,(Builtin.append_ #[26,26] ty #[v,.slice (some ⟨W.heap.size,0,none⟩) 1 1]).run Tryz.prog (W.alloc (.cells #[.int .i64 x] 3))=.ok (.slice a (l.length+1) c) X/\g_ B X (.slice a (l.length+1) c) (l++[x])/\(∀ {B':Nat} {W0:World},B'<=B->Below B' W0 W->Below B' W0 X):=by
 have hb:BE W (W.alloc (.cells #[.int .i64 x] 3)):=(Below.refl _ _).alloc (Nat.le_refl _) _;obtain ⟨v',X,r1,r2,r3,r4,a,c,rfl⟩:=fe (P:=Tryz.prog) aQ ty (Rg.bP h.own hb) (Nat.le_trans hB hb.size) W.heap.size 1 (u:=.int .i64 x) (by rw [Rg.aW]; rfl) rfl hn;refine ⟨a,c,X,r1,⟨by rw [List.length_append,List.map_append]; exact r2⟩,fun {B' W0} JZ ky=>?_⟩;exact (ky.alloc (Nat.le_trans JZ hB) _).grown r3 (Nat.le_trans (Nat.le_trans JZ hB) hb.size) (fun j hj=>Nat.le_trans JZ ((Rg.bP h.own hb).lt j hj).1)
def eh (tr:Tr) (i p:Nat):List Nat:=(List.range p).filter fun q=>decide (i<=q) && (q == i || (tr i q).isSome)
def pW (n:Nat) (tr:Tr) (i:Nat):List Nat:=eh tr i n
theorem xW (tr:Tr) (i:Nat):eh tr i i=[]:=by
 unfold eh;rw [List.filter_eq_nil_iff];intro q hq;have:=List.mem_range.1 hq;simp; omega
theorem C9 {tr:Tr} {i p:Nat} (hi:i<=p) (h:p=i∨(tr i p).isSome=true):eh tr i (p+1)=eh tr i p++[p]:=by
 unfold eh;rw [List.range_succ,List.filter_append]
 have:(decide (i<=p) && (p == i || (tr i p).isSome))=true:=by
  rcases h with h | h
  ·simp [h]
  ·simp [hi,h]
 simp [this]
theorem Q_ {tr:Tr} {i p:Nat} (h:p≠i) (h2:tr i p=none):eh tr i (p+1)=eh tr i p:=by
 unfold eh;rw [List.range_succ,List.filter_append];simp [h,h2]
theorem rS (tr:Tr) (i p:Nat):(eh tr i p).length<=p:=by
 unfold eh
 have:=List.length_filter_le (fun q=>decide (i<=q) && (q == i || (tr i q).isSome)) (List.range p)
 simpa using this
theorem Oq {tr:Tr} {i p q:Nat}:q∈eh tr i p↔q<p/\i<=q/\(q=i∨(tr i q).isSome=true):=by
 unfold eh;rw [List.mem_filter,List.mem_range];simp
theorem Ot (tr:Tr) (i p:Nat):(eh tr i p).Pairwise (· < ·):=List.Pairwise.filter _ List.pairwise_lt_range
theorem C_ (l:List Nat) (x:Nat):Ma.ah (l++[x])=Ma.ah l++[(x:Int)]:=by simp [Ma.ah]
def G8 (w:World) (l:List Nat) (e:Ending) (w':World):Prop:=∃ v,e=.returned v/\g_ w.heap.size w' v (Ma.ah l)/\BE w w'
theorem tL (aU:1<=n) (aZ:n<=64) {w:World} {tr:Tr} {Rb:Nat->Nat} {V:Nat->Nat->Value} (hT:cy F tb tf n w tr Rb V) (eH:∀ i p u,tr i p=some u->Cm.Gd n u) {i:Nat} (hi:i<n) :
  Calls Tryz.prog 165 #[.slice (some ⟨tb,tf,none⟩) n tc,.int .i64 ((i:Nat):Int)] w (G8 w (pW n tr i)):=by
 have HT:=U hT;have HG:=U eH;have bN:=U hi;have CO:=U (hT.u i hi);have K:=U (bi w);have RO:=U (show g_ w.heap.size w (.slice none 0 0) (Ma.ah (eh tr i i)) by rw [xW]; exact g_.nil _ _)
 have Ra:(eh tr i i).length=0:=by rw [xW]; rfl
 clear hT eH
 go_enter Tryz.func165,Tryz.ntmps165
 go_wp2
 go_loopw [5,6] (fun tv qv wr=>∃ (q:Nat) (a:Option Addr) (c:Nat),qv=.int .i64 q/\tv=.slice a (eh tr i q).length c/\i<=q/\q<=n/\Hid (g_ w.heap.size wr tv (Ma.ah (eh tr i q)))/\Hid (BE w wr)) (fun _ qv _=>n - (intOf qv).toNat)
 case atStart=>exact ⟨i,_,_,rfl,by rw [Ra],Nat.le_refl _,Nat.le_of_lt bN.u,RO,K⟩
 case round =>
  clear RO K Ra;obtain ⟨q,ta,U3,rfl,rfl,hiq,hq,RO,K⟩:=hrel
  by_cases gP:q<n
  ·have QP:(q:Int)<(n:Int):=by omega
   have kY:=U gP;have CE:=U (CL.mk (show w.cell? ⟨Rb i,0+q,none⟩=some (V i q) by rw [Nat.zero_add]; exact HT.u.cell hi gP) (HT.u.lt hi));have G2:=U (show (Ma.ah (eh tr i q)).length<1000000 by rw [Ma.aB]; have:=rS tr i q; omega);have HPE:=U (Ma.aB (eh tr i q))
   by_cases uU:q=i
   ·have aaN:(q:Int)=(i:Int):=by omega
    have HE:=U (C9 (tr:=tr) hiq (.inl uU));go_upto_region 5 with fail;refine c6<|j7 rfl<|j7 rfl<|k8 (g8 (.bool true) .eql (h:=eM _ f7))<|k7 rfl ?_;go_frame;refine f9 18<|f9 19<|f9 20<|f9 21<|f9 22 ?_;go_frame;refine f9 23<|f9 24<|f9 25<|k8 (i8 (.bool true)) ?_;go_frame;go_upto_region 6 with fail;refine c6<|j8 rfl<|j7 rfl<|k8 (Rg.aF _ _ _ rfl (.int .i64 (q:Int)) rfl (jH wr _)) ?_;go_frame;obtain ⟨a9,c9,X9,r1,r2,r3⟩:=RO.u.push K.u.size (q:Int) G2.u 26;rw [HPE.u] at r1 r2;refine k8 (Rg.aT _ _ _ rfl rfl rfl r1)<|j8 rfl ?_;go_frame;have K2:=U (r3 (Nat.le_refl _) K.u);have tI:=U (show g_ w.heap.size X9 (.slice a9 ((eh tr i q).length+1) c9) (Ma.ah (eh tr i (q+1))) by rw [HE.u,C_]; exact r2);have Ef:=U (show (eh tr i (q+1)).length=(eh tr i q).length+1 by rw [HE.u,List.length_append]; rfl);clear r1 r2 r3;go_wp2;go_roundw
    case rel=>exact ⟨q+1,_,_,by go_num,by rw [Ef.u],by omega,kY.u,tI,K2⟩
    case measure=>simp [intOf]; have:=kY.u; omega
   ·have aaN:¬ (q:Int)=(i:Int):=by omega
    cases dJ:tr i q with
    | none =>
     have sP:=HT.u.none_ i q hi gP dJ;rw [sP] at CE;have HE:=U (Q_ uU dJ);clear sP dJ;go_upto_region 5 with fail;refine c6<|j7 rfl<|j7 rfl<|k8 (g8 (.bool false) .eql (h:=eM _ f8))<|k7 rfl ?_;go_frame;refine j8 rfl<|j7 rfl<|k8 (ag fN _ _ rfl tb (tf) (n) tc (i) rfl rfl bN.u)<|k8 (g7 (.slice (some ⟨(Rb i),0,none⟩) n n) ⟨tb,tf+i,none⟩ (Rg.ae _ _ Tryz.underlying41 ((Below.cell (p:=⟨tb,tf+i,none⟩) K.u CO.u.lt).trans CO.u.cell)))<|j7 rfl ?_;go_frame;refine k8 (ag aM _ _ rfl (Rb i) (0) (n) n (q) rfl rfl kY.u)<|k8 (g7 (.slice none 0 0) ⟨(Rb i),0+q,none⟩ (Rg.ae _ _ Tryz.underlying27 ((Below.cell (p:=⟨(Rb i),0+q,none⟩) K.u CE.u.lt).trans CE.u.cell)))<|k8 (xV _ _ rfl rfl rfl)<|k8 (i7 (.bool false)) ?_;go_frame;have tI:=U (show g_ w.heap.size wr (.slice ta (eh tr i q).length U3) (Ma.ah (eh tr i (q+1))) by rw [HE.u]; exact RO.u);have Ef:=U (show (eh tr i (q+1)).length=(eh tr i q).length by rw [HE.u]);go_wp2;go_roundw
     case rel=>exact ⟨q+1,_,_,by go_num,by rw [Ef.u],by omega,kY.u,tI,K⟩
     case measure=>simp [intOf]; have:=kY.u; omega
    | some u =>
     have gu:=HG.u i q u dJ;have tu:=HT.u.some_ i q u hi gP dJ;obtain ⟨ub,uo,uc,wW⟩:=tu.du gu aU;rw [wW] at CE;have HE:=U (C9 (tr:=tr) hiq (.inr (by rw [dJ]; rfl)));clear gu tu wW dJ;go_upto_region 5 with fail;refine c6<|j7 rfl<|j7 rfl<|k8 (g8 (.bool false) .eql (h:=eM _ f8))<|k7 rfl ?_;go_frame;refine j8 rfl<|j7 rfl<|k8 (ag fN _ _ rfl tb (tf) (n) tc (i) rfl rfl bN.u)<|k8 (g7 (.slice (some ⟨(Rb i),0,none⟩) n n) ⟨tb,tf+i,none⟩ (Rg.ae _ _ Tryz.underlying41 ((Below.cell (p:=⟨tb,tf+i,none⟩) K.u CO.u.lt).trans CO.u.cell)))<|j7 rfl ?_;go_frame;refine k8 (ag aM _ _ rfl (Rb i) (0) (n) n (q) rfl rfl kY.u)<|k8 (g7 (.slice (some ⟨ub,uo,none⟩) n uc) ⟨(Rb i),0+q,none⟩ (Rg.ae _ _ Tryz.underlying27 ((Below.cell (p:=⟨(Rb i),0+q,none⟩) K.u CE.u.lt).trans CE.u.cell)))<|k8 (xU _ _ rfl rfl rfl)<|k8 (i7 (.bool true)) ?_;go_frame;go_upto_region 6 with fail;refine c6<|j8 rfl<|j7 rfl<|k8 (Rg.aF _ _ _ rfl (.int .i64 (q:Int)) rfl (jH wr _)) ?_;go_frame;obtain ⟨a9,c9,X9,r1,r2,r3⟩:=RO.u.push K.u.size (q:Int) G2.u 26;rw [HPE.u] at r1 r2;refine k8 (Rg.aT _ _ _ rfl rfl rfl r1)<|j8 rfl ?_;go_frame;have K2:=U (r3 (Nat.le_refl _) K.u);have tI:=U (show g_ w.heap.size X9 (.slice a9 ((eh tr i q).length+1) c9) (Ma.ah (eh tr i (q+1))) by rw [HE.u,C_]; exact r2);have Ef:=U (show (eh tr i (q+1)).length=(eh tr i q).length+1 by rw [HE.u,List.length_append]; rfl);clear r1 r2 r3;go_wp2;go_roundw
     case rel=>exact ⟨q+1,_,_,by go_num,by rw [Ef.u],by omega,kY.u,tI,K2⟩
     case measure=>simp [intOf]; have:=kY.u; omega
  ·obtain rfl:q=n:=by omega
   have QP:¬ (q:Int)<(q:Int):=by omega
   go_wp2;go_ret;exact (show G8 _ _ _ _ from ⟨_,rfl,RO.u,K.u⟩)
end
end Go.Proofs.YtpedbljnhnoohaaGreat
