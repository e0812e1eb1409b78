/- Lemmas and contracts on the way to the statement; no condition of their own beyond those written. -/
import Derived.Test.YtpedbljnhnoohaaGreatXMatoCp
import Derived.RangeFuncBox
import Derived.RangeFuncLeaves
import Derived.Shelf.Abstract
import Derived.OwnWalkIn
import Derived.TacticsInMore
import Derived.LoopNIn
import Derived.LoopIn
set_option linter.unusedVariables false
set_option linter.unusedSimpArgs false
set_option maxRecDepth 100000
set_option maxHeartbeats 8000000
variable {n B N L D tc j tb base tf n₀ bytes:Nat} {v rv ov z v1 xv v2 yv u1 u2 cv tv:Go.Value} {W w' W' X w0:Go.World} {F M F' F0 Fk:Nat->Prop} {ll OO PS:List (List Int)} {O gs A:List (List Nat)} {R:List (List (List Nat))} {RR fQ:List (List (List Int))} {H:List Nat->Prop} {q:List Nat} {d ck:Int} {xs:List Go.Value} {xl l1 l2:List Int}
namespace Go.Proofs.YtpedbljnhnoohaaGreat
open Go.RowKit
open Go.Proofs
open Go.Proofs.Cm (Lv br cd)
attribute [local irreducible] Go.Calls
theorem Oj (args:Array Value) (w:World):(callFunc 118 args).run Tryz.prog w=.ok (.enter 118 args) w:=by kernel_rfl
theorem Ol (args:Array Value) (w:World):(callFunc 92 args).run Tryz.prog w=.ok (.enter 92 args) w:=by kernel_rfl
theorem iP {w:World} {e:TypeId} (h:w.ownsRow B e 1 v n xs) {k:Nat} (hk:k<n):∃ g c u,v=.slice (some ⟨g,0,none⟩) n c/\w.cell? ⟨g,0+k,none⟩=some u/\xs[k]?=some u/\g<w.heap.size:=by
 have hh:=h;obtain ⟨h1,h2⟩:=h
 rcases h2 with ⟨_,h0⟩ | ⟨g,cap,cur,rfl,hg,hc,h3,h4,h5,h6⟩
 ·omega
 ·have hx:k<xs.length:=by omega
  refine ⟨g,cap,xs[k],rfl,?_,List.getElem?_eq_getElem hx,(Array.getElem?_eq_some_iff.1 hc).1⟩;have:=hh.cells (g:=g) rfl k xs[k] (List.getElem?_eq_getElem hx);rw [Nat.zero_add];unfold Addr.add at this
  split at this
  ·rename_i h0; subst h0; exact this
  ·simpa using this
theorem aW.U0 {w:World} {T:br} {V:Nat->LV} (h:aW F L n w T V) {i k:Nat} (hi:i<n) (hk:k<(T i).orb.length):∃ g c,(V i).o=.slice (some ⟨g,0,none⟩) (T i).orb.length c/\w.cell? ⟨g,0+k,none⟩=some (.int .i64 (((T i).orb[k]:Nat):Int))/\g<w.heap.size:=by
 obtain ⟨g,c,u,e,h1,h2,h3⟩:=iP (h.lv i hi).rF hk;refine ⟨g,c,e,?_,h3⟩;rw [h1,<- h2];simp [Ma.ah,List.getElem?_eq_getElem hk]
theorem aW.oZ {w:World} {T:br} {V:Nat->LV} (h:aW F L n w T V) {i:Nat} (hi:i<n):∃ a c,(V i).o=.slice a (T i).orb.length c:=Rg.cZ (h.lv i hi).rF
theorem aW.U1 {w:World} {T:br} {V:Nat->LV} (h:aW F L n w T V) {i:Nat} (hi:i<n):∃ a c,(V i).g=.slice a (T i).gens.length c:=Rg.cZ (h.lv i hi).rE
theorem aW.Zs {w:World} {T:br} {V:Nat->LV} (h:aW F L n w T V) {i k:Nat} (hi:i<n) (hk:k<(T i).gens.length):∃ g c u,(V i).g=.slice (some ⟨g,0,none⟩) (T i).gens.length c/\w.cell? ⟨g,0+k,none⟩=some u/\FP F w u (T i).gens[k]/\g<w.heap.size:=by
 obtain ⟨g,c,u,e,h1,h2,h3⟩:=iP (h.lv i hi).rE hk;refine ⟨g,c,u,e,h1,?_,h3⟩;have yt:=(h.lv i hi).EB;obtain ⟨hku,rfl⟩:=List.getElem?_eq_some_iff.1 h2;have:=yt.2 k hku (by simpa using hk);simp only [List.getElem_map] at this;exact this
structure CL (w:World) (b o:Nat) (v:Value):Prop where
 cell:w.cell? ⟨b,o,none⟩=some v
 lt:b<w.heap.size
theorem CL.up {w:World} {b o:Nat} (h:CL w b o v) (hb:Below w.heap.size w w'):CL w' b o v:=⟨(hb.cell (p:=⟨b,o,none⟩) h.lt).trans h.cell,Nat.lt_of_lt_of_le h.lt hb.size⟩
theorem l_.next {T:br} {i k q:Nat} (h:Cm.l_ T i k) (hq:∃ h:k<(T i).orb.length,(T i).orb[k]=q) (ht:(T i).tried q=(T i).gens.length):Cm.l_ T i (k+1):=fun m hm gP=>by
 by_cases e:m=k
 ·subst e
  obtain ⟨_,e⟩:=hq;rw [e]; exact ht
 ·exact h m hm (by omega)
open Go.Proofs.Cm in
def xU (n i:Nat):Prop:=∀ (F:Nat->Prop) (L tb:Nat) (w:World) (T:br) (V:Nat->LV),aW F L n w T V->CF F w tb 0 (.int .i64 ((n:Nat):Int))->CF F w tb 1 (.slice (some ⟨L,0,none⟩) n n)->(∀ j,i<j->j<n->Full n T j)->fJ n T i->(T i).gens.length<=5000 ->
 Calls Tryz.prog 121 #[.pointer (some ⟨tb,0,none⟩),.int .i64 ((i:Nat):Int)] w fun e w'=>∃ F' T' V',e=.returned (.tuple #[])/\KG F w F' w'/\aW F' L n w' T' V'/\jV n i T T'/\Aj T' i
open Go.Proofs.Cm in
def Om (n i:Nat):Prop:=∀ (F:Nat->Prop) (L tb:Nat) (w:World) (T:br) (V:Nat->LV) (xv:Value) (x:List Nat),aW F L n w T V->CF F w tb 0 (.int .i64 ((n:Nat):Int))->CF F w tb 1 (.slice (some ⟨L,0,none⟩) n n)->FP F w xv x->Gd n x->Fx i x->(∀ j,i<=j->j<n->Full n T j) ->
 Calls Tryz.prog 92 #[.pointer (some ⟨tb,0,none⟩),xv,.int .i64 ((i:Nat):Int)] w fun e w'=>∃ F' T' V',e=.returned (.tuple #[])/\KG F w F' w'/\aW F' L n w' T' V'/\vy n i T T' x
open Go.Proofs.Cm in
theorem Il {i:Nat} (aR:1<=n) (aX:n<=64) (aP:i<n) (U2:i+1<n->Om n (i+1)):xU n i:=by
 intro F L tb w T V hT cC cz rZ VJ ke;have K:=U (KG.refl hT.gI);have HT:=U hT;have C0:=U cC;have C1:=U cz;have HI:=U (jV.refl VJ rZ);have HD:=U (show l_ T i 0 from fun m _ h=>absurd h (Nat.not_lt_zero _));have On:=U U2;have HG:=U ke;have Im:=U (nx VJ);clear hT cC cz rZ VJ U2 ke
 go_enter Tryz.func121,Tryz.ntmps121
 go_upto_region 0 with fail
 refine b6<|j8 rfl<|k5 (aZ _ rfl rfl)<|k5 (j0 (kc _ _))<|k5 (g7 (.slice (some ⟨L,0,none⟩) n n) ⟨tb,1,none⟩ (Rg.ae _ _ Tryz.underlying135 C1.u.cell)) ?_;go_frame
 refine j6 rfl<|k5 (bh _ _ rfl Tryz.underlying135 gS L (n) (n) (i) rfl rfl aP)<|j8 rfl ?_;go_frame
 have mL:=HT.u.oZ aP;obtain ⟨oa0,oc0,mL⟩:=mL
 have Oo:w.cell? ⟨L,i*194+1,none⟩=some (.slice oa0 (T i).orb.length oc0):=by rw [wK HT.u aP (by omega),mL]
 have MC:((T i).orb.length:Int)<=64:=by have:=Im.u; omega
 clear mL;go_wp2
 go_loopw [5] (fun kv wr=>∃ (k:Nat) (F1:Nat->Prop) (T1:br) (V1:Nat->LV),kv=.int .i64 k/\k<=(T1 i).orb.length/\Hid (aW F1 L n wr T1 V1)/\Hid (CF F1 wr tb 0 (.int .i64 ((n:Nat):Int)))/\Hid (CF F1 wr tb 1 (.slice (some ⟨L,0,none⟩) n n))/\Hid (KG F w F1 wr)/\Hid (jV n i T T1)/\Hid (l_ T1 i k)) (fun kv _=>n - (intOf kv).toNat)
 case atStart=>exact ⟨0,F,T,V,rfl,Nat.zero_le _,HT,C0,C1,K,HI,HD⟩
 case round =>
  clear HT C0 C1 K HI HD Oo MC;obtain ⟨k,F1,T1,V,rfl,hk,HT,C0,C1,K,HI,HD⟩:=hrel;have fT:=nx HI.u.lvl
  have MC:((T1 i).orb.length:Int)<=64:=by omega
  by_cases bZ:k<(T1 i).orb.length
  ·obtain ⟨ob,oc,mL,nC,r7⟩:=HT.u.U0 aP bZ
   have Oo:wr.cell? ⟨L,i*194+1,none⟩=some (.slice (some ⟨ob,0,none⟩) (T1 i).orb.length oc):=by rw [wK HT.u aP (by omega),mL]
   have iC:(k:Int)<((T1 i).orb.length:Int):=by omega
   obtain ⟨q,hq⟩:∃ q:Nat,Hid (q=(T1 i).orb[k]):=⟨_,U rfl⟩;have a_:=U bZ;have U3:=U (show wr.cell? ⟨ob,0+k,none⟩=some (.int .i64 ((q:Nat):Int)) by rw [hq.u]; exact nC);have r8:=U Oo;clear mL nC r7;go_upto_region 4 with fail
   refine b6<|j8 rfl<|k5 (aZ _ rfl rfl)<|k5 (j0 (Bn _ _ _))<|k5 (g7 (.slice (some ⟨ob,0,none⟩) (T1 i).orb.length oc) ⟨L,i*194+1,none⟩ (Rg.ae _ _ Tryz.underlying26 r8.u)) ?_;go_frame
   refine j6 rfl<|k5 (ag aO _ _ rfl ob (0) ((T1 i).orb.length) oc (k) rfl rfl a_.u)<|k5 (g7 (.int .i64 ((q:Nat):Int)) ⟨ob,0+k,none⟩ (af U3.u))<|j6 rfl ?_;go_frame
   have Oq:=U (show q∈(T1 i).orb by rw [hq.u]; exact List.getElem_mem a_.u);obtain ⟨uq,kW⟩:=(HI.u.lvl.orb q).1 Oq.u;have fZ:q<n:=HI.u.lvl.Cs q uq kW;have HUQ:=U kW;have EJ:=U (show ∃ h:k<(T1 i).orb.length,(T1 i).orb[k]=q from ⟨a_.u,hq.u.symm⟩);have Io:=U (Ext.refl T1);have hle:=HI.u.lvl.le q;have vA:=U (show ((T1 i).gens.length - (T1 i).tried q)+(T1 i).tried q=(T1 i).gens.length by omega);clear kW Oo hle U3 hq Oq iC fT MC r8
   have jU:q<64:=by omega
   go_wp2;simp only [Nat.zero_add]
   go_loopg [] ((T1 i).gens.length - (T1 i).tried q) (fun g wr=>∃ (F2:Nat->Prop) (T2:br) (V2:Nat->LV),Hid (g+(T2 i).tried q=(T2 i).gens.length)/\Hid (aW F2 L n wr T2 V2)/\Hid (CF F2 wr tb 0 (.int .i64 ((n:Nat):Int)))/\Hid (CF F2 wr tb 1 (.slice (some ⟨L,0,none⟩) n n))/\Hid (KG F w F2 wr)/\Hid (jV n i T T2)/\Hid (l_ T2 i k)/\Hid (∃ h:k<(T2 i).orb.length,(T2 i).orb[k]=q)/\Hid (Ext T1 T2))
   case atStart=>exact ⟨F1,T1,V,vA,HT,C0,C1,K,HI,HD,EJ,Io⟩
   case round =>
    clear HT C0 C1 K HI HD EJ Io vA a_;obtain ⟨F2,T2,V2,HN,HT,C0,C1,K,HI,HD,EJ,Io⟩:=hrel;obtain ⟨tr,dE⟩:∃ tr:Nat,Hid (tr=(T2 i).tried q):=⟨_,U rfl⟩;obtain ⟨gn,Ak⟩:∃ gn:Nat,Hid (gn=(T2 i).gens.length):=⟨_,U rfl⟩
    have Zt:gk+tr=gn:=by rw [dE.u,Ak.u]; exact HN.u
    have aaS:gn<=5000:=by rw [Ak.u,HI.u.gens]; exact HG.u
    have CT:=U (CL.mk (show wr.cell? ⟨L,i*194+130+q,none⟩=some (.int .i64 ((tr:Nat):Int)) by rw [Mx HT.u aP jU (by omega),<- dE.u]) HT.u.lt);obtain ⟨ga,gc,EK⟩:=HT.u.U1 aP;have CG:=U (CL.mk (show wr.cell? ⟨L,i*194,none⟩=some (.slice ga gn gc) by rw [Od HT.u aP rfl,EK,Ak.u]) HT.u.lt);have fT:=nx HI.u.lvl
    by_cases tH:gk=0
    ·clear EK
     go_upto_region 5 with fail;have aj:Below wr.heap.size wr wr.drew:=(Below.refl _ _).drew;replace HT:=U (HT.u.up aj);replace C0:=U (C0.u.up aj);replace C1:=U (C1.u.up aj);replace CT:=U (CT.u.up aj);replace CG:=U (CG.u.up aj);replace K:=U (K.u.up aj);generalize cB F2 wr wr.drew=F1 at *;clear aj;refine Rg.Any.begin (S:=Rg.aG 11 (fun _=>True) (fun W=>Below wr.drew.heap.size wr.drew W)) mix ?_;generalize wr.drew=dh at *;have hS:∀ (l:Array Bool) W,Below dh.heap.size dh W->Rg.aG 11 (fun _=>True) (fun W=>Below dh.heap.size dh W) l W:=fun l W h=>⟨.inr trivial,h⟩;have hI:Below dh.heap.size dh dh:=Below.refl _ _
     refine d8 0 11 (.pointer (some ⟨L,i*194,none⟩)) 32 (hS _ _ hI)<|d8 1 11 (.int .i64 ((q:Nat):Int)) 33 (hS _ _ hI)<|d7 2 11 (.pointer (some ⟨L,i*194,none⟩)) 34 rfl rfl (i9 fun w=>aZ _ rfl rfl) (hS _ _ hI)<|d7 3 11 (.pointer (some ⟨L,i*194+130,none⟩)) 35 rfl rfl (i9 fun w=>aA _ rfl rfl (ED _ _ _)) (hS _ _ hI)<|d7 4 11 (.pointer (some ⟨L,i*194+130+q,none⟩)) 36 rfl rfl (i9 fun w=>bz _ _ rfl Tryz.underlying143 N6 L (i*194+130) (q) rfl rfl jU) (hS _ _ hI) ?_;go_frame
     refine d7 5 11 (.int .i64 ((tr:Nat):Int)) 37 rfl rfl (i8 ⟨L,i*194+130+q,none⟩ (fun W hW=>af ((Below.cell (p:=⟨L,i*194+130+q,none⟩) hW CT.u.lt).trans CT.u.cell))) (hS _ _ hI)<|d8 6 11 (.pointer (some ⟨L,i*194,none⟩)) 38 (hS _ _ hI)<|d7 7 11 (.pointer (some ⟨L,i*194,none⟩)) 39 rfl rfl (i9 fun w=>aZ _ rfl rfl) (hS _ _ hI)<|d7 8 11 (.pointer (some ⟨L,i*194,none⟩)) 40 rfl rfl (i9 fun w=>aA _ rfl rfl (EC _ _ _)) (hS _ _ hI)<|d7 9 11 (.slice ga gn gc) 41 rfl rfl (i8 ⟨L,i*194,none⟩ (fun W hW=>Rg.ae _ _ Tryz.underlying41 ((Below.cell (p:=⟨L,i*194,none⟩) hW CG.u.lt).trans CG.u.cell))) (hS _ _ hI) ?_;go_frame
     refine d7 10 11 (.int .i64 ((gn:Nat):Int)) 42 rfl rfl (i9 fun w=>dU _ _ _ rfl Tryz.underlying41 _ _ _ rfl) (hS _ _ hI)<|i7 11 43 rfl rfl (g8 (.bool false) .lss (h:=aH _ f8)) (hS _ _ hI) ?_;go_frame
     refine Rg.Any.done (by kernel_rfl) ?_ _;clear hS hI;have VK:=U (l_.next HD.u EJ.u (by rw [<- dE.u,<- Ak.u]; omega));obtain ⟨Zu,Bp⟩:=EJ.u;go_wp2
     go_roundw
     case rel=>exact ⟨k+1,_,T2,V2,by go_num,Zu,HT,C0,C1,K,HI,VK⟩
     case measure=>simp [intOf]; omega
    ·obtain ⟨gb,gc',u,U4,Ah,S_,ke⟩:=HT.u.Zs aP (k:=tr) (by have:=Ak.u; omega)
     rw [EK,<- Ak.u] at U4
     injection U4 with e1 _ e2
     subst e1 e2;have Ot:=U (show tr<gn by omega);obtain ⟨s,hs⟩:∃ s,Hid (∃ h:tr<(T2 i).gens.length,(T2 i).gens[tr]=s):=⟨_,U ⟨by rw [<- Ak.u]; omega,rfl⟩⟩;obtain ⟨mH,jm⟩:=hs.u;have Mq:=U (show s∈(T2 i).gens by rw [<- jm]; exact List.getElem_mem mH);have GS:=U (HI.u.lvl.Ai s Mq.u);rw [jm] at S_;obtain ⟨sb,so,sc,rfl⟩:=S_.dp GS.u aR;have SP:=U S_;have CS:=U (CL.mk Ah ke);have Ta:=Io.u.rep i q uq HUQ.u;have Ou:=U Ta;have GU:=U (HI.u.lvl.yg q uq Ta)
     have U5:Cm.ap (Ma.ak uq s) i=Cm.ap s q:=by rw [Cm.bM GU.u aP,HI.u.lvl.Cr q uq Ta]
     have GY:=U (Cm.bf GU.u GS.u);obtain ⟨p,hp⟩:∃ p,Hid (p=Cm.ap s q):=⟨_,U rfl⟩;have Zv:=U (show Cm.ap (Ma.ak uq s) i=p by rw [hp.u]; exact U5)
     have Ip:p<n:=by rw [<- Zv.u]; exact Cm.cM GY.u aP
     have jW:p<64:=by omega
     have HGT:=U Zt;have MD:=U tH;clear EK Ah S_ ke mH jm Ta U5 Zt tH
     have hkT:(tr:Int)<(gn:Int):=by have:=Ot.u; omega
     go_upto_region 5 with fail;have aj:Below wr.heap.size wr wr.drew:=(Below.refl _ _).drew;replace HT:=U (HT.u.up aj);replace C0:=U (C0.u.up aj);replace C1:=U (C1.u.up aj);replace CT:=U (CT.u.up aj);replace CG:=U (CG.u.up aj);replace CS:=U (CS.u.up aj);replace SP:=U (SP.u.up aj);replace K:=U (K.u.up aj);generalize cB F2 wr wr.drew=F1 at *;clear aj;refine Rg.Any.begin (S:=Rg.aG 11 (fun _=>True) (fun W=>Below wr.drew.heap.size wr.drew W)) mix ?_;generalize wr.drew=dh at *;have hS:∀ (l:Array Bool) W,Below dh.heap.size dh W->Rg.aG 11 (fun _=>True) (fun W=>Below dh.heap.size dh W) l W:=fun l W h=>⟨.inr trivial,h⟩;have hI:Below dh.heap.size dh dh:=Below.refl _ _
     refine d8 0 11 (.pointer (some ⟨L,i*194,none⟩)) 32 (hS _ _ hI)<|d8 1 11 (.int .i64 ((q:Nat):Int)) 33 (hS _ _ hI)<|d7 2 11 (.pointer (some ⟨L,i*194,none⟩)) 34 rfl rfl (i9 fun w=>aZ _ rfl rfl) (hS _ _ hI)<|d7 3 11 (.pointer (some ⟨L,i*194+130,none⟩)) 35 rfl rfl (i9 fun w=>aA _ rfl rfl (ED _ _ _)) (hS _ _ hI)<|d7 4 11 (.pointer (some ⟨L,i*194+130+q,none⟩)) 36 rfl rfl (i9 fun w=>bz _ _ rfl Tryz.underlying143 N6 L (i*194+130) (q) rfl rfl jU) (hS _ _ hI) ?_;go_frame
     refine d7 5 11 (.int .i64 ((tr:Nat):Int)) 37 rfl rfl (i8 ⟨L,i*194+130+q,none⟩ (fun W hW=>af ((Below.cell (p:=⟨L,i*194+130+q,none⟩) hW CT.u.lt).trans CT.u.cell))) (hS _ _ hI)<|d8 6 11 (.pointer (some ⟨L,i*194,none⟩)) 38 (hS _ _ hI)<|d7 7 11 (.pointer (some ⟨L,i*194,none⟩)) 39 rfl rfl (i9 fun w=>aZ _ rfl rfl) (hS _ _ hI)<|d7 8 11 (.pointer (some ⟨L,i*194,none⟩)) 40 rfl rfl (i9 fun w=>aA _ rfl rfl (EC _ _ _)) (hS _ _ hI)<|d7 9 11 (.slice (some ⟨gb,0,none⟩) gn gc) 41 rfl rfl (i8 ⟨L,i*194,none⟩ (fun W hW=>Rg.ae _ _ Tryz.underlying41 ((Below.cell (p:=⟨L,i*194,none⟩) hW CG.u.lt).trans CG.u.cell))) (hS _ _ hI) ?_;go_frame
     refine d7 10 11 (.int .i64 ((gn:Nat):Int)) 42 rfl rfl (i9 fun w=>dU _ _ _ rfl Tryz.underlying41 _ _ _ rfl) (hS _ _ hI)<|i7 11 43 rfl rfl (g8 (.bool true) .lss (h:=aH _ f7)) (hS _ _ hI) ?_;go_frame
     refine Rg.Any.done (by kernel_rfl) ?_ _;clear hS hI;go_upto_region 6 with fail;have aj:Below dh.heap.size dh dh.drew:=(Below.refl _ _).drew;replace HT:=U (HT.u.up aj);replace C0:=U (C0.u.up aj);replace C1:=U (C1.u.up aj);replace CT:=U (CT.u.up aj);replace CG:=U (CG.u.up aj);replace CS:=U (CS.u.up aj);replace SP:=U (SP.u.up aj);replace K:=U (K.u.up aj);generalize cB F1 dh dh.drew=F2 at *;clear aj;refine Rg.Any.begin (S:=Rg.aG 12 (fun _=>True) (fun W=>Below dh.drew.heap.size dh.drew W)) mix ?_;generalize dh.drew=jn at *;have hS:∀ (l:Array Bool) W,Below jn.heap.size jn W->Rg.aG 12 (fun _=>True) (fun W=>Below jn.heap.size jn W) l W:=fun l W h=>⟨.inr trivial,h⟩;have hI:Below jn.heap.size jn jn:=Below.refl _ _
     refine d8 0 12 (.pointer (some ⟨L,i*194,none⟩)) 44 (hS _ _ hI)<|d7 1 12 (.pointer (some ⟨L,i*194,none⟩)) 45 rfl rfl (i9 fun w=>aZ _ rfl rfl) (hS _ _ hI)<|d7 2 12 (.pointer (some ⟨L,i*194,none⟩)) 46 rfl rfl (i9 fun w=>aA _ rfl rfl (EC _ _ _)) (hS _ _ hI)<|d7 3 12 (.slice (some ⟨gb,0,none⟩) gn gc) 47 rfl rfl (i8 ⟨L,i*194,none⟩ (fun W hW=>Rg.ae _ _ Tryz.underlying41 ((Below.cell (p:=⟨L,i*194,none⟩) hW CG.u.lt).trans CG.u.cell))) (hS _ _ hI)<|d8 4 12 (.pointer (some ⟨L,i*194,none⟩)) 48 (hS _ _ hI) ?_;go_frame
     refine d8 5 12 (.int .i64 ((q:Nat):Int)) 49 (hS _ _ hI)<|d7 6 12 (.pointer (some ⟨L,i*194,none⟩)) 50 rfl rfl (i9 fun w=>aZ _ rfl rfl) (hS _ _ hI)<|d7 7 12 (.pointer (some ⟨L,i*194+130,none⟩)) 51 rfl rfl (i9 fun w=>aA _ rfl rfl (ED _ _ _)) (hS _ _ hI)<|d7 8 12 (.pointer (some ⟨L,i*194+130+q,none⟩)) 52 rfl rfl (i9 fun w=>bz _ _ rfl Tryz.underlying143 N6 L (i*194+130) (q) rfl rfl jU) (hS _ _ hI)<|d7 9 12 (.int .i64 ((tr:Nat):Int)) 53 rfl rfl (i8 ⟨L,i*194+130+q,none⟩ (fun W hW=>af ((Below.cell (p:=⟨L,i*194+130+q,none⟩) hW CT.u.lt).trans CT.u.cell))) (hS _ _ hI) ?_;go_frame
     refine d7 10 12 (.pointer (some ⟨gb,0+tr,none⟩)) 54 rfl rfl (Rg.ai aK _ _ rfl rfl gb (0) (gn) gc (tr) rfl rfl Ot.u) (hS _ _ hI)<|d7 11 12 (.slice (some ⟨sb,so,none⟩) n sc) 55 rfl rfl (i8 ⟨gb,0+tr,none⟩ (fun W hW=>Rg.ae _ _ Tryz.underlying27 ((Below.cell (p:=⟨gb,0+tr,none⟩) hW CS.u.lt).trans CS.u.cell))) (hS _ _ hI)<|i7 12 7 rfl rfl (b5 (.slice (some ⟨sb,so,none⟩) n sc) _ rfl rfl) (hS _ _ hI) ?_;go_frame
     refine Rg.Any.done (by kernel_rfl) ?_ _;clear hS hI;go_upto_region 7 with fail;have aj:Below jn.heap.size jn jn.drew:=(Below.refl _ _).drew;replace HT:=U (HT.u.up aj);replace C0:=U (C0.u.up aj);replace C1:=U (C1.u.up aj);replace CT:=U (CT.u.up aj);replace CG:=U (CG.u.up aj);replace CS:=U (CS.u.up aj);replace SP:=U (SP.u.up aj);replace K:=U (K.u.up aj);generalize cB F2 jn jn.drew=F3 at *;clear aj;refine Rg.Any.begin (S:=Rg.aG 10 (fun W=>Below jn.drew.heap.size jn.drew W) (fun _=>True)) mix ?_;generalize jn.drew=q7 at *;have hS:∀ (l:Array Bool) W,Below q7.heap.size q7 W->Rg.aG 10 (fun W=>Below q7.heap.size q7 W) (fun _=>True) l W:=fun l W h=>⟨.inr h,trivial⟩;have cT:∀ (l:Array Bool) W,l.getD 10 false=true->Rg.aG 10 (fun W=>Below q7.heap.size q7 W) (fun _=>True) l W:=fun l W h=>⟨.inl h,trivial⟩
     have hI:Below q7.heap.size q7 q7:=Below.refl _ _
     refine d8 0 10 (.pointer (some ⟨L,i*194,none⟩)) 56 (hS _ _ hI)<|d8 1 10 (.int .i64 ((q:Nat):Int)) 57 (hS _ _ hI)<|d7 2 10 (.pointer (some ⟨L,i*194,none⟩)) 58 rfl rfl (i9 fun w=>aZ _ rfl rfl) (hS _ _ hI)<|d7 3 10 (.pointer (some ⟨L,i*194+130,none⟩)) 59 rfl rfl (i9 fun w=>aA _ rfl rfl (ED _ _ _)) (hS _ _ hI)<|d7 4 10 (.pointer (some ⟨L,i*194+130+q,none⟩)) 60 rfl rfl (i9 fun w=>bz _ _ rfl Tryz.underlying143 N6 L (i*194+130) (q) rfl rfl jU) (hS _ _ hI) ?_;go_frame
     refine i6 5 10 (.int .i64 ((tr:Nat):Int)) 61 rfl rfl (i8 ⟨L,i*194+130+q,none⟩ (fun W hW=>af ((Below.cell (p:=⟨L,i*194+130+q,none⟩) hW CT.u.lt).trans CT.u.cell))) (hS _ _ hI)<|d7 6 10 (.int .i64 (((tr+1):Nat):Int)) 62 rfl rfl (i9 fun w=>bY (R:=.int .i64 (((tr+1):Nat):Int)) .add _ _ _ rfl rfl rfl (bQ _ (by omega) (by omega))) (hS _ _ hI)<|d7 7 10 (.pointer (some ⟨L,i*194,none⟩)) 63 rfl rfl (i9 fun w=>aZ _ rfl rfl) (hS _ _ hI)<|d7 8 10 (.pointer (some ⟨L,i*194+130,none⟩)) 64 rfl rfl (i9 fun w=>aA _ rfl rfl (ED _ _ _)) (hS _ _ hI)<|d7 9 10 (.pointer (some ⟨L,i*194+130+q,none⟩)) 65 rfl rfl (i9 fun w=>bz _ _ rfl Tryz.underlying143 N6 L (i*194+130) (q) rfl rfl jU) (hS _ _ hI) ?_;go_frame
     refine Rg.Any.one (i:=10) (by kernel_rfl) (Rg.Any.dR none rfl rfl rfl (Rg.aq _ _ _ rfl _ rfl _ rfl (dN _ CT.u.cell (HT.u.frozen _))) (cT _ _ rfl) ?_);go_frame;have Zw:=HT.u.tick aP jU (o:=i*194+130+q) (by omega);rw [<- dE.u] at Zw;refine Rg.Any.done (by kernel_rfl) ?_ _;clear cT;clear hS hI;obtain ⟨Zx,jz⟩:=Zw;have ee:=KG.yn (KG.refl HT.u.gI) jz;generalize q7.setCell ⟨L,i*194+130+q,none⟩ (.int .i64 ((tr+1:Nat):Int))=ME at *;replace HT:=U Zx;replace C0:=U (C0.u.kg ee);replace C1:=U (C1.u.kg ee);replace SP:=U (SP.u.kg ee);replace K:=U (K.u.trans ee);clear ee jz Zx CT CG CS
     have U6:Cm.cd (Cm.tick T2 i q) i q=some uq:=by show (Cm.tick T2 i q i).rep q=some uq; rw [Cm.dZ]; exact Ou.u
     obtain ⟨ub,uo,uc,EL,EM⟩:=HT.u.S8 aP jU U6 GU.u aR;have UP:=U EM;have CU:=U (CL.mk (show ME.cell? ⟨L,i*194+2+q,none⟩=some (.slice (some ⟨ub,uo,none⟩) n uc) by rw [rX HT.u aP jU (by omega),EL]) HT.u.lt);clear U6 EL EM;go_upto_region 8 with fail
     refine b6<|j8 rfl<|j6 rfl<|k5 (aZ _ rfl rfl)<|k5 (j0 (wM _ _ _)) ?_;go_frame
     refine k5 (bz _ _ rfl Tryz.underlying142 tI L (i*194+2) (q) rfl rfl jU)<|k5 (g7 (.slice (some ⟨ub,uo,none⟩) n uc) ⟨L,i*194+2+q,none⟩ (Rg.ae _ _ Tryz.underlying27 CU.u.cell))<|j7 rfl ?_;go_frame
     refine f3 73 (aC 117 _ _ _ rfl rfl rfl (yr _ _)) ?_;refine (tM UP.u SP.u GU.u GS.u aR aX).mono ?_;rintro e1 eS ⟨yv,rfl,Tb,hb⟩;obtain ⟨yb,yo,yc,rfl⟩:=Tb.dp GY.u aR;refine ⟨_,rfl,?_⟩;go_frame;replace HT:=U (HT.u.up hb);replace C0:=U (C0.u.up hb);replace C1:=U (C1.u.up hb);replace SP:=U (SP.u.up hb);replace UP:=U (UP.u.up hb);replace CU:=U (CU.u.up hb);replace K:=U (K.u.up hb);have YF:=U Tb;have CY:=U (show CF _ _ yb (yo+i) (.int .i64 ((p:Nat):Int)) by rw [<- Zv.u]; exact Tb.ap GY.u aP);generalize cB F3 ME eS=F4 at *;clear hb;refine j7 rfl ?_;go_frame;clear Tb;go_upto_region 9 with fail
     refine b6<|j7 rfl<|j6 rfl<|k5 (ag bB _ _ rfl yb (yo) (n) yc (i) rfl rfl aP)<|k5 (g7 (.int .i64 ((p:Nat):Int)) ⟨yb,yo+i,none⟩ (af CY.u.cell)) ?_;go_frame
     refine j6 rfl ?_;go_frame
     cases Iq:(T2 i).rep p with
     | none =>
      have mJ:(Cm.tick T2 i q i).rep p=none:=by rw [Cm.dZ]; exact Iq
      have Zy:=((HT.u.lv i aP).none_ p jW mJ).1;have CP:=U (CL.mk (show eS.cell? ⟨L,i*194+2+p,none⟩=some (.slice none 0 0) by rw [rX HT.u aP jW (by omega),Zy]) HT.u.lt);have EN:=U Iq;clear mJ Zy Iq CU SP UP;go_upto_region 10 with fail
      refine b6<|j8 rfl<|j6 rfl<|k5 (aZ _ rfl rfl)<|k5 (j0 (wM _ _ _)) ?_;go_frame
      refine k5 (bz _ _ rfl Tryz.underlying142 tI L (i*194+2) (p) rfl rfl jW)<|k5 (g7 (.slice none 0 0) ⟨L,i*194+2+p,none⟩ (Rg.ae _ _ Tryz.underlying27 CP.u.cell))<|k5 (rY _ _ rfl rfl rfl) ?_;go_frame
      clear CP;go_upto_region 11 with fail;have aj:Below eS.heap.size eS eS.drew:=(Below.refl _ _).drew;replace HT:=U (HT.u.up aj);replace C0:=U (C0.u.up aj);replace C1:=U (C1.u.up aj);replace YF:=U (YF.u.up aj);replace K:=U (K.u.up aj);generalize cB F4 eS eS.drew=F5 at *;clear aj;refine Rg.Any.begin (S:=Rg.aG 10 (fun W=>Below eS.drew.heap.size eS.drew W) (fun _=>True)) mix ?_;generalize eS.drew=lu at *;have hS:∀ (l:Array Bool) W,Below lu.heap.size lu W->Rg.aG 10 (fun W=>Below lu.heap.size lu W) (fun _=>True) l W:=fun l W h=>⟨.inr h,trivial⟩;have cT:∀ (l:Array Bool) W,l.getD 10 false=true->Rg.aG 10 (fun W=>Below lu.heap.size lu W) (fun _=>True) l W:=fun l W h=>⟨.inl h,trivial⟩;have hI:Below lu.heap.size lu lu:=Below.refl _ _
      refine d8 0 10 (.pointer (some ⟨L,i*194,none⟩)) 85 (hS _ _ hI)<|d8 1 10 (.int .i64 ((p:Nat):Int)) 86 (hS _ _ hI)<|d8 2 10 (.pointer (some ⟨L,i*194,none⟩)) 87 (hS _ _ hI)<|d8 3 10 (.int .i64 ((p:Nat):Int)) 88 (hS _ _ hI)<|d8 4 10 (.slice (some ⟨yb,yo,none⟩) n yc) 89 (hS _ _ hI) ?_;go_frame
      refine d8 5 10 (.slice (some ⟨yb,yo,none⟩) n yc) 90 (hS _ _ hI)<|d7 7 10 (.pointer (some ⟨L,i*194,none⟩)) 92 rfl rfl (i9 fun w=>aZ _ rfl rfl) (hS _ _ hI)<|d7 8 10 (.pointer (some ⟨L,i*194+2,none⟩)) 93 rfl rfl (i9 fun w=>aA _ rfl rfl (wM _ _ _)) (hS _ _ hI)<|d7 11 10 (.pointer (some ⟨L,i*194,none⟩)) 95 rfl rfl (i9 fun w=>aZ _ rfl rfl) (hS _ _ hI)<|d7 12 10 (.pointer (some ⟨L,i*194+66,none⟩)) 96 rfl rfl (i9 fun w=>aA _ rfl rfl (Bo _ _ _)) (hS _ _ hI) ?_;go_frame
      refine Rg.Any.one (i:=6) (by kernel_rfl) (Rg.Any.ask (some 91) rfl rfl rfl _ _ (ax 118 _ _ rfl rfl (Oj _ _)) ?_);refine (Of YF.u GY.u aR aX).mono ?_;rintro e1 xD ⟨iv,rfl,po,hb⟩;obtain ⟨jb,jo,jc,rfl⟩:=po.dp (Cm.aQ GY.u) aR;have jA:=Rg.acc hI hb;clear hI;replace HT:=U (HT.u.up hb);replace C0:=U (C0.u.up hb);replace C1:=U (C1.u.up hb);replace YF:=U (YF.u.up hb);replace K:=U (K.u.up hb);have IF:=U po;generalize cB F5 lu xD=F6 at *;clear hb;refine ⟨_,rfl,(hS _ _ jA),?_⟩;go_frame;refine d7 9 10 (.pointer (some ⟨L,i*194+2+p,none⟩)) 94 rfl rfl (i9 fun w=>bz _ _ rfl Tryz.underlying142 tI L (i*194+2) (p) rfl rfl jW) (hS _ _ jA) ?_;go_frame;refine Rg.Any.one (i:=10) (by kernel_rfl) (Rg.Any.dR none rfl rfl rfl (Rg.aq _ _ _ rfl _ rfl _ rfl (Rg.bA _ cR (rX HT.u aP jW (by omega)) (HT.u.frozen _))) (cT _ _ rfl) ?_)
      go_frame;refine d7 13 10 (.pointer (some ⟨L,i*194+66+p,none⟩)) 97 rfl rfl (i9 fun w=>bz _ _ rfl Tryz.underlying142 tI L (i*194+66) (p) rfl rfl jW) (cT _ _ rfl) ?_;go_frame;have cp:=HT.u.row.set (i*194+2+p) (.slice (some ⟨yb,yo,none⟩) n yc);refine Rg.Any.one (i:=14) (by kernel_rfl) (Rg.Any.dR none rfl rfl rfl (Rg.aq _ _ _ rfl _ rfl _ rfl (Rg.bA _ cR (cp.cell (by omega)) (cp.frozen _))) (cT _ _ rfl) ?_);go_frame;clear cp;refine Rg.Any.done (by kernel_rfl) ?_ _;clear cT;clear hS jA;obtain ⟨V4,Ir,Ov⟩:=HT.u.jy aP jW (o1:=i*194+2+p) (o2:=i*194+66+p) (by omega) (by omega) YF.u IF.u;have ee:=KG.yn (KG.refl HT.u.gI) Ov;generalize (xD.setCell ⟨L,i*194+2+p,none⟩ (.slice (some ⟨yb,yo,none⟩) n yc)).setCell ⟨L,i*194+66+p,none⟩ (.slice (some ⟨jb,jo,none⟩) n jc)=VL at *
      replace C0:=U (C0.u.kg ee);replace C1:=U (C1.u.kg ee);replace K:=U (K.u.trans ee);clear ee Ov;obtain ⟨T4,VM⟩:∃ T4,Hid (T4=jy (Cm.tick T2 i q) i p (Ma.ak uq s)):=⟨_,U rfl⟩;rw [<- VM.u] at Ir;replace HT:=U Ir
      have ho4:(T4 i).orb.length<=n:=by
       have e:(T4 i).orb=(T2 i).orb:=by rw [VM.u]; simp [jy,Cm.dZ]
       rw [e]; exact fT
      obtain ⟨oa,oc,mL⟩:=HT.u.oZ aP;have CO:=U (CL.mk (show VL.cell? ⟨L,i*194+1,none⟩=some (.slice oa (T4 i).orb.length oc) by rw [wK HT.u aP rfl,mL]) HT.u.lt);obtain ⟨a9,c9,X9,r1,r2,r3,V5,r4,r5⟩:=HT.u.Zm aP (o:=i*194+1) rfl p (by omega) 26;rw [mL] at r1 r2;clear Ir mL IF YF;go_upto_region 12 with fail
      refine b6<|j8 rfl<|j8 rfl<|k5 (aZ _ rfl rfl)<|k5 (j0 (Bn _ _ _)) ?_;go_frame
      refine k5 (g7 (.slice oa (T4 i).orb.length oc) ⟨L,i*194+1,none⟩ (Rg.ae _ _ Tryz.underlying26 CO.u.cell))<|j6 rfl<|k5 (Rg.aI _ _ _ rfl (.int .i64 ((p:Nat):Int)) rfl (lp VL _))<|k5 (Rg.bw _ _ _ rfl rfl rfl r1)<|k5 (aZ _ rfl rfl) ?_;go_frame
      refine k5 (j0 (Bn _ _ _))<|Rg.aL none rfl rfl (Rg.aq _ _ _ rfl _ rfl _ rfl (Rg.bA _ qN r2 r3)) ?_;go_frame
      clear CO r1 r2 r3;have ee:=KG.yn (KG.refl HT.u.gI) r5;generalize X9.setCell ⟨L,i*194+1,none⟩ (.slice a9 ((T4 i).orb.length+1) c9)=w70 at *;replace C0:=U (C0.u.kg ee);replace C1:=U (C1.u.kg ee);replace K:=U (K.u.trans ee);rw [VM.u,<- find_eq] at r4;have hf:=jV.found HI.u HD.u aP (q:=q) (s:=s) (uq:=uq) (by rw [<- dE.u,<- Ak.u]; exact Ot.u) (by obtain ⟨a,b⟩:=hs.u; simp only [<- dE.u]; exact b) Ou.u (by rw [<- hp.u]; exact EN.u) EJ.u;have hx:=Io.u.trans ((Cm.ka T2 i q).trans (Cm.vt (T:=Cm.tick T2 i q) (p:=p) (y:=Ma.ak uq s) (by rw [Cm.dZ]; exact EN.u)));rw [<- hp.u] at hf;obtain ⟨xy,EO,EP,ER,ES⟩:=hf;replace HT:=U r4;have Ow:=U xy;have Ox:=U EO;have Oy:=U ES;have HX:=U hx;have Oz:=U (show (gk - 1)+(Cm.find (Cm.tick T2 i q) i p (Ma.ak uq s) i).tried q=(Cm.find (Cm.tick T2 i q) i p (Ma.ak uq s) i).gens.length by have h1:=HN.u; have h2:=MD.u; rw [EP,ER]; omega)
      clear xy EO EP ER ES hx ee r4 r5;go_wp2
      go_roundg (gk - 1)
      case rel=>exact ⟨_,_,V5,Oz,HT,C0,C1,K,Ow,Ox,Oy,HX⟩
      case measure=>have:=MD.u; omega
     | some v =>
      have mJ:cd (Cm.tick T2 i q) i p=some v:=by show (Cm.tick T2 i q i).rep p=some v; rw [Cm.dZ]; exact Iq
      obtain ⟨VN,GV,_,GX,FX,RX⟩:=Oh HI.u.lvl aP Mq.u Ou.u (show (T2 i).rep (Cm.ap s q)=some v by rw [<- hp.u]; exact Iq);replace GV:=U GV;replace GX:=U GX;replace FX:=U FX;replace RX:=U RX;obtain ⟨vb,vo,vc,Zz,_⟩:=HT.u.S8 aP jW mJ GV.u aR;obtain ⟨zb,zo,zc,ZA,ZB⟩:=HT.u.Zn aP jW mJ GV.u aR;have CP:=U (CL.mk (show eS.cell? ⟨L,i*194+2+p,none⟩=some (.slice (some ⟨vb,vo,none⟩) n vc) by rw [rX HT.u aP jW (by omega),Zz]) HT.u.lt);have CB:=U (CL.mk (show eS.cell? ⟨L,i*194+66+p,none⟩=some (.slice (some ⟨zb,zo,none⟩) n zc) by rw [Ii HT.u aP jW (by omega),ZA]) HT.u.lt);have BP:=U ZB;have EN:=U Iq;clear mJ Zz ZA ZB VN Iq CU SP UP
      by_cases Ac:i+1<n
      ·have yu:=U (show ∀ j,i+1<=j->j<n->Full n (Cm.tick T2 i q) j from fun j h1 h2=>(HI.u.up j (by omega) h2).ext (Cm.ka T2 i q) (Cm.iL (by omega)) (fun _=>Cm.iL (by omega)))
       have bJ:=U Ac
       have xC:((i+1:Nat):Int)<(n:Int):=by omega
       go_upto_region 10 with fail
       refine b6<|j8 rfl<|j6 rfl<|k5 (aZ _ rfl rfl)<|k5 (j0 (wM _ _ _)) ?_;go_frame
       refine k5 (bz _ _ rfl Tryz.underlying142 tI L (i*194+2) (p) rfl rfl jW)<|k5 (g7 (.slice (some ⟨vb,vo,none⟩) n vc) ⟨L,i*194+2+p,none⟩ (Rg.ae _ _ Tryz.underlying27 CP.u.cell))<|k5 (kd _ _ rfl rfl rfl) ?_;go_frame
       go_upto_region 13 with fail
       refine b6<|j6 rfl<|k5 (g8 (.int .i64 (((i+1):Nat):Int)) .add (h:=bQ _ (by omega) (by omega)))<|j8 rfl<|k5 (aZ _ rfl rfl) ?_;go_frame
       refine k5 (j0 (yp _ _))<|k5 (g7 (.int .i64 ((n:Nat):Int)) ⟨tb,0,none⟩ (af C0.u.cell))<|k5 (g8 (.bool true) .lss (h:=aH _ f7)) ?_;go_frame
       go_upto_region 14 with fail
       refine b6<|j8 rfl<|j7 rfl<|j8 rfl<|j6 rfl ?_;go_frame
       refine k5 (aZ _ rfl rfl)<|k5 (j0 (Bo _ _ _))<|k5 (bz _ _ rfl Tryz.underlying142 tI L (i*194+66) (p) rfl rfl jW)<|k5 (g7 (.slice (some ⟨zb,zo,none⟩) n zc) ⟨L,i*194+66+p,none⟩ (Rg.ae _ _ Tryz.underlying27 CB.u.cell)) ?_;go_frame
       refine f3 123 (aC 117 _ _ _ rfl rfl rfl (yr _ _)) ?_;refine (tM YF.u BP.u GY.u (Cm.aQ GV.u) aR aX).mono ?_;rintro e1 lu ⟨mv,rfl,gJ,hb⟩;refine ⟨_,rfl,?_⟩;go_frame;replace HT:=U (HT.u.up hb);replace C0:=U (C0.u.up hb);replace C1:=U (C1.u.up hb);replace YF:=U (YF.u.up hb);replace CY:=U (CY.u.up hb);replace CP:=U (CP.u.up hb);replace CB:=U (CB.u.up hb);replace BP:=U (BP.u.up hb);replace K:=U (K.u.up hb);have MV:=U gJ;generalize cB F4 eS lu=F5 at *;clear hb
       refine j6 rfl<|k5 (g8 (.int .i64 (((i+1):Nat):Int)) .add (h:=bQ _ (by omega) (by omega))) ?_;go_frame
       refine f3 126 (cu 92 _ _ _ _ rfl rfl rfl rfl (Ol _ _)) ?_;refine (On.u bJ.u _ L tb _ _ _ _ _ HT.u C0.u C1.u MV.u GX.u FX.u yu.u).mono ?_;rintro e1 xD ⟨F9,T9,V9,rfl,lx,ET,OA⟩;have HA:=U OA;clear OA;refine ⟨_,rfl,?_⟩;go_frame;clear CP;clear CB;clear CY;clear YF;clear BP;replace HT:=U ET;replace C0:=U (C0.u.kg lx);replace C1:=U (C1.u.kg lx);replace MV:=U (MV.u.kg lx);replace K:=U (K.u.trans lx);clear lx ET;have hf:=jV.KH HI.u HD.u (q:=q) (s:=s) (uq:=uq) (v:=v) (by rw [<- dE.u,<- Ak.u]; exact Ot.u) (by obtain ⟨a,b⟩:=hs.u; simp only [<- dE.u]; exact b) Ou.u (by rw [<- hp.u]; exact EN.u) EJ.u HA.u.ext HA.u.low (fun j h1 h2=>HA.u.full j h1 h2) (fun h0=>HA.u.gens _ (Gr.dO HI.u.lvl.Ai) (fun s hs=>HI.u.lvl.low h0 s (by rwa [Cm.iL (by omega)] at hs)) RX.u) HA.u.sd
       have hx:=Io.u.trans ((Cm.ka T2 i q).trans HA.u.ext);obtain ⟨xy,EO,EP,ER,ES⟩:=hf;have Ow:=U xy;have Ox:=U EO;have Oy:=U ES;have HX:=U hx;have Oz:=U (show (gk - 1)+(T9 i).tried q=(T9 i).gens.length by have h1:=HN.u; have h2:=MD.u; rw [EP,ER]; omega);clear xy EO EP ER ES hx;go_wp2
       go_roundg (gk - 1)
       case rel=>exact ⟨_,_,_,Oz,HT,C0,C1,K,Ow,Ox,Oy,HX⟩
       case measure=>have:=MD.u; omega
      ·have xC:¬ ((i+1:Nat):Int)<(n:Int):=by omega
       go_upto_region 10 with fail
       refine b6<|j8 rfl<|j6 rfl<|k5 (aZ _ rfl rfl)<|k5 (j0 (wM _ _ _)) ?_;go_frame
       refine k5 (bz _ _ rfl Tryz.underlying142 tI L (i*194+2) (p) rfl rfl jW)<|k5 (g7 (.slice (some ⟨vb,vo,none⟩) n vc) ⟨L,i*194+2+p,none⟩ (Rg.ae _ _ Tryz.underlying27 CP.u.cell))<|k5 (kd _ _ rfl rfl rfl) ?_;go_frame
       go_upto_region 13 with fail
       refine b6<|j6 rfl<|k5 (g8 (.int .i64 (((i+1):Nat):Int)) .add (h:=bQ _ (by omega) (by omega)))<|j8 rfl<|k5 (aZ _ rfl rfl) ?_;go_frame
       refine k5 (j0 (yp _ _))<|k5 (g7 (.int .i64 ((n:Nat):Int)) ⟨tb,0,none⟩ (af C0.u.cell))<|k5 (g8 (.bool false) .lss (h:=aH _ f8)) ?_;go_frame
       have hf:=jV.KH (T4:=Cm.tick T2 i q) HI.u HD.u (q:=q) (s:=s) (uq:=uq) (v:=v) (by rw [<- dE.u,<- Ak.u]; exact Ot.u) (by obtain ⟨a,b⟩:=hs.u; simp only [<- dE.u]; exact b) Ou.u (by rw [<- hp.u]; exact EN.u) EJ.u (Ext.refl _) (fun _ _=>rfl) (fun j h1 h2=>absurd h2 (by omega)) (fun h0=>absurd h0 Ac) (by rw [show n - (i+1)=0 by omega]; exact Cm.Fx.all GX.u (by have:=FX.u; rwa [show i+1=n by omega] at this));have hx:=Io.u.trans (Cm.ka T2 i q);obtain ⟨xy,EO,EP,ER,ES⟩:=hf;have Ow:=U xy;have Ox:=U EO;have Oy:=U ES;have HX:=U hx;have Oz:=U (show (gk - 1)+((Cm.tick T2 i q) i).tried q=((Cm.tick T2 i q) i).gens.length by have h1:=HN.u; have h2:=MD.u; rw [EP,ER]; omega);clear xy EO EP ER ES hx;go_wp2
       go_roundg (gk - 1)
       case rel=>exact ⟨_,_,_,Oz,HT,C0,C1,K,Ow,Ox,Oy,HX⟩
       case measure=>have:=MD.u; omega
  ·have HE:k=(T1 i).orb.length:=by omega
   obtain ⟨oa,oc,mL⟩:=HT.u.oZ aP
   have Oo:wr.cell? ⟨L,i*194+1,none⟩=some (.slice oa (T1 i).orb.length oc):=by rw [wK HT.u aP (by omega),mL]
   have iC:¬ (k:Int)<((T1 i).orb.length:Int):=by omega
   have VK:=U (l_.cmp (by rw [<- HE]; exact HD.u) HI.u.lvl);clear mL HE;go_wp2
   go_end0
   exact ⟨rfl,F1,K.u,T1,⟨V,HT.u⟩,HI.u,VK.u⟩

theorem VO (args:Array Value) (w:World):(callFunc 120 args).run Tryz.prog w=.ok (.enter 120 args) w:=by kernel_rfl
theorem VP (args:Array Value) (w:World):(callFunc 121 args).run Tryz.prog w=.ok (.enter 121 args) w:=by kernel_rfl
theorem eU:(Tryz.prog.info? 41).map (fun i=>(i.zero,i.size,i.bytes))=some (some (.slice none 0 0),1,24):=by kernel_rfl
def pS (T:br) (i j:Nat) (r:List Nat):br:=fun k=>if i<=k/\k<j then { T k with gens:=(T k).gens++[r] } else T k
theorem Iu (T:br) (i:Nat) (r:List Nat):pS T i i r=T:=by
 funext k; unfold pS; rw [if_neg (by omega)]
theorem tP (T:br) (i j:Nat) (r:List Nat):pS T i j r j=T j:=by
 unfold pS; rw [if_neg (by omega)]
theorem Iv (T:br) (i j:Nat) (r:List Nat) (h:i<=j):vw (pS T i j r) j r=pS T i (j+1) r:=by
 funext k
 unfold vw
 by_cases e:k=j
 ·subst e
  rw [if_pos rfl,tP]; unfold pS; rw [if_pos (by omega)]
 ·rw [if_neg e]; unfold pS
  by_cases h2:i<=k/\k<j
  ·rw [if_pos h2,if_pos (by omega)]
  ·rw [if_neg h2,if_neg (by omega)]
theorem MF (T:br) (i a:Nat) (r:List Nat):pS T i (a+1) r=Cm.gR T i a r:=by
 funext k
 unfold pS Cm.gR
 by_cases h:i<=k/\k<=a
 ·rw [if_pos (by omega),if_pos h]
 ·rw [if_neg (by omega),if_neg h]
open Go.Proofs.Cm in
theorem OB {i:Nat} (aR:1<=n) (aX:n<=64) (aP:i<n) (n_:∀ k,i<=k->k<n->xU n k):Om n i:=by
 intro F L tb w T V xv x hT cC cz hx gx fx Iw;have K:=U (KG.refl hT.gI);have HT:=U hT;have C0:=U cC;have C1:=U cz;have X:=U hx;have GX:=U gx;have FX:=U fx;have yu:=U Iw;have HCL:=U n_;have HR:=U (fJ.rp fun j a b=>(Iw j a b).1);obtain ⟨mM,r,hA⟩:∃ a r,Hid (dg n (cd T) (n - i) x=(a,r)):=⟨_,_,U rfl⟩;obtain ⟨jB,iN,gr,fr,lZ⟩:=nw HR.u (d:=n - i) (x:=x) (by omega) (by omega) gx (by rw [show n - (n - i)=i by omega]; exact fx);rw [hA.u] at jB iN gr fr lZ;have GR:=U gr;have FR:=U fr;have CD:=U lZ;replace jB:mM<=n:=jB
 replace iN:i<=mM:=by have:n - (n - i)<=mM:=iN; omega
 clear hT cC cz hx gx fx Iw n_ gr fr lZ
 go_enter Tryz.func92,Tryz.ntmps92
 go_upto_region 0 with fail
 refine b6<|j8 rfl<|j5 (xv) rfl<|j6 rfl ?_;go_frame
 have hsc:=My HT.u C0.u C1.u aR aX X.u GX.u (by omega) FX.u HR.u;rw [hA.u] at hsc
 dsimp only at hsc
 refine f3 14 (cu 120 _ _ _ _ rfl rfl rfl rfl (VO _ _)) ?_;refine (hsc).mono ?_;rintro e1 w1 ⟨F1,rv,rfl,fY,yw,cp,bW⟩;clear hsc bW;refine ⟨_,rfl,?_⟩;go_frame;replace HT:=U yw;replace C0:=U (C0.u.kg fY);replace C1:=U (C1.u.kg fY);replace X:=U (X.u.kg fY);replace K:=U (K.u.trans fY);have R:=U cp;clear fY yw
 refine j5 (.tuple #[.int .i64 ((mM:Nat):Int),rv]) rfl<|k5 (i5 (.int .i64 ((mM:Nat):Int)))<|k5 (i5 (rv))<|j6 rfl<|j5 (rv) rfl ?_;go_frame
 clear cp X
 by_cases han:mM=n
 ·have hae:(mM:Int)=(n:Int):=by omega
  go_upto_region 1 with fail
  refine b6<|j6 rfl<|j8 rfl<|k5 (aZ _ rfl rfl)<|k5 (j0 (yp _ _)) ?_;go_frame
  refine k5 (g7 (.int .i64 ((n:Nat):Int)) ⟨tb,0,none⟩ (af C0.u.cell))<|k5 (g8 (.bool true) .eql (h:=fa _ f7)) ?_;go_frame
  have HA:=U (vy.same yu.u aP GX.u FX.u (by rw [hA.u]; exact han));go_wp2
  first
  | go_end0
  | refine bodyPost_ret (results_none rfl _ _ _) rfl ?_
  exact ⟨rfl,_,K.u,T,⟨V,HT.u⟩,HA.u⟩
 ·have hae:¬ (mM:Int)=(n:Int):=by omega
  have KJ:mM<n:=by omega
  go_upto_region 1 with fail
  refine b6<|j6 rfl<|j8 rfl<|k5 (aZ _ rfl rfl)<|k5 (j0 (yp _ _)) ?_;go_frame
  refine k5 (g7 (.int .i64 ((n:Nat):Int)) ⟨tb,0,none⟩ (af C0.u.cell))<|k5 (g8 (.bool false) .eql (h:=fa _ f8)) ?_;go_frame
  have tN:=C0.u.cell;go_upto_region 2 with fail;go_wp2
  go_loopw [8] (fun iv wr=>∃ (j:Nat) (F2:Nat->Prop) (V2:Nat->LV),iv=.int .i64 j/\i<=j/\j<=mM+1/\Hid (aW F2 L n wr (pS T i j r) V2)/\Hid (CF F2 wr tb 0 (.int .i64 ((n:Nat):Int)))/\Hid (CF F2 wr tb 1 (.slice (some ⟨L,0,none⟩) n n))/\Hid (KG F w F2 wr)/\Hid (FP F2 wr rv r)) (fun iv _=>mM+1 - (intOf iv).toNat)
  case atStart=>exact ⟨i,_,V,rfl,Nat.le_refl _,by omega,U (by rw [Iu]; exact HT.u),C0,C1,K,R⟩
  case round =>
   clear HT C0 C1 K R tN;obtain ⟨j,F2,V2,rfl,ye,s_,HT,C0,C1,K,R⟩:=hrel
   by_cases hja:j<=mM
   ·have CJ:(j:Int)<=(mM:Int):=by omega
    have MG:j<n:=by omega
    obtain ⟨rb,ro,rc,rfl⟩:=R.u.dp GR.u aR;have ke:=HT.u.U1 MG;rw [tP] at ke;obtain ⟨ga,gc,EK⟩:=ke;have CG:=U (CL.mk (show wr.cell? ⟨L,j*194,none⟩=some (.slice ga (T j).gens.length gc) by rw [Od HT.u MG rfl,EK]) HT.u.lt);have iX:(T j).gens.length<=4096:=Nat.le_trans (yu.u j ye MG).2.2 (Kz (fun j a b=>(yu.u j a b).1) ye aX);go_upto_region 5 with fail;have aj:Below wr.heap.size wr wr.drew:=(Below.refl _ _).drew;replace HT:=U (HT.u.up aj);replace C0:=U (C0.u.up aj);replace C1:=U (C1.u.up aj);replace R:=U (R.u.up aj);replace CG:=U (CG.u.up aj);replace K:=U (K.u.up aj);generalize cB F2 wr wr.drew=F1 at *;clear aj;refine Rg.Any.begin (S:=Rg.aG 16 (fun W:World=>W.cell? ⟨tb,1,none⟩=some (.slice (some ⟨L,0,none⟩) n n)/\W.cell? ⟨L,j*194,none⟩=some (.slice ga (T j).gens.length gc)) (fun _=>True)) mix ?_
    generalize wr.drew=dh at *;have hS:∀ (l:Array Bool) W,(fun W:World=>W.cell? ⟨tb,1,none⟩=some (.slice (some ⟨L,0,none⟩) n n)/\W.cell? ⟨L,j*194,none⟩=some (.slice ga (T j).gens.length gc)) W->Rg.aG 16 (fun W:World=>W.cell? ⟨tb,1,none⟩=some (.slice (some ⟨L,0,none⟩) n n)/\W.cell? ⟨L,j*194,none⟩=some (.slice ga (T j).gens.length gc)) (fun _=>True) l W:=fun l W h=>⟨.inr h,trivial⟩;have cT:∀ (l:Array Bool) W,l.getD 16 false=true->Rg.aG 16 (fun W:World=>W.cell? ⟨tb,1,none⟩=some (.slice (some ⟨L,0,none⟩) n n)/\W.cell? ⟨L,j*194,none⟩=some (.slice ga (T j).gens.length gc)) (fun _=>True) l W:=fun l W h=>⟨.inl h,trivial⟩;have hI:(fun W:World=>W.cell? ⟨tb,1,none⟩=some (.slice (some ⟨L,0,none⟩) n n)/\W.cell? ⟨L,j*194,none⟩=some (.slice ga (T j).gens.length gc)) dh:=⟨C1.u.cell,CG.u.cell⟩
    refine d8 0 16 (.pointer (some ⟨tb,0,none⟩)) 29 (hS _ _ hI)<|d7 1 16 (.pointer (some ⟨tb,0,none⟩)) 30 rfl rfl (i9 fun w=>aZ _ rfl rfl) (hS _ _ hI)<|d7 2 16 (.pointer (some ⟨tb,1,none⟩)) 31 rfl rfl (i9 fun w=>aA _ rfl rfl (kc _ _)) (hS _ _ hI)<|i6 3 16 (.slice (some ⟨L,0,none⟩) n n) 32 rfl rfl (i8 ⟨tb,1,none⟩ (fun W hW=>Rg.ae _ _ Tryz.underlying135 hW.1)) (hS _ _ hI)<|d8 4 16 (.int .i64 ((j:Nat):Int)) 33 (hS _ _ hI) ?_;go_frame
    refine d8 5 16 (.pointer (some ⟨tb,0,none⟩)) 34 (hS _ _ hI)<|d7 6 16 (.pointer (some ⟨tb,0,none⟩)) 35 rfl rfl (i9 fun w=>aZ _ rfl rfl) (hS _ _ hI)<|d7 7 16 (.pointer (some ⟨tb,1,none⟩)) 36 rfl rfl (i9 fun w=>aA _ rfl rfl (kc _ _)) (hS _ _ hI)<|i6 8 16 (.slice (some ⟨L,0,none⟩) n n) 37 rfl rfl (i8 ⟨tb,1,none⟩ (fun W hW=>Rg.ae _ _ Tryz.underlying135 hW.1)) (hS _ _ hI)<|d8 9 16 (.int .i64 ((j:Nat):Int)) 38 (hS _ _ hI) ?_;go_frame
    refine d7 10 16 (.pointer (some ⟨L,j*194,none⟩)) 39 rfl rfl (i9 fun w=>bh _ _ rfl Tryz.underlying135 gS L (n) (n) (j) rfl rfl MG) (hS _ _ hI)<|d7 11 16 (.pointer (some ⟨L,j*194,none⟩)) 40 rfl rfl (i9 fun w=>aA _ rfl rfl (EC _ _ _)) (hS _ _ hI)<|i6 12 16 (.slice ga (T j).gens.length gc) 41 rfl rfl (i8 ⟨L,j*194,none⟩ (fun W hW=>Rg.ae _ _ Tryz.underlying41 hW.2)) (hS _ _ hI)<|d8 13 16 (.slice (some ⟨rb,ro,none⟩) n rc) 42 (hS _ _ hI) ?_;go_frame
    have pq:=(Below.refl dh.heap.size dh).alloc (Nat.le_refl _) (.cells #[.slice (some ⟨rb,ro,none⟩) n rc] 27);have VQ:=(show _/\_ from ⟨(Below.cell (p:=⟨tb,1,none⟩) pq C1.u.lt).trans C1.u.cell,(Below.cell (p:=⟨L,j*194,none⟩) pq CG.u.lt).trans CG.u.cell⟩);refine i7 14 43 rfl rfl (Rg.aI _ _ _ rfl (.slice (some ⟨rb,ro,none⟩) n rc) rfl (cV dh _ ⟨_,_,_,rfl⟩)) (hS _ _ VQ) ?_;go_frame;obtain ⟨a9,c9,X9,r1,r2,r3,V5,r4,r5⟩:=HT.u.Zl MG (o:=j*194) rfl R.u ⟨_,_,_,rfl⟩ (by rw [tP]; omega) 41;rw [Iv _ _ _ _ ye] at r4;rw [tP] at r1 r4 r5;rw [EK] at r1 r2;have OC:=r5.cell (b:=tb) (o:=1) C1.u.Mv C1.u.lt
    rw [World.cell?_setCell_other (h:=by intro e; injection e with e1 _; exact HT.u.LF (e1▸C1.u.Mv)),C1.u.cell] at OC
    have kh:=(show _/\_ from ⟨OC,r2⟩)
    refine i7 15 44 rfl rfl (Rg.bw _ _ _ rfl rfl rfl r1) (hS _ _ kh)<|i7 16 45 rfl rfl (bh _ _ rfl Tryz.underlying135 gS L (n) (n) (j) rfl rfl MG) (cT _ _ rfl)<|d7 17 16 (.pointer (some ⟨L,j*194,none⟩)) 46 rfl rfl (i9 fun w=>aA _ rfl rfl (EC _ _ _)) (cT _ _ rfl) ?_;go_frame
    refine Rg.Any.one (i:=18) (by kernel_rfl) (Rg.Any.dR none rfl rfl rfl (Rg.aq _ _ _ rfl _ rfl _ rfl (Rg.bA _ eU r2 r3)) (cT _ _ rfl) ?_);go_frame;refine Rg.Any.done (by kernel_rfl) ?_ _;clear cT;clear hS kh;have ee:=KG.yn (KG.refl HT.u.gI) r5;generalize X9.setCell ⟨L,j*194,none⟩ (.slice a9 ((T j).gens.length+1) c9)=ME at *;replace C0:=U (C0.u.kg ee);replace C1:=U (C1.u.kg ee);replace R:=U (R.u.kg ee);replace K:=U (K.u.trans ee);replace HT:=U r4;clear ee r1 r2 r3 r4 r5 CG EK;go_wp2
    go_roundw
    case rel=>exact ⟨j+1,_,V5,by go_num,by omega,by omega,HT,C0,C1,K,R⟩
    case measure=>simp [intOf]; omega
   ·have CJ:¬ (j:Int)<=(mM:Int):=by omega
    obtain rfl:j=mM+1:=by omega
    replace HT:=U (by have:=HT.u; rwa [MF] at this);have HI:=U (mf.start (r:=r) yu.u iN);go_wp2;simp only [show ((mM:Nat):Int)=(((mM+1:Nat):Int) - 1) by omega]
    go_loopw [9] (fun kv wr=>∃ (k:Nat) (F3:Nat->Prop) (T3:br) (V3:Nat->LV),kv=.int .i64 (((k:Nat):Int) - 1)/\i<=k/\k<=mM+1/\Hid (aW F3 L n wr T3 V3)/\Hid (CF F3 wr tb 0 (.int .i64 ((n:Nat):Int)))/\Hid (CF F3 wr tb 1 (.slice (some ⟨L,0,none⟩) n n))/\Hid (KG F w F3 wr)/\Hid (mf n i mM k T T3 r)) (fun kv _=>(intOf kv+1).toNat - i)
    case atStart=>exact ⟨mM+1,F2,_,V2,rfl,by omega,Nat.le_refl _,HT,C0,C1,K,HI⟩
    case round =>
     clear HT C0 C1 K R HI CJ ye s_ hja;obtain ⟨k0,F3,T3,V3,rfl,fY,dy,HT,C0,C1,K,HI⟩:=hrel
     by_cases nr:i<k0
     ·obtain ⟨m,rfl⟩:∃ m,k0=m+1:=⟨k0 - 1,by omega⟩
      simp only [show (((m+1:Nat):Int) - 1)=(m:Int) by omega]
      have hmi:(i:Int)<=(m:Int):=by omega
      have ZC:m<n:=by omega
      have HLV:=U (HI.u.lvl yu.u (by omega) (by omega) KJ GR.u FR.u);have HUP:=U HI.u.up
      have tQ:=U (show (T3 m).gens.length<=5000 by
       have h1:=(yu.u m (by omega) ZC).2.2;have h2:Ct n T m<=4096:=Kz (fun j a b=>(yu.u j a b).1) (by omega) aX;rw [HI.u.put m (by omega) (by omega),iI ⟨by omega,by omega⟩]
       simp; omega)
      have ZD:=U (show i<=m by omega);have HMN:=U ZC;have HMA:=U (show m<=mM by omega);go_upto_region 9 with fail
      refine b6<|j8 rfl<|j6 rfl ?_;go_frame
      refine f3 55 (aC 121 _ _ _ rfl rfl rfl (VP _ _)) ?_;refine (HCL.u m ZD.u HMN.u _ L tb _ _ _ HT.u C0.u C1.u HUP.u HLV.u tQ.u).mono ?_;rintro e1 fU ⟨F9,T9,V9,rfl,lx,ET,OC,ZE⟩;have Iy:=U (HI.u.step yu.u ZD.u HMA.u KJ (CD.u KJ) OC ZE);clear OC ZE;refine ⟨_,rfl,?_⟩;go_frame;replace HT:=U ET;replace C0:=U (C0.u.kg lx);replace C1:=U (C1.u.kg lx);replace K:=U (K.u.trans lx);clear lx ET;go_wp2
      go_roundw
      case rel=>exact ⟨m,_,T9,V9,by go_num,by omega,by omega,HT,C0,C1,K,Iy⟩
      case measure=>simp [intOf]; omega
     ·obtain rfl:k0=i:=by omega
      have hmi:¬ (k0:Int)<=((k0:Int) - 1):=by omega
      have ef:=U (mf.added (i:=k0) yu.u aP GX.u FX.u (by rw [hA.u]; exact HI.u) (by rw [hA.u]; exact KJ));go_wp2
      go_end0
      exact ⟨rfl,F3,K.u,T3,⟨V3,HT.u⟩,ef.u⟩
end Go.Proofs.YtpedbljnhnoohaaGreat
namespace Go.Proofs.Cm
open Go.Proofs
def OD:Lv:={ gens:=[],orb:=[],rep:=fun _=>none,tried:=fun _=>0 }
def OE (n j:Nat):Lv:={ gens:=[],orb:=[j],rep:=fun z=>if z=j then some (Ma.bm n) else none,tried:=fun _=>0 }
def mg (n k:Nat):br:=fun j=>if j<k then OE n j else OD
theorem Iz (hj:j<n):Full n (mg n n) j:=by
 have e:mg n n j=OE n j:=if_pos hj
 have hr:∀ p u,(OE n j).rep p=some u->p=j/\u=Ma.bm n:=fun p u h=>by
  have h:(if p=j then some (Ma.bm n) else none)=some u:=h
  by_cases e:p=j
  ·rw [if_pos e] at h; injection h with h; exact ⟨e,h.symm⟩
  ·rw [if_neg e] at h; cases h
 refine ⟨⟨?_,?_,?_,?_,?_,?_,?_,?_,?_,?_,?_,?_,?_,?_⟩,?_,?_⟩ <;> (try rw [e])
 ·intro s hs; cases hs
 ·intro s hs; cases hs
 ·intro h0 s hs
  have e2:mg n n (j+1)=OE n (j+1):=if_pos h0;rw [e2] at hs; cases hs
 ·exact if_pos rfl
 ·intro p u h; obtain ⟨_,rfl⟩:=hr p u h; exact h_ n
 ·intro p u h; obtain ⟨_,rfl⟩:=hr p u h; exact Fx.one (by omega)
 ·intro p u h; obtain ⟨rfl,rfl⟩:=hr p u h; exact dD hj
 ·intro p u h; obtain ⟨rfl,_⟩:=hr p u h; exact hj
 ·intro p u h; obtain ⟨_,rfl⟩:=hr p u h; exact .one
 ·exact List.nodup_cons.2 ⟨by simp,List.nodup_nil⟩
 ·intro p
  constructor
  ·intro h
   have h:p∈[j]:=h;rw [List.mem_singleton] at h; subst h;exact ⟨_,if_pos rfl⟩
  ·rintro ⟨u,h⟩
   obtain ⟨rfl,_⟩:=hr p u h;exact List.mem_singleton.2 rfl
 ·intro q; exact Nat.le_refl _
 ·intro p _; rfl
 ·intro q u k hk; exact absurd hk (Nat.not_lt_zero _)
 ·intro q u h; rw [e]; rfl
 ·exact Nat.zero_le _
structure kX (n:Nat) (gs:List Nat->Prop) (T:br):Prop where
 full:∀ j,j<n->Full n T j
 sub:∀ s∈(T 0).gens,Gr n gs s
 all:∀ s,gs s->Sd n (cd T) n s
theorem kX.new:kX n (fun _=>False) (mg n n):=by
 refine ⟨fun j hj=>Iz hj,fun s hs=>?_,fun s h=>absurd h id⟩;unfold mg at hs
 by_cases h:0<n
 ·rw [if_pos h] at hs; cases hs
 ·rw [if_neg h] at hs; cases hs
theorem kX.add {gs gs':List Nat->Prop} {T T':br} {x:List Nat} (h:kX n gs T) (hg:∀ s,gs' s↔gs s∨s=x) (eA:∀ s,gs' s->Gd n s) (ha:vy n 0 T T' x):kX n gs' T':=by
 have hG:cy n (Gr n gs'):=Gr.dO eA;refine ⟨fun j hj=>ha.full j (Nat.zero_le _) hj,ha.gens _ hG (fun s hs=>Gr.sub hG (fun z hz=>.gen _ ((hg z).2 (.inl hz))) (h.sub s hs)) (.gen _ ((hg x).2 (.inr rfl))),fun s hs=>?_⟩
 rcases (hg s).1 hs with hs | rfl
 ·exact Sd.mono (fun j p u _ e=>ha.ext.rep j p u e) (h.all s hs)
 ·exact by have:=ha.sd; rwa [Nat.sub_zero] at this
theorem kX.Ky {n:Nat} {gs:List Nat->Prop} {T:br} (h:kX n gs T) (hn:0<n) (eA:∀ s,gs s->Gd n s):lJ n (Gr n gs) (cd T):=by
 have hT:vn n 0 (fun i s=>s∈(T i).gens) (cd T):=fJ.VF fun j _ b=>⟨(h.full j b).1,(h.full j b).2.1⟩;have h1:=hT.Ky hn;have g0:∀ s,s∈(T 0).gens->Gd n s:=(h.full 0 hn).1.Ai
 have e:∀ x,Gr n gs x↔Gr n (fun s=>s∈(T 0).gens) x:=fun x=>by
  constructor
  ·intro hx
   refine Gr.sub (Gr.dO g0) (fun s hs=>?_) hx;exact hT.gr (i:=0) (Nat.le_refl _) hn (d:=n) (by omega) (eA s hs) (h.all s hs) (by omega)
  ·intro hx
   exact Gr.sub (Gr.dO eA) h.sub hx
 exact ⟨h1.rp,fun i p u hi hu=>(e u).2 (h1.mem i p u hi hu),fun i x hi hx=>h1.all i x hi ⟨(e x).1 hx.1,hx.2⟩⟩
end Go.Proofs.Cm
namespace Go.Proofs.YtpedbljnhnoohaaGreat
open Go.RowKit
open Go.Proofs
section
open Go.Proofs.Cm (Lv br cd)
attribute [local irreducible] Go.Calls
theorem EU {n:Nat} (aR:1<=n) (aX:n<=64):∀ d i,n - i<=d->i<n->Om n i/\∀ k,i<=k->k<n->xU n k
 | 0,i,hd,hi=>by omega
 | d+1,i,hd,hi=>by
  have ih:=EU aR aX d
  have hc:∀ k,i<=k->k<n->xU n k:=fun k h1 h2=>by
   by_cases e:k=i
   ·subst e
    exact Il aR aX h2 fun h=>(ih (k+1) (by omega) h).1
   ·exact (ih (i+1) (by omega) (by omega)).2 k (by omega) h2
  exact ⟨OB aR aX hi hc,hc⟩
def vB:Array Value:=(Array.range 194).map (fun m=>if m<130 then Value.slice none 0 0 else .int .i64 0)
theorem IA:(Tryz.prog.info? 145).map (fun i=>(i.zero.map Value.cells,i.size,i.bytes))=some (some vB,194,3632):=by kernel_rfl
theorem Tc {m:Nat} (hm:m<194):vB[m]! = if m<130 then Value.slice none 0 0 else .int .i64 0:=by
 unfold vB;simp [hm]
theorem MH (n:Nat) (hn:n<=1000000) (w:World):(Instr.makeSlice 135 (.int .i64 (n:Int)) (.int .i64 (n:Int))).run Tryz.prog w=.ok (.slice (some ⟨w.heap.size,0,none⟩) n n) (w.alloc (.cells (madeCells vB (n*194)) 145)):=by
 obtain ⟨i,hi,hz⟩:=Option.map_eq_some_iff.1 IA;simp only [Prod.mk.injEq] at hz;obtain ⟨h1,h2,h3⟩:=hz;obtain ⟨z,hz,h1⟩:=Option.map_eq_some_iff.1 h1;have hr:=run_make (P:=Tryz.prog) w 135 145 i z Tryz.underlying135 hi hz .i64 .i64 (n:Int) (n:Int) (by omega) (Int.le_refl _) (by rw [h3]; omega) (by omega);rw [hr,h2,h1];simp
def rG:LV:={ g:=.slice none 0 0,us:=[],o:=.slice none 0 0,t:=fun _=>.slice none 0 0,b:=fun _=>.slice none 0 0 }
theorem aW.start (n:Nat) (w:World) (hF:∀ k,F k->k<w.heap.size):aW F w.heap.size n (w.alloc (.cells (madeCells vB (n*194)) 145)) (Cm.mg n 0) (fun _=>rG):=by
 have hN:∀ j,Cm.mg n 0 j=Cm.OD:=fun j=>if_neg (Nat.not_lt_zero _);refine ⟨fun k hk=>by have:=hF k hk; simp; omega,fun h=>by have:=hF _ h; omega,?_,fun i hi=>?_,fun i j hi hj hne k h1 h2=>?_⟩
 ·have h:=World.rowIs_alloc w (madeCells vB (n*194)) 145 (fun j=>cont (Cm.mg n 0 (j / 194)) rG (j % 194)) (fun j hj=>?_)
  ·rwa [size_madeCells] at h
  ·have hs:vB.size=194:=by unfold vB; simp
   rw [size_madeCells] at hj;have hm:j % 194<194:=Nat.mod_lt _ (by decide);rw [hN]
   have e:(madeCells vB (n*194))[j]?=some (vB[j % 194]!):=by
    unfold madeCells;simp [hj,hs]
   rw [e,Tc hm];unfold cont
   congr 1
   by_cases h0:j % 194=0
   ·simp [h0,rG]
   by_cases h1:j % 194=1
   ·simp [h1,rG]
   by_cases h2:j % 194<66
   ·simp [h0,h1,h2,rG]; omega
   by_cases h3:j % 194<130
   ·simp [h0,h1,h2,h3,rG]
   ·simp [h0,h1,h2,h3,Cm.OD]
 ·rw [hN]
  refine ⟨?_,⟨rfl,fun i h=>absurd h (Nat.not_lt_zero _)⟩,?_,fun k h=>by simp [rG,Value.ownBlock] at h,fun k h=>by simp [rG,Value.ownBlock] at h,fun k h=>by simp [rG,Value.ownBlock] at h,fun p x _ h=>by simp [Cm.OD] at h,fun p _ _=>⟨rfl,rfl⟩⟩
  ·exact World.ownsRow_nil ..
  ·exact World.ownsRow_nil ..
 ·rcases h1 with h1 | h1 <;> simp [rG,Value.ownBlock] at h1
def Bq (T:br) (i p:Nat):br:=fun j=>if j=i then { T j with orb:=[p] } else T j
theorem IC (n k:Nat):jy (Bq (Cm.mg n k) k k) k k (Ma.bm n)=Cm.mg n (k+1):=by
 funext j
 unfold jy Bq Cm.mg
 by_cases e:j=k
 ·subst e
  simp [Cm.OD,Cm.OE]
 ·by_cases h:j<k
  ·rw [if_neg e,if_neg e,if_pos h,if_pos (by omega)]
  ·rw [if_neg e,if_neg e,if_neg h,if_neg (by omega)]
theorem aW.ZF {w:World} {T:br} {V:Nat->LV} (h:aW F L n w T V) {i o:Nat} (hi:i<n) (ho:o=i*194+1) (p:Nat) :
  (∃ u,(w.alloc (.cells #[.int .i64 ((p:Nat):Int)] 3)).cell? ⟨L,o,none⟩=some u)/\(w.alloc (.cells #[.int .i64 ((p:Nat):Int)] 3)).frozen? ⟨L,o,none⟩=false /\
  ∃ V',aW F L n ((w.alloc (.cells #[.int .i64 ((p:Nat):Int)] 3)).setCell ⟨L,o,none⟩ (.slice (some ⟨w.heap.size,0,none⟩) 1 1)) (Bq T i p) V'/\KF F w ((w.alloc (.cells #[.int .i64 ((p:Nat):Int)] 3)).setCell ⟨L,o,none⟩ (.slice (some ⟨w.heap.size,0,none⟩) 1 1)):=by
 subst ho;have hv:=h.lv i hi;have hb:Below w.heap.size w (w.alloc (.cells #[.int .i64 ((p:Nat):Int)] 3)):=(Below.refl _ _).alloc (Nat.le_refl _) _;have fY:Rg.Kp (fun _=>False) w (w.alloc (.cells #[.int .i64 ((p:Nat):Int)] 3)):=Rg.Kp.aF hb
 have cO:(w.alloc (.cells #[.int .i64 ((p:Nat):Int)] 3)).heap.size=w.heap.size+1:=by simp
 have bH:=eN h.row fY id;have cj:=World.ownsRow_lit (base:=0) (e:=3) (size:=1) w #[.int .i64 ((p:Nat):Int)] 1 (Nat.zero_le _) (by unfold maxLen; omega) rfl;generalize (w.alloc (.cells #[.int .i64 ((p:Nat):Int)] 3))=X at *
 refine ⟨⟨_,(hb.cell (p:=⟨L,i*194+1,none⟩) h.lt).trans (wK h hi rfl)⟩,bH.frozen _,fun j=>if j=i then { V i with o:=.slice (some ⟨w.heap.size,0,none⟩) 1 1 } else V j,?_⟩
 have wL:=KD (T:=T) (T':=Bq T i p) (V:=V) (V':=fun j=>if j=i then { V i with o:=.slice (some ⟨w.heap.size,0,none⟩) 1 1 } else V j) (x:=.slice (some ⟨w.heap.size,0,none⟩) 1 1)
  (fun k hk=>by have:=h.gI k hk; omega) h.LF bH (fun j hj hne=>(h.lv j hj).kp fY (fun _ _=>id) (fun _ _=>id))
  (fun a b ha hb fX _ _=>h.kJ a b ha hb fX) hi (m:=1) (by omega) rfl (fun j hj=>⟨if_neg hj,if_neg hj⟩) ?_ ?_ ?_
 ·exact ⟨wL.1,Rg.Kp.trans (Rg.Kp.aF hb) wL.2 (fun _ _ e=>e)⟩
 ·intro m' nA
  simp only [if_true,Bq];unfold cont
  by_cases h0:m'=0
  ·simp [h0]
  by_cases h1:m'=1
  ·simp [h1]
  ·simp [h0,h1]
 ·simp only [if_true,Bq]
  have xA:=hv.kp fY (fun _ _=>id) (fun _ _=>id);have aw:=hv.lt;refine ⟨xA.rE,xA.EB,cj,xA.gF,?_,?_,xA.some_,xA.none_⟩
  ·intro k e
   have e:w.heap.size=k:=by simpa [Value.ownBlock] using e
   subst e;exact ⟨fun hf=>by have:=h.gI _ hf; omega,by have:=h.lt; omega⟩
  ·intro k e e2
   have e2:w.heap.size=k:=by simpa [Value.ownBlock] using e2
   have:=aw k (.inl e); omega
 ·intro j k hj hne e
  simp only [if_true] at e
  rcases e with e | e
  ·exact h.kJ i j hi hj (Ne.symm hne) k (.inl e)
  ·have e:w.heap.size=k:=by simpa [Value.ownBlock] using e
   intro e2; have:=(h.lv j hj).lt k e2; omega

theorem OG (args:Array Value) (w:World):(callFunc 119 args).run Tryz.prog w=.ok (.enter 119 args) w:=by kernel_rfl
theorem Al {o:Oper} {a:Act} {w:World} {n:Int} {ad:Option Addr} {m c:Nat} (x y:Operand) (ho:o.op=.build 137 #[(0,x),(1,y)]) (hx:a.eval x=.int .i64 n) (hy:a.eval y=.slice ad m c) :
  (execOp a.eval o).run Tryz.prog w=.ok (.value (.agg #[.int .i64 n,.slice ad m c])) w:=by
 unfold execOp;simp only [ho,Sem.run_bind,Sem.run_pure];simp only [List.map_toArray,List.map_cons,List.map_nil,hx,hy]
 have h:(Instr.build 137 #[(0,.int .i64 n),(1,.slice ad m c)]).run Tryz.prog w=.ok (.agg #[.int .i64 n,.slice ad m c]) w:=by kernel_rfl
 first | (rw [h]; rfl) | (erw [h]; rfl)
theorem nD {o:Oper} {a:Act} {w:World} (t:TypeId) (x y:Operand) (ho:o.op=.makeSlice t x y) (n m:Value) (hx:a.eval x=n) (hy:a.eval y=m) (hr:(Instr.makeSlice t n m).run Tryz.prog w=.ok v w'):(execOp a.eval o).run Tryz.prog w=.ok (.value v) w':=by
 unfold execOp;simp [ho,hx,hy,hr,Result.andThen]
theorem Am (aR:1<=n) (aX:n<=64) (w:World) :
  Calls Tryz.prog 91 #[.int .i64 ((n:Nat):Int)] w fun e w'=>∃ (tb L:Nat) (F':Nat->Prop) (V':Nat->LV),e=.returned (.pointer (some ⟨tb,0,none⟩))/\KG (fun k=>k<w.heap.size) w F' w'/\aW F' L n w' (Cm.mg n n) V'/\CF F' w' tb 0 (.int .i64 ((n:Nat):Int))/\CF F' w' tb 1 (.slice (some ⟨L,0,none⟩) n n):=by
 have EV:=aW.start (F:=fun k=>k<w.heap.size) n w (fun _ h=>h);have lI:Below w.heap.size w (w.alloc (.cells (madeCells vB (n*194)) 145)):=(Below.refl _ _).alloc (Nat.le_refl _) _
 have dr:(w.alloc (.cells (madeCells vB (n*194)) 145)).heap.size=w.heap.size+1:=by simp
 have gP:=MH n (by omega) w
 go_enter Tryz.func91,Tryz.ntmps91
 go_upto_region 1 with fail
 refine b6<|j6 rfl<|j6 rfl<|k5 (nD _ _ _ rfl _ _ rfl rfl gP) ?_;go_frame
 generalize w.alloc (.cells (madeCells vB (n*194)) 145)=w1 at *;refine k5 (Al _ _ rfl rfl rfl) ?_;go_frame;clear gP;have bW:Below w1.heap.size w1 (w1.alloc (.cells #[.int .i64 ((n:Nat):Int),.slice (some ⟨w.heap.size,0,none⟩) n n] 137)):=(Below.refl _ _).alloc (Nat.le_refl _) _
 have bD:(w1.alloc (.cells #[.int .i64 ((n:Nat):Int),.slice (some ⟨w.heap.size,0,none⟩) n n] 137)).heap.size=w1.heap.size+1:=by simp
 have VR:∀ o,(w1.alloc (.cells #[.int .i64 ((n:Nat):Int),.slice (some ⟨w.heap.size,0,none⟩) n n] 137)).cell? ⟨w1.heap.size,o,none⟩=(#[.int .i64 ((n:Nat):Int),.slice (some ⟨w.heap.size,0,none⟩) n n]:Array Value)[o]?:=fun o=>Rg.aT ..;refine k5 (Rg.aS _ _ rfl rfl) ?_;go_frame;generalize w1.alloc (.cells #[.int .i64 ((n:Nat):Int),.slice (some ⟨w.heap.size,0,none⟩) n n] 137)=w2 at *;refine j8 rfl ?_;go_frame;have HT:=U (EV.up bW);have VS:cB (fun k=>k<w.heap.size) w1 w2 w1.heap.size:=.inr ⟨Nat.le_refl _,by omega⟩;have C0:=U (show CF _ _ w1.heap.size 0 (.int .i64 ((n:Nat):Int)) from ⟨VR 0,VS,by omega⟩);have C1:=U (show CF _ _ w1.heap.size 1 (.slice (some ⟨w.heap.size,0,none⟩) n n) from ⟨VR 1,VS,by omega⟩)
 have K:=U (show KG (fun k=>k<w.heap.size) w (cB (fun k=>k<w.heap.size) w1 w2) w2 from ⟨fun k hk=>.inl hk,fun k hk=>by rcases hk with hk | hk <;> omega,KF.aF (lI.trans ⟨bW.1,bW.2,bW.3,bW.4,fun k hk=>bW.5 k (by omega)⟩)⟩)
 generalize cB (fun k=>k<w.heap.size) w1 w2=F0 at HT C0 C1 K;clear VS;generalize w1.heap.size=tb at *;obtain ⟨L,hL⟩:∃ L,w.heap.size=L:=⟨_,rfl⟩;rw [hL] at HT C1 ⊢;clear EV lI dr bW bD VR;go_upto_region 2 with fail
 refine b6<|j8 rfl<|k5 (aZ _ rfl rfl)<|k5 (j0 (kc _ _))<|k5 (g7 (.slice (some ⟨L,0,none⟩) n n) ⟨tb,1,none⟩ (Rg.ae _ _ Tryz.underlying135 C1.u.cell)) ?_;go_frame
 refine k5 (g9 Tryz.underlying135)<|j6 rfl ?_;go_frame
 go_wp2
 go_loopw [16] (fun kv wr=>∃ (k:Nat) (F1:Nat->Prop) (V1:Nat->LV),kv=.int .i64 k/\k<=n/\Hid (aW F1 L n wr (Cm.mg n k) V1)/\Hid (CF F1 wr tb 0 (.int .i64 ((n:Nat):Int)))/\Hid (CF F1 wr tb 1 (.slice (some ⟨L,0,none⟩) n n))/\Hid (KG (fun k=>k<w.heap.size) w F1 wr)) (fun kv _=>n - (intOf kv).toNat)
 case atStart=>exact ⟨0,F0,_,rfl,Nat.zero_le _,HT,C0,C1,K⟩
 case round =>
  clear HT C0 C1 K;obtain ⟨k,F0,V1,rfl,hk,HT,C0,C1,K⟩:=hrel
  by_cases bZ:k<n
  ·have iC:(k:Int)<(n:Int):=by omega
   have KM:k<64:=by omega
   go_upto_region 5 with fail
   refine b6<|j8 rfl<|k5 (aZ _ rfl rfl)<|k5 (j0 (kc _ _))<|k5 (g7 (.slice (some ⟨L,0,none⟩) n n) ⟨tb,1,none⟩ (Rg.ae _ _ Tryz.underlying135 C1.u.cell)) ?_;go_frame
   refine j6 rfl<|k5 (bh _ _ rfl Tryz.underlying135 gS L (n) (n) (k) rfl rfl bZ)<|j8 rfl ?_;go_frame
   go_upto_region 6 with fail
   refine b6<|j8 rfl<|j6 rfl<|k5 (Rg.aI _ _ _ rfl (.int .i64 ((k:Nat):Int)) rfl (lp wr _)) ?_;go_frame
   obtain ⟨⟨u5,r2⟩,r3,V5,r4,r5⟩:=HT.u.ZF bZ (o:=k*194+1) rfl k
   refine k5 (aZ _ rfl rfl)<|k5 (j0 (Bn _ _ _))<|Rg.aL none rfl rfl (Rg.aq _ _ _ rfl _ rfl _ rfl (Rg.bA _ qN r2 r3)) ?_;go_frame
   clear r2 r3;have ee:=KG.yn (KG.refl HT.u.gI) r5;generalize (wr.alloc (.cells #[.int .i64 ((k:Nat):Int)] 3)).setCell ⟨L,k*194+1,none⟩ (.slice (some ⟨wr.heap.size,0,none⟩) 1 1)=Ao at *;replace C0:=U (C0.u.kg ee);replace C1:=U (C1.u.kg ee);replace K:=U (K.u.trans ee);replace HT:=U r4;clear ee r4 r5;go_upto_region 7 with fail;have aj:Below Ao.heap.size Ao Ao.drew:=(Below.refl _ _).drew;replace HT:=U (HT.u.up aj);replace C0:=U (C0.u.up aj);replace C1:=U (C1.u.up aj);replace K:=U (K.u.up aj);generalize cB F0 Ao Ao.drew=F1 at *;clear aj;refine Rg.Any.begin (S:=Rg.aG 11 (fun W=>Below Ao.drew.heap.size Ao.drew W) (fun _=>True)) mix ?_;generalize Ao.drew=dh at *;have hS:∀ (l:Array Bool) W,Below dh.heap.size dh W->Rg.aG 11 (fun W=>Below dh.heap.size dh W) (fun _=>True) l W:=fun l W h=>⟨.inr h,trivial⟩
   have cT:∀ (l:Array Bool) W,l.getD 11 false=true->Rg.aG 11 (fun W=>Below dh.heap.size dh W) (fun _=>True) l W:=fun l W h=>⟨.inl h,trivial⟩;have hI:Below dh.heap.size dh dh:=Below.refl _ _
   refine d8 0 11 (.pointer (some ⟨L,k*194,none⟩)) 30 (hS _ _ hI)<|d8 1 11 (.int .i64 ((k:Nat):Int)) 31 (hS _ _ hI)<|d8 2 11 (.pointer (some ⟨L,k*194,none⟩)) 32 (hS _ _ hI)<|d8 3 11 (.int .i64 ((k:Nat):Int)) 33 (hS _ _ hI)<|d8 4 11 (.int .i64 ((n:Nat):Int)) 34 (hS _ _ hI) ?_;go_frame
   refine d8 6 11 (.int .i64 ((n:Nat):Int)) 36 (hS _ _ hI)<|d7 8 11 (.pointer (some ⟨L,k*194,none⟩)) 38 rfl rfl (i9 fun w=>aZ _ rfl rfl) (hS _ _ hI)<|d7 9 11 (.pointer (some ⟨L,k*194+2,none⟩)) 39 rfl rfl (i9 fun w=>aA _ rfl rfl (wM _ _ _)) (hS _ _ hI)<|d7 12 11 (.pointer (some ⟨L,k*194,none⟩)) 41 rfl rfl (i9 fun w=>aZ _ rfl rfl) (hS _ _ hI)<|d7 13 11 (.pointer (some ⟨L,k*194+66,none⟩)) 42 rfl rfl (i9 fun w=>aA _ rfl rfl (Bo _ _ _)) (hS _ _ hI) ?_;go_frame
   refine Rg.Any.one (i:=5) (by kernel_rfl) (Rg.Any.ask (some 35) rfl rfl rfl _ _ (ax 119 _ _ rfl rfl (OG _ _)) ?_);refine (EE (F:=F1) n dh aX).mono ?_;rintro e1 jn ⟨av,rfl,kK,hb⟩;obtain ⟨ab,ao,ac,rfl⟩:=kK.dp (Cm.h_ n) aR;have jA:=Rg.acc hI hb;clear hI;replace HT:=U (HT.u.up hb);replace C0:=U (C0.u.up hb);replace C1:=U (C1.u.up hb);replace K:=U (K.u.up hb);have AF:=U kK;generalize cB F1 dh jn=F2 at *;clear hb;refine ⟨_,rfl,(hS _ _ jA),?_⟩;go_frame;refine Rg.Any.one (i:=7) (by kernel_rfl) (Rg.Any.ask (some 37) rfl rfl rfl _ _ (ax 119 _ _ rfl rfl (OG _ _)) ?_);refine (EE (F:=F2) n jn aX).mono ?_;rintro e1 q7 ⟨bv,rfl,Og,hb⟩;obtain ⟨bb,bo,bc,rfl⟩:=Og.dp (Cm.h_ n) aR;have r9:=Rg.acc jA hb;clear jA;replace HT:=U (HT.u.up hb);replace C0:=U (C0.u.up hb);replace C1:=U (C1.u.up hb)
   replace AF:=U (AF.u.up hb);replace K:=U (K.u.up hb);have BF:=U Og;generalize cB F2 jn q7=F3 at *;clear hb;refine ⟨_,rfl,(hS _ _ r9),?_⟩;go_frame;refine d7 10 11 (.pointer (some ⟨L,k*194+2+k,none⟩)) 40 rfl rfl (i9 fun w=>bz _ _ rfl Tryz.underlying142 tI L (k*194+2) (k) rfl rfl KM) (hS _ _ r9) ?_;go_frame;refine Rg.Any.one (i:=11) (by kernel_rfl) (Rg.Any.dR none rfl rfl rfl (Rg.aq _ _ _ rfl _ rfl _ rfl (Rg.bA _ cR (rX HT.u bZ KM (by omega)) (HT.u.frozen _))) (cT _ _ rfl) ?_);go_frame;refine d7 14 11 (.pointer (some ⟨L,k*194+66+k,none⟩)) 43 rfl rfl (i9 fun w=>bz _ _ rfl Tryz.underlying142 tI L (k*194+66) (k) rfl rfl KM) (cT _ _ rfl) ?_;go_frame;have cp:=HT.u.row.set (k*194+2+k) (.slice (some ⟨ab,ao,none⟩) n ac);refine Rg.Any.one (i:=15) (by kernel_rfl) (Rg.Any.dR none rfl rfl rfl (Rg.aq _ _ _ rfl _ rfl _ rfl (Rg.bA _ cR (cp.cell (by omega)) (cp.frozen _))) (cT _ _ rfl) ?_)
   go_frame;clear cp;refine Rg.Any.done (by kernel_rfl) ?_ _;clear cT;clear hS r9;obtain ⟨V4,Ir,Ov⟩:=HT.u.jy bZ KM (o1:=k*194+2+k) (o2:=k*194+66+k) (by omega) (by omega) AF.u (by rw [Cm.inv_one]; exact BF.u);rw [IC] at Ir;have ee:=KG.yn (KG.refl HT.u.gI) Ov;generalize (q7.setCell ⟨L,k*194+2+k,none⟩ (.slice (some ⟨ab,ao,none⟩) n ac)).setCell ⟨L,k*194+66+k,none⟩ (.slice (some ⟨bb,bo,none⟩) n bc)=VL at *;replace C0:=U (C0.u.kg ee);replace C1:=U (C1.u.kg ee);replace K:=U (K.u.trans ee);replace HT:=U Ir;clear ee Ov Ir AF BF;go_wp2
   go_roundw
   case rel=>exact ⟨k+1,_,V4,by go_num,by omega,HT,C0,C1,K⟩
   case measure=>simp [intOf]; omega
  ·obtain rfl:k=n:=by omega
   have iC:¬ (k:Int)<(k:Int):=by omega
   go_wp2;go_ret;exact ⟨tb,rfl,L,F0,by rw [<- hL]; exact K.u,⟨V1,HT.u⟩,C0.u,C1.u⟩

theorem VT (args:Array Value) (w:World):(callFunc 91 args).run Tryz.prog w=.ok (.enter 91 args) w:=by kernel_rfl
def GS (F:Nat->Prop) (w:World) (v:Value) (gs:List (List Nat)):Prop:=∃ a c,v=.slice a gs.length c/\(0<gs.length->∃ b o,a=some ⟨b,o,none⟩/\∀ k (hk:k<gs.length),∃ u,CF F w b (o+k) u/\FP F w u gs[k])
theorem FP.yx {w:World} {x:List Nat} (h:Rg.NP w v x):FP (fun k=>k<w.heap.size) w v x:=by
 obtain ⟨a,cap,h1,h2,h3,h4,h5⟩:=h;refine ⟨a,cap,h1,h2,h3,h4,fun h0=>?_⟩;obtain ⟨b,o,e1,e2,e3⟩:=h5 h0;exact ⟨b,o,e1,e2,e2,e3⟩
theorem GS.EW {w:World} (h:Rg.Rows w v (gs.map Ma.ah)):GS (fun k=>k<w.heap.size) w v gs:=by
 obtain ⟨a,cap,e,h2,h3,h4,h5⟩:=h.shape;rw [List.length_map] at e;refine ⟨a,cap,e,fun h0=>?_⟩;obtain ⟨b,o,e1,e2,e3⟩:=h5 (by rw [List.length_map]; exact h0);refine ⟨b,o,e1,fun k hk=>?_⟩;obtain ⟨u,hu,hi⟩:=e3 k (by rw [List.length_map]; exact hk);rw [List.getElem_map] at hi;exact ⟨u,⟨hu,e2,e2⟩,FP.yx hi⟩
theorem ID (aR:1<=n) (aX:n<=64) {w:World} (hv:GS (fun k=>k<w.heap.size) w v gs) (hg:∀ s∈gs,Cm.Gd n s) (ke:gs.length<=1000000) :
  Calls Tryz.prog 69 #[.int .i64 ((n:Nat):Int),v] w fun e w'=>∃ (tb L:Nat) (F':Nat->Prop) (T':br) (V':Nat->LV),e=.returned (.pointer (some ⟨tb,0,none⟩))/\KG (fun k=>k<w.heap.size) w F' w'/\aW F' L n w' T' V'/\CF F' w' tb 0 (.int .i64 ((n:Nat):Int))/\CF F' w' tb 1 (.slice (some ⟨L,0,none⟩) n n)/\Cm.kX n (·∈gs) T':=by
 obtain ⟨ga,gc,rfl,iX⟩:=hv;have pT:=U iX;have HG:=U hg;have On:=U ((EU aR aX n 0 (by omega) (by omega)).1);clear iX hg
 go_enter Tryz.func69,Tryz.ntmps69
 go_upto_region 1 with fail
 refine b6<|j6 rfl ?_;go_frame
 refine f3 9 (ax 91 _ _ rfl rfl (VT _ _)) ?_;refine (Am aR aX w).mono ?_;rintro e1 w1 ⟨tb,L,F1,V1,rfl,fY,yw,wN,wO⟩;refine ⟨_,rfl,?_⟩;go_frame;have HT:=U yw;have C0:=U wN;have C1:=U wO;have K:=U fY;clear fY;refine j8 rfl ?_;go_frame;clear yw wN wO;have HB:=U (show Cm.kX n (·∈gs.take 0) (Cm.mg n n) by have:=Cm.kX.new (n:=n); simpa using this);go_wp2
 go_loopw [12] (fun kv wr=>∃ (k:Nat) (F1:Nat->Prop) (T1:br) (V1:Nat->LV),kv=.int .i64 k/\k<=gs.length/\Hid (aW F1 L n wr T1 V1)/\Hid (CF F1 wr tb 0 (.int .i64 ((n:Nat):Int)))/\Hid (CF F1 wr tb 1 (.slice (some ⟨L,0,none⟩) n n))/\Hid (KG (fun k=>k<w.heap.size) w F1 wr)/\Hid (Cm.kX n (·∈gs.take k) T1)) (fun kv _=>gs.length - (intOf kv).toNat)
 case atStart=>exact ⟨0,F1,_,V1,rfl,Nat.zero_le _,HT,C0,C1,K,HB⟩
 case round =>
  clear HT C0 C1 K HB;obtain ⟨k,F1,T1,V1,rfl,hk,HT,C0,C1,K,HB⟩:=hrel
  by_cases bZ:k<gs.length
  ·have iC:(k:Int)<(gs.length:Int):=by omega
   have iX:=pT.u;obtain ⟨gb,go,rfl,EZ⟩:=iX (by omega);obtain ⟨u,nE,xE⟩:=EZ k bZ;have GX:=U (HG.u _ (List.getElem_mem bZ));obtain ⟨x,hx⟩:∃ x,Hid (gs[k]=x):=⟨_,U rfl⟩;rw [hx.u] at xE GX;obtain ⟨ub,uo,uc,rfl⟩:=xE.dp GX.u aR;have CU:=U (nE.kg K.u);have X:=U (xE.kg K.u);have a_:=U bZ;clear iX EZ nE xE;go_upto_region 4 with fail
   refine b6<|k5 (ag aK _ _ rfl gb (go) (gs.length) gc (k) rfl rfl a_.u)<|k5 (g7 (.slice (some ⟨ub,uo,none⟩) n uc) ⟨gb,go+k,none⟩ (Rg.ae _ _ Tryz.underlying27 CU.u.cell))<|j7 rfl ?_;go_frame
   go_upto_region 5 with fail
   refine b6<|j8 rfl<|j7 rfl ?_;go_frame
   refine f3 18 (cu 92 _ _ _ _ rfl rfl rfl rfl (Ol _ _)) ?_;refine (On.u _ L tb _ _ _ _ _ HT.u C0.u C1.u X.u GX.u (fun j h=>absurd h (Nat.not_lt_zero _)) (fun j _ h=>HB.u.full j h)).mono ?_;rintro e1 fN ⟨F9,T9,V9,rfl,lx,ET,OA⟩;have vC:=U (HB.u.add (gs':=(·∈gs.take (k+1))) (fun s=>by rw [List.take_succ_eq_append_getElem a_.u,hx.u]; simp) (fun s hs=>HG.u s (List.mem_of_mem_take hs)) OA);clear OA;refine ⟨_,rfl,?_⟩;go_frame;replace HT:=U ET;replace C0:=U (C0.u.kg lx);replace C1:=U (C1.u.kg lx);replace CU:=U (CU.u.kg lx);replace X:=U (X.u.kg lx);replace K:=U (K.u.trans lx);clear lx ET;go_wp2
   go_roundw
   case rel=>exact ⟨k+1,F9,T9,V9,by go_num,a_.u,HT,C0,C1,K,vC⟩
   case measure=>simp [intOf]; have:=a_.u; omega
  ·obtain rfl:k=gs.length:=by omega
   have iC:¬ (gs.length:Int)<(gs.length:Int):=by omega
   have vC:=U (by have:=HB.u; rwa [List.take_length] at this);go_wp2;go_ret;exact ⟨tb,rfl,L,F1,K.u,T1,⟨V1,HT.u⟩,C0.u,C1.u,vC.u⟩
end
section
open Go.Proofs.Cm (Lv br cd)
attribute [local irreducible] Go.Calls Go.wpList
theorem IE (aR:1<=n) (aX:n<=64) {w:World} {T:br} {V:Nat->LV} (hT:aW F0 L n w T V) (cC:CF F0 w tb 0 (.int .i64 ((n:Nat):Int))) (cz:CF F0 w tb 1 (.slice (some ⟨L,0,none⟩) n n)) (hH:Cm.cy n H) (dE:Cm.lJ n H (cd T)) (hl:∀ j,j<n->Cm.fJ n T j) {x:List Nat} {i:Nat} (hx:FP F0 w xv x) (gx:Cm.Gd n x) (hi:i<n) :
  Calls Tryz.prog 95 #[.pointer (some ⟨tb,0,none⟩),xv,.int .i64 ((i:Nat):Int)] w fun e w'=>∃ F' yv y,e=.returned yv/\KG F0 w F' w'/\aW F' L n w' T V/\FP F' w' yv y/\Cm.LI H i n x y/\Cm.Gd n y/\Below w.heap.size w w':=by
 have K:=U (KG.refl hT.gI);have HT:=U hT;have C0:=U cC;have C1:=U cz;have X:=U hx;have HH:=U hH;have px:=U dE;have HL:=U hl;have GX:=U gx;have KB:=U (Below.refl w.heap.size w);have nG:=U (Cm.LI.start hH hi gx);have tN:=cC.cell;clear hT cC cz hx hH dE hl gx
 go_enter Tryz.func95,Tryz.ntmps95
 go_wp2
 go_loopw [7,1] (fun kv yv wr=>∃ (k:Nat) (y:List Nat) (F1:Nat->Prop),kv=.int .i64 k/\i<k/\k<=n/\Hid (FP F1 wr yv y)/\Hid (aW F1 L n wr T V)/\Hid (CF F1 wr tb 0 (.int .i64 ((n:Nat):Int)))/\Hid (CF F1 wr tb 1 (.slice (some ⟨L,0,none⟩) n n))/\Hid (KG F0 w F1 wr)/\Hid (Below w.heap.size w wr)/\Hid (Cm.Gd n y)/\Hid (Cm.LI H i k x y)) (fun kv _ _=>n - (intOf kv).toNat)
 case atStart=>exact ⟨i+1,x,F0,by go_num,by omega,by omega,X,HT,C0,C1,K,KB,GX,nG⟩
 case round =>
  clear X HT C0 C1 K KB tN nG;obtain ⟨k,y,F,rfl,fY,dy,X,HT,C0,C1,K,KB,GY,nG⟩:=hrel;have tN:=C0.u.cell
  by_cases bZ:k<n
  ·have iC:(k:Int)<(n:Int):=by omega
   obtain ⟨yb,yo,yc,rfl⟩:=X.u.dp GY.u aR;have xF:=HL.u k bZ;obtain ⟨oa,oc,mL⟩:=HT.u.oZ bZ;have CO:=U (CL.mk (show wr.cell? ⟨L,k*194+1,none⟩=some (.slice oa (T k).orb.length oc) by rw [wK HT.u bZ rfl,mL]) HT.u.lt);have kY:=U (show ∀ m (h:m<(T k).orb.length),m<0->Cm.ap y k<=Cm.ap y (T k).orb[m] from fun m _ h=>absurd h (Nat.not_lt_zero _));have nH:=U (show ∃ u,cd T k k=some u from ⟨_,xF.self⟩);have a_:=U bZ;clear xF;go_upto_region 5 with fail
   refine b6<|j8 rfl<|k5 (aZ _ rfl rfl)<|k5 (j0 (kc _ _))<|k5 (g7 (.slice (some ⟨L,0,none⟩) n n) ⟨tb,1,none⟩ (Rg.ae _ _ Tryz.underlying135 C1.u.cell)) ?_;go_frame
   refine j6 rfl<|k5 (bh _ _ rfl Tryz.underlying135 gS L (n) (n) (k) rfl rfl a_.u)<|k5 (j0 (Bn _ _ _))<|k5 (g7 (.slice oa (T k).orb.length oc) ⟨L,k*194+1,none⟩ (Rg.ae _ _ Tryz.underlying26 CO.u.cell))<|k5 (g9 Tryz.underlying26) ?_;go_frame
   refine j6 rfl ?_;go_frame;clear CO tN;go_wp2
   go_loopw [8,31] (fun bv iv wr=>∃ (b m:Nat) (F1:Nat->Prop),bv=.int .i64 b/\iv=.int .i64 m/\m<=(T k).orb.length/\b<n/\Hid (FP F1 wr (.slice (some ⟨yb,yo,none⟩) n yc) y)/\Hid (aW F1 L n wr T V)/\Hid (CF F1 wr tb 0 (.int .i64 ((n:Nat):Int)))/\Hid (CF F1 wr tb 1 (.slice (some ⟨L,0,none⟩) n n))/\Hid (KG F0 w F1 wr)/\Hid (Below w.heap.size w wr)/\Hid (∃ u,cd T k b=some u)/\Hid (∀ m' (h:m' < (T k).orb.length),m' < m->Cm.ap y b<=Cm.ap y (T k).orb[m'])) (fun _ iv _=>(T k).orb.length - (intOf iv).toNat)
   case atStart=>exact ⟨k,0,F,rfl,rfl,Nat.zero_le _,bZ,X,HT,C0,C1,K,KB,nH,kY⟩
   case round =>
    clear X HT C0 C1 K KB nH kY;obtain ⟨b,m,F,rfl,rfl,hm,py,X,HT,C0,C1,K,KB,nH,kY⟩:=hrel;have VU:=Cm.nx (HL.u k bZ)
    have MC:((T k).orb.length:Int)<=64:=by omega
    by_cases jq:m<(T k).orb.length
    ·have yy:(m:Int)<((T k).orb.length:Int):=by omega
     obtain ⟨og,vD,U7,aN,kL⟩:=HT.u.U0 bZ jq;rw [mL] at U7
     injection U7 with e1 _ e2
     subst e1 e2;obtain ⟨q,hq⟩:∃ q:Nat,Hid (q=(T k).orb[m]):=⟨_,U rfl⟩;rw [<- hq.u] at aN;have CQ:=U (CL.mk aN kL);have fK:=U jq;have VV:=((HL.u k bZ).orb q).1 (by rw [hq.u]; exact List.getElem_mem jq);have yz:=U (show ∃ u,cd T k q=some u from VV)
     have fZ:q<n:=by obtain ⟨u,hu⟩:=VV; exact (HL.u k bZ).Cs q u hu
     have jC:=U (X.u.ap GY.u fZ);have jD:=U (X.u.ap GY.u py);obtain ⟨yq,yA⟩:∃ z:Nat,Hid (z=Cm.ap y q):=⟨_,U rfl⟩;obtain ⟨pU,yB⟩:∃ z:Nat,Hid (z=Cm.ap y b):=⟨_,U rfl⟩;rw [<- yA.u] at jC;rw [<- yB.u] at jD;clear aN kL VV
     by_cases aw:yq<pU
     ·have E3:(yq:Int)<(pU:Int):=by omega
      go_upto_region 7 with fail
      refine b6<|k5 (ag aO _ _ rfl og (0) ((T k).orb.length) oc (m) rfl rfl fK.u)<|k5 (g7 (.int .i64 ((q:Nat):Int)) ⟨og,0+m,none⟩ (af CQ.u.cell))<|j6 rfl ?_;go_frame
      go_upto_region 8 with fail;have eF:Below wr.heap.size wr wr.drew:=(Below.refl _ _).drew;replace KB:=U (Rg.acc KB.u eF);clear eF;have aj:Below wr.heap.size wr wr.drew:=(Below.refl _ _).drew;replace HT:=U (HT.u.up aj);replace C0:=U (C0.u.up aj);replace C1:=U (C1.u.up aj);replace X:=U (X.u.up aj);replace CQ:=U (CQ.u.up aj);replace jC:=U (jC.u.up aj);replace jD:=U (jD.u.up aj);replace K:=U (K.u.up aj);generalize cB F wr wr.drew=F1 at *;clear aj;refine Rg.Any.begin (S:=Rg.aG 8 (fun _=>True) (fun W=>Below wr.drew.heap.size wr.drew W)) mix ?_;generalize wr.drew=w1 at *;have hS:∀ (l:Array Bool) W,Below w1.heap.size w1 W->Rg.aG 8 (fun _=>True) (fun W=>Below w1.heap.size w1 W) l W:=fun l W h=>⟨.inr trivial,h⟩;have hI:Below w1.heap.size w1 w1:=Below.refl _ _
      refine d8 0 8 (.slice (some ⟨yb,yo,none⟩) n yc) 35 (hS _ _ hI)<|d8 1 8 (.int .i64 ((q:Nat):Int)) 36 (hS _ _ hI)<|d7 2 8 (.pointer (some ⟨yb,yo+q,none⟩)) 37 rfl rfl (Rg.ai bB _ _ rfl rfl yb (yo) (n) yc (q) rfl rfl fZ) (hS _ _ hI)<|d7 3 8 (.int .i64 ((yq:Nat):Int)) 38 rfl rfl (i8 ⟨yb,yo+q,none⟩ (fun W hW=>af ((Below.cell (p:=⟨yb,yo+q,none⟩) hW jC.u.lt).trans jC.u.cell))) (hS _ _ hI)<|d8 4 8 (.slice (some ⟨yb,yo,none⟩) n yc) 39 (hS _ _ hI) ?_;go_frame
      refine d8 5 8 (.int .i64 ((b:Nat):Int)) 40 (hS _ _ hI)<|d7 6 8 (.pointer (some ⟨yb,yo+b,none⟩)) 41 rfl rfl (Rg.ai bB _ _ rfl rfl yb (yo) (n) yc (b) rfl rfl py) (hS _ _ hI)<|d7 7 8 (.int .i64 ((pU:Nat):Int)) 42 rfl rfl (i8 ⟨yb,yo+b,none⟩ (fun W hW=>af ((Below.cell (p:=⟨yb,yo+b,none⟩) hW jD.u.lt).trans jD.u.cell))) (hS _ _ hI)<|i7 8 43 rfl rfl (g8 (.bool true) .lss (h:=aH _ f7)) (hS _ _ hI) ?_;go_frame
      refine Rg.Any.done (by kernel_rfl) ?_ _;clear hS hI
      have mN:=U (show ∀ m' (h:m' < (T k).orb.length),m' < m+1->Cm.ap y q<=Cm.ap y (T k).orb[m'] from fun m' h h2=>by
       have a1:=yA.u;have a2:=yB.u
       by_cases e:m'=m
       ·subst e
        rw [<- hq.u]; omega
       ·have:=kY.u m' h (by omega)
        omega)
      simp only [Nat.zero_add];go_wp2
      go_roundw
      case rel=>exact ⟨q,m+1,_,rfl,by go_num,fK.u,fZ,X,HT,C0,C1,K,KB,yz,mN⟩
      case measure=>simp [intOf]; have:=fK.u; omega
     ·have E3:¬ (yq:Int)<(pU:Int):=by omega
      go_upto_region 7 with fail
      refine b6<|k5 (ag aO _ _ rfl og (0) ((T k).orb.length) oc (m) rfl rfl fK.u)<|k5 (g7 (.int .i64 ((q:Nat):Int)) ⟨og,0+m,none⟩ (af CQ.u.cell))<|j6 rfl ?_;go_frame
      go_upto_region 8 with fail;have eF:Below wr.heap.size wr wr.drew:=(Below.refl _ _).drew;replace KB:=U (Rg.acc KB.u eF);clear eF;have aj:Below wr.heap.size wr wr.drew:=(Below.refl _ _).drew;replace HT:=U (HT.u.up aj);replace C0:=U (C0.u.up aj);replace C1:=U (C1.u.up aj);replace X:=U (X.u.up aj);replace CQ:=U (CQ.u.up aj);replace jC:=U (jC.u.up aj);replace jD:=U (jD.u.up aj);replace K:=U (K.u.up aj);generalize cB F wr wr.drew=F1 at *;clear aj;refine Rg.Any.begin (S:=Rg.aG 8 (fun _=>True) (fun W=>Below wr.drew.heap.size wr.drew W)) mix ?_;generalize wr.drew=w2 at *;have hS:∀ (l:Array Bool) W,Below w2.heap.size w2 W->Rg.aG 8 (fun _=>True) (fun W=>Below w2.heap.size w2 W) l W:=fun l W h=>⟨.inr trivial,h⟩;have hI:Below w2.heap.size w2 w2:=Below.refl _ _
      refine d8 0 8 (.slice (some ⟨yb,yo,none⟩) n yc) 35 (hS _ _ hI)<|d8 1 8 (.int .i64 ((q:Nat):Int)) 36 (hS _ _ hI)<|d7 2 8 (.pointer (some ⟨yb,yo+q,none⟩)) 37 rfl rfl (Rg.ai bB _ _ rfl rfl yb (yo) (n) yc (q) rfl rfl fZ) (hS _ _ hI)<|d7 3 8 (.int .i64 ((yq:Nat):Int)) 38 rfl rfl (i8 ⟨yb,yo+q,none⟩ (fun W hW=>af ((Below.cell (p:=⟨yb,yo+q,none⟩) hW jC.u.lt).trans jC.u.cell))) (hS _ _ hI)<|d8 4 8 (.slice (some ⟨yb,yo,none⟩) n yc) 39 (hS _ _ hI) ?_;go_frame
      refine d8 5 8 (.int .i64 ((b:Nat):Int)) 40 (hS _ _ hI)<|d7 6 8 (.pointer (some ⟨yb,yo+b,none⟩)) 41 rfl rfl (Rg.ai bB _ _ rfl rfl yb (yo) (n) yc (b) rfl rfl py) (hS _ _ hI)<|d7 7 8 (.int .i64 ((pU:Nat):Int)) 42 rfl rfl (i8 ⟨yb,yo+b,none⟩ (fun W hW=>af ((Below.cell (p:=⟨yb,yo+b,none⟩) hW jD.u.lt).trans jD.u.cell))) (hS _ _ hI)<|i7 8 43 rfl rfl (g8 (.bool false) .lss (h:=aH _ f8)) (hS _ _ hI) ?_;go_frame
      refine Rg.Any.done (by kernel_rfl) ?_ _;clear hS hI
      have mN:=U (show ∀ m' (h:m' < (T k).orb.length),m' < m+1->Cm.ap y b<=Cm.ap y (T k).orb[m'] from fun m' h h2=>by
       have a1:=yA.u;have a2:=yB.u
       by_cases e:m'=m
       ·subst e
        rw [<- hq.u]; omega
       ·have:=kY.u m' h (by omega)
        omega)
      simp only [Nat.zero_add];go_wp2
      go_roundw
      case rel=>exact ⟨b,m+1,_,rfl,by go_num,fK.u,py,X,HT,C0,C1,K,KB,nH,mN⟩
      case measure=>simp [intOf]; have:=fK.u; omega
    ·obtain rfl:m=(T k).orb.length:=by omega
     have yy:¬ ((T k).orb.length:Int)<((T k).orb.length:Int):=by omega
     have wP:=U (show ∀ q',cd T k q'≠none->Cm.ap y b<=Cm.ap y q' from fun q' Ez=>by
      obtain ⟨u,hu⟩:=Option.ne_none_iff_exists'.1 Ez;obtain ⟨m',nA,rfl⟩:=List.getElem_of_mem (((HL.u k bZ).orb q').2 ⟨u,hu⟩)
      exact kY.u m' nA nA)
     obtain ⟨u,hu⟩:=nH.u;have E4:=U (Cm.LI.step HH.u px.u GX.u fY bZ nG.u hu wP.u);have GU:=U ((HL.u k bZ).yg b u hu);have GM:=U (Cm.bf GU.u GY.u)
     have OH:b<64:=by omega
     clear wP kY nH
     by_cases mO:b=k
     ·have OI:(b:Int)=(k:Int):=by omega
      have HE:=U (show Ma.ak u y=y by
       subst mO;have:=(HL.u b bZ).self;have e:some u=some (Ma.bm n):=hu.symm.trans this
       injection e with e
       rw [e,Cm.one_mul GY.u])
      clear mO hu;go_upto_region 11 with fail
      refine b6<|j6 rfl<|j6 rfl<|k5 (g8 (.bool false) .neq (h:=az _ f8)) ?_;go_frame
      have tN:=C0.u.cell;go_wp2
      go_roundw
      case rel=>exact ⟨k+1,y,_,by go_num,by omega,by omega,X,HT,C0,C1,K,KB,GY,U (by have:=E4.u; rwa [HE.u] at this)⟩
      case measure=>simp [intOf]; omega
     ·have OI:¬ (b:Int)=(k:Int):=by omega
      obtain ⟨ub,uo,uc,EL,EM⟩:=HT.u.S8 bZ OH hu GU.u aR;have UP:=U EM;have CU:=U (CL.mk (show wr.cell? ⟨L,k*194+2+b,none⟩=some (.slice (some ⟨ub,uo,none⟩) n uc) by rw [rX HT.u bZ OH (by omega),EL]) HT.u.lt);clear mO hu EL EM;go_upto_region 11 with fail
      refine b6<|j6 rfl<|j6 rfl<|k5 (g8 (.bool true) .neq (h:=az _ f7)) ?_;go_frame
      go_upto_region 12 with fail
      refine b6<|j8 rfl<|k5 (aZ _ rfl rfl)<|k5 (j0 (kc _ _))<|k5 (g7 (.slice (some ⟨L,0,none⟩) n n) ⟨tb,1,none⟩ (Rg.ae _ _ Tryz.underlying135 C1.u.cell)) ?_;go_frame
      refine j6 rfl<|j6 rfl<|k5 (bh _ _ rfl Tryz.underlying135 gS L (n) (n) (k) rfl rfl a_.u)<|k5 (j0 (wM _ _ _))<|k5 (bz _ _ rfl Tryz.underlying142 tI L (k*194+2) (b) rfl rfl OH) ?_;go_frame
      refine k5 (g7 (.slice (some ⟨ub,uo,none⟩) n uc) ⟨L,k*194+2+b,none⟩ (Rg.ae _ _ Tryz.underlying27 CU.u.cell))<|j7 rfl ?_;go_frame
      refine f3 60 (aC 117 _ _ _ rfl rfl rfl (yr _ _)) ?_;refine (tM UP.u X.u GU.u GY.u aR aX).mono ?_;rintro e1 w3 ⟨mv,rfl,gJ,hb⟩;replace KB:=U (Rg.acc KB.u hb);refine ⟨_,rfl,?_⟩;go_frame;replace HT:=U (HT.u.up hb);replace C0:=U (C0.u.up hb);replace C1:=U (C1.u.up hb);replace X:=U (X.u.up hb);replace UP:=U (UP.u.up hb);replace CU:=U (CU.u.up hb);replace K:=U (K.u.up hb);have MV:=U gJ;generalize cB F wr w3=F1 at *;clear hb;refine j5 (mv) rfl ?_;go_frame;have tN:=C0.u.cell;go_wp2
      go_roundw
      case rel=>exact ⟨k+1,_,_,by go_num,by omega,by have:=a_.u; omega,MV,HT,C0,C1,K,KB,GM,E4⟩
      case measure=>simp [intOf]; have:=a_.u; omega
  ·obtain rfl:k=n:=by omega
   have iC:¬ (k:Int)<(k:Int):=by omega
   go_wp2;go_ret;exact ⟨_,_,rfl,K.u,HT.u,y,X.u,nG.u,GY.u,KB.u⟩
end
section
open Go.Shelf
attribute [local go_sem] Oper.semAt_some
def upto {α:Type} (f:Nat->α) (k:Nat):List α:=(List.range k).map f
theorem yC {α:Type} (f:Nat->α) (k:Nat):upto f (k+1)=upto f k++[f k]:=by simp [upto,List.range_succ]
theorem CV {α:Type} (f:Nat->α) (k:Nat):(upto f k).length=k:=by simp [upto]
theorem MI (zs:List Int):upto (fun j=>zs[j]?.getD 0) zs.length=zs:=by
 apply List.ext_getElem
 ·simp [upto]
 ·intro i h1 h2
  simp [upto,h2]
theorem IG (zs:List Int) {k:Nat} (hk:k<=zs.length):upto (fun j=>zs[j]?.getD 0) k=zs.take k:=by
 apply List.ext_getElem
 ·simp [upto,hk]
 ·intro i h1 h2
  have:i<zs.length:=by simp [upto] at h1; omega
  simp [upto,this]
theorem E5 (F:Fence) (n:Nat) (h7:F.fn 124) (hro:F.round=none) (hn:1<=n) (l Bs n₀ b off len cap:Nat) (zs:List Int) (KN:len*8<=140737488351232) (hb:b<n₀) (J Jx:List Int->World->Prop)
  (hY:∀ pre x W,J pre W->pre.length<len->YieldAt F (n - 1) Tryz.prog l #[.int .i64 x] W fun e W' =>
   (e=.returned (.bool true)/\J (pre++[x]) W'/\Below n₀ W W')∨(e=.returned (.bool false)/\Jx (pre++[x]) W'))
  (W:World) (yD:W.cell? ⟨Bs,0,none⟩=some (.slice (some ⟨b,off,none⟩) len cap)) (hc:∀ j,j<len->W.cell? ⟨b,off+j,none⟩=some (.int .i64 (zs[j]?.getD 0))) (h0:J [] W) :
  CallsIn F n Tryz.prog 124 #[.func (.yield l) #[] #[],.pointer (some ⟨Bs,0,none⟩)] W fun e W'=>(∃ v,e=.returned v) /\
   ((∃ ys,ys=upto (fun j=>zs[j]?.getD 0) len/\J ys W')∨(∃ pre,(∃ k,k<=len/\pre=upto (fun j=>zs[j]?.getD 0) k)/\Jx pre W')):=by
 refine callsIn_of_wp Tryz.func124 rfl h7 ?_ hro;simp only [Tryz.ntmps124,List.size_toArray,List.length_cons,List.length_nil,Nat.reduceAdd,Nat.reduceSub,Array.replicate_succ,Array.replicate_zero,List.push_toArray,List.append_toArray,List.nil_append,List.cons_append]
 gi_wp2
 gi_loopw [7] (fun i wr=>∃ k:Nat,k<=len/\i=.int .i64 k/\J (upto (fun j=>zs[j]?.getD 0) k) wr/\Below n₀ W wr)
  (fun i _=>len - (intOf i).toNat)
 case atStart=>exact ⟨0,Nat.zero_le _,rfl,h0,Below.refl _ _⟩
 case round =>
  obtain ⟨k,hk,rfl,OJ,OL⟩:=hrel;have yE:k<len->wr.cell? ⟨b,off+k,none⟩=some (.int .i64 (zs[k]?.getD 0)):=fun h=>(OL.cell (p:=⟨b,off+k,none⟩) hb).trans (hc k h)
  by_cases aw:k<len
  ·obtain ⟨fn,tmps,assign,body,hy,hR⟩:=hY _ (zs[k]?.getD 0) wr OJ (by rw [CV]; exact aw)
   have aaT:=yE aw
   gi_wp2
   refine hR.mono ?_
   rintro e W3 (⟨rfl,VW,jz⟩ | ⟨rfl,OM⟩)
   ·gi_wp2
    go_roundw
    case rel=>exact ⟨k+1,by omega,by simp,by rw [yC]; exact VW,OL.trans jz⟩
    case measure=>simp [intOf]; omega
   ·gi_wp2
    refine bodyPost_ret (results_none rfl _ _ _) rfl ?_;exact ⟨⟨_,rfl⟩,.inr ⟨_,⟨k+1,by omega,(yC _ _).symm⟩,OM⟩⟩
  ·obtain rfl:k=len:=by omega
   gi_wp2
   go_end0
   exact ⟨⟨_,rfl⟩,.inl ⟨_,rfl,OJ⟩⟩
def iY (n₀:Nat) (W:World) (sv:Value) (zs:List Int):Prop:=∃ b off cap,sv=.slice (some ⟨b,off,none⟩) zs.length cap/\b<n₀/\∀ j,j<zs.length->W.cell? ⟨b,off+j,none⟩=some (.int .i64 (zs[j]?.getD 0))
theorem iY.p {A B:World} (h:Below n₀ A B) {sv:Value} {zs:List Int}:iY n₀ A sv zs->iY n₀ B sv zs
 | ⟨b,off,cap,e,hb,hc⟩=>⟨b,off,cap,e,hb,fun j hj=>(h.cell (p:=⟨b,off+j,none⟩) hb).trans (hc j hj)⟩
theorem II (F:Fence) (n:Nat) (h5:F.fn 94) (hro:F.round=none) (a:Option Addr) (len cap:Nat) (w:World) :
  CallsIn F n Tryz.prog 94 #[.slice a len cap] w fun e w'=>e=.returned (.func (.func 124) #[] #[.pointer (some ⟨w.heap.size,0,none⟩)])/\w'=w.alloc (.cells #[.slice a len cap] 26):=by
 refine callsIn_of_wp Tryz.func94 rfl h5 ?_ hro;simp only [Tryz.ntmps94,List.size_toArray,List.length_cons,List.length_nil,Nat.reduceAdd,Nat.reduceSub,Array.replicate_succ,Array.replicate_zero,List.push_toArray,List.append_toArray,List.nil_append,List.cons_append]
 gi_wp2
 go_ret;exact ⟨rfl,rfl⟩
theorem Ap (F:Fence) (n:Nat) (h7:F.fn 124) (hro:F.round=none) (hn:1<=n) (Bs n₀:Nat) (sv:Value) (zs:List Int) (KN:zs.length*8<=140737488351232) (w:World) (yD:Bs<w.heap.size) (VX:n₀<=w.heap.size)
  (hc:w.cell? ⟨Bs,0,none⟩=some sv) (hI:iY n₀ w sv zs) :
  SeqStopsK F n Tryz.prog 124 #[.pointer (some ⟨Bs,0,none⟩)] (fun x:Int=>#[Value.int .i64 x]) (Below n₀) (fun ys=>ys=zs) (fun pre=>pre <+: zs) zs.length w:=fun l J Jx W hW _ _ hY h0=>by
 have Aq:=(hW.cell (p:=⟨Bs,0,none⟩) yD).trans hc;obtain ⟨b,off,cap,rfl,hb,dS⟩:=hI.p (hW.mono VX);refine (E5 F n h7 hro hn l Bs n₀ b off zs.length cap zs KN hb J Jx hY W Aq dS h0).mono ?_
 rintro e W' ⟨he,⟨ys,rfl,hj⟩ | ⟨pre,⟨k,hk,rfl⟩,hj⟩⟩
 ·exact ⟨he,.inl ⟨_,MI zs,hj⟩⟩
 ·exact ⟨he,.inr ⟨_,by rw [IG zs hk]; exact List.take_prefix _ _,hj⟩⟩
theorem VY:(Tryz.prog.info? 3).map (fun i=>(i.zero,i.size,i.bytes))=some (some (.int .i64 0),1,8):=by kernel_rfl
theorem Ar (F:Fence) (n:Nat) (h3:F.fn 149) (h5:F.fn 124) (hro:F.round=none) (hn:3<=n) (Bs:Nat) (sv:Value) (zs:List Int) (hlen:zs.length<=1000000) (w:World) (yD:Bs<w.heap.size) (cC:w.cell? ⟨Bs,0,none⟩=some sv) (hI:iY w.heap.size w sv zs) :
  CallsIn F n Tryz.prog 149 #[.slice none 0 0,.func (.func 124) #[] #[.pointer (some ⟨Bs,0,none⟩)]] w fun e W'=>∃ v,e=.returned v/\W'.ownsRow w.heap.size 3 1 v zs.length (zs.map (Value.int .i64))/\Below w.heap.size w W':=by
 have h1:1<=n:=by omega
 obtain ⟨i0,hi,dr,bD,dM⟩:=info_parts VY;refine callsIn_of_wp_marks Tryz.func149 rfl h3 ?_ hro;simp only [Tryz.ntmps149,List.size_toArray,List.length_cons,List.length_nil,Nat.reduceAdd,Nat.reduceSub,Array.replicate_succ,Array.replicate_zero,List.push_toArray,List.append_toArray,List.nil_append,List.cons_append]
 gi_wp2
 have bO:=Boxed.new w 26 (.slice none 0 0);have Td:Below w.heap.size w (w.alloc (.cells #[.slice none 0 0] 26)):=(Below.refl _ w).alloc (Nat.le_refl _) _
 refine wpIn_rangeFunc_ownG hro h1 (gf:=124) (lb:=#[.pointer (some ⟨Bs,0,none⟩)]) rfl h5 (enters_of Tryz.func124 (by kernel_rfl) rfl)
  (Ap F (n - 1) h5 hro (by omega) Bs w.heap.size sv zs (by omega) _ (by simp; omega) (by simp) ((Td.cell (p:=⟨Bs,0,none⟩) yD).trans cC) (hI.p Td)) belowK_t (belowK_b (by simp)) (Below.refl _ _) (fun _=>rfl)
  (fun pre W=>(∃ v,Boxed W w.heap.size 26 v/\W.ownsRow w.heap.size 3 1 v pre.length (pre.map (Value.int .i64))/\(v=.slice none 0 0↔pre=[]))/\Below w.heap.size w W)
  (fun _ _ _=>False)
  (OwnFrom.and (Own.from (holdsRow_own w.heap.size w.heap.size 26 3 1 (fun pre=>pre.length) (fun pre=>pre.map (Value.int .i64)) (fun pre v=>v=.slice none 0 0↔pre=[])) _) (ownFrom_below (Nat.le_refl _) (by simp)))
  (fun _ _ _ _ _ hs _ _=>hs)
  ⟨⟨_,bO,World.ownsRow_nil _ _ _ _,by simp⟩,Td⟩
  (fun x=>{ tmps:=#[.slice none 0 0,.func (.func 124) #[] #[.pointer (some ⟨Bs,0,none⟩)],.pointer (some ⟨w.heap.size,0,none⟩),undef,.slice none 0 0,.int .i64 x,.func (.func 124) #[] #[.pointer (some ⟨Bs,0,none⟩)],.int .i64 x,undef,undef,undef,undef,undef],defers:=[] }) ?assign ?body ?done ?stop
 case assign =>
  intro l x W K hK
  gi_wp2
  exact hK
 case body =>
  rintro l pre x W ⟨⟨v,hv,bH,rH⟩,hB⟩ aw;have hc:=hv.cell
  gi_wp2_with (gi_at_builtin; refine wpListIn_append_own _ rfl _ _ 26 rfl w.heap.size 3 i0 (.int .i64 0) 1 8 Tryz.underlying26 hi dr bD dM rfl (by decide) _ _ _ rfl (bH.alloc _) ⟨W.heap.size,0,none⟩ 1 1 [.int .i64 x] rfl rfl (cell_one_new _ _ _) (by simp [Value.oneCell']) (by unfold maxLen; omega) (by omega) (by have:=hB.size; simp; omega) ?_; intro v' w1 OP VZ _; obtain ⟨g',aaU,rfl⟩:=ownsRow_succ OP; obtain ⟨xA,S0,pK,dy,df⟩:=hv.appended (by decide) bH hB.size (Nat.le_refl _) OP VZ; have cz:=xA.cell; have xy:=xA.frozen)
  exact ⟨dy.from _,df,⟨_,S0,by simpa using pK,by simp⟩,hB.trans df⟩
 case done =>
  rintro D ys W hD rfl ⟨⟨v,hv,bH,rH⟩,hB⟩ hK;have hc:=hv.cell
  gi_wp2
  refine ⟨by simp,.inl ⟨_,_,rfl,run_takeDeferred hK,?_⟩⟩;exact ⟨_,results_tmp rfl _ _ _,v,rfl,ownsRow_putObj bH _ hK rfl,hB.trans (belowK_b (w:=w) (Nat.le_refl _) W D _ _ (by simp at hD; omega) hK rfl rfl)⟩
 case stop =>
  rintro D c pre W _ _ h _;exact h.elim
end
section
open Go.Proofs.Ob
attribute [local irreducible] Go.Calls
theorem o5 {o:Oper} {a:Act} {w:World} (t:TypeId) (x y:Operand) (ho:o.op=.makeSlice t x y) (n m:Value) (hx:a.eval x=n) (hy:a.eval y=m) (hr:(Instr.makeSlice t n m).run Tryz.prog w=.ok v w'):(execOp a.eval o).run Tryz.prog w=.ok (.value v) w':=by
 unfold execOp;simp only [ho,hx,hy,Sem.run_bind,Sem.run_pure,hr,Result.andThen_ok]

theorem E6 (v:Value) (l:List Int) (w:World) (h:Rg.Ints w v l) (hl:l.length<=1000000) :
  Calls Tryz.prog 36 #[v] w fun e w'=>∃ v',e=.returned v'/\w'.ownsRow w.heap.size 3 1 v' l.length (l.map (Value.int .i64))/\Below w.heap.size w w':=by
 obtain ⟨la,lc,rfl,_⟩:=h.shape;have HI:=U h;have K:=U (Below.refl w.heap.size w);clear h
 go_enter Tryz.func36,Tryz.ntmps36
 go_upto_region 1 with fail;refine b6 ?_;have cj:=rD.new (B:=w.heap.size) w (Nat.le_refl _);refine k5 (Rg.nY aO rfl w) ?_;go_frame;have hb:=(Below.refl w.heap.size w).alloc (Nat.le_refl _) (.cells #[] 3);generalize w.alloc (.cells #[] 3)=w1 at *;replace HI:=U (HI.u.p hb);replace K:=U (Rg.acc K.u hb);clear hb;have FO:=U cj;refine j7 rfl ?_;go_frame;obtain ⟨v5,X5,r1,r2,r3⟩:=Rg.u_ (P:=Tryz.prog) aO 26 FO.u.1 K.u.size HI.u pR (by rw [List.length_map]; omega)
 refine k5 (Rg.bw _ _ _ rfl rfl rfl r1)<|j5 (v5) rfl ?_;go_frame
 rw [List.length_map,Nat.zero_add,List.nil_append] at r2;have R2:=U r2;have K5:=U (K.u.grown r3 K.u.size (fun j hj=>(FO.u.1.lt j hj).1));clear r1 r2 r3 FO;go_wp2;go_ret;exact ⟨_,rfl,R2.u,K5.u⟩
end
section
attribute [local irreducible] Go.Calls
theorem gT:(Tryz.prog.info? 25).map (fun i=>(i.zero,i.size,i.bytes))=some (some (.agg #[.int .i64 0,.slice none 0 0,.slice none 0 0]),3,56):=by kernel_rfl
structure cD (w:World) (b:Nat) (x y z:Value):Prop where
 c0:w.cell? ⟨b,0,none⟩=some x
 c1:w.cell? ⟨b,1,none⟩=some y
 c2:w.cell? ⟨b,2,none⟩=some z
 f0:w.frozen? ⟨b,0,none⟩=false
 f1:w.frozen? ⟨b,1,none⟩=false
 f2:w.frozen? ⟨b,2,none⟩=false
 lt:b<w.heap.size
theorem cD.upto {w:World} {b:Nat} {x y:Value} (h:cD w b x y z) (hb:Below B w w') (hB:b<B):cD w' b x y z :=
 ⟨(hb.cell (p:=⟨b,0,none⟩) hB).trans h.c0,(hb.cell (p:=⟨b,1,none⟩) hB).trans h.c1,(hb.cell (p:=⟨b,2,none⟩) hB).trans h.c2,(hb.frozen (p:=⟨b,0,none⟩) hB).trans h.f0,(hb.frozen (p:=⟨b,1,none⟩) hB).trans h.f1,(hb.frozen (p:=⟨b,2,none⟩) hB).trans h.f2,Nat.lt_of_lt_of_le h.lt hb.size⟩
theorem cD.p {w:World} {b:Nat} {x y:Value} (h:cD w b x y z) (hb:Below w.heap.size w w'):cD w' b x y z:=h.upto hb h.lt
theorem cD.kp {w:World} {b:Nat} {x y:Value} (h:cD w b x y z) (hk:Rg.Kp M w w') (hM:¬ M b):cD w' b x y z:=by
 have e:=hk.block b h.lt hM;exact ⟨(World.cell?_of_block (a:=⟨b,0,none⟩) e).trans h.c0,(World.cell?_of_block (a:=⟨b,1,none⟩) e).trans h.c1,(World.cell?_of_block (a:=⟨b,2,none⟩) e).trans h.c2,(World.frozen?_of_block (a:=⟨b,0,none⟩) e).trans h.f0,(World.frozen?_of_block (a:=⟨b,1,none⟩) e).trans h.f1,(World.frozen?_of_block (a:=⟨b,2,none⟩) e).trans h.f2,Nat.lt_of_lt_of_le h.lt hk.size⟩
theorem cD.new (w:World) (x y z:Value):cD (w.alloc (.cells #[x,y,z] 25)) w.heap.size x y z :=
 ⟨by rw [Rg.aT]; rfl,by rw [Rg.aT]; rfl,by rw [Rg.aT]; rfl,kG _ _ _ 0 _,kG _ _ _ 0 _,kG _ _ _ 0 _,by simp⟩
theorem aV {w:World} {b:Nat} {u3:Value} (d:Int) (a:Option Addr) (n c:Nat) (a':Option Addr) (n' c':Nat) (h:cD w b u1 u2 u3) :
  (storeVar 25 ⟨b,0,none⟩ (.agg #[.int .i64 d,.slice a n c,.slice a' n' c'])).run Tryz.prog w=.ok () (((w.setCell ⟨b,0,none⟩ (.int .i64 d)).setCell ⟨b,1,none⟩ (.slice a n c)).setCell ⟨b,2,none⟩ (.slice a' n' c')):=by
 obtain ⟨i0,hi,dr,bD,dM⟩:=info_parts gT
 have g2:(w.setCell ⟨b,0,none⟩ (.int .i64 d)).cell? ⟨b,1,none⟩=some u2:=by
  rw [World.cell?_setCell_other (h:=by intro e; injection e with e1 e2; omega) ..]
  exact h.c1
 have gf:(w.setCell ⟨b,0,none⟩ (.int .i64 d)).frozen? ⟨b,1,none⟩=false:=by rw [World.frozen?_setCell]; exact h.f1
 have g3:((w.setCell ⟨b,0,none⟩ (.int .i64 d)).setCell ⟨b,1,none⟩ (.slice a n c)).cell? ⟨b,2,none⟩=some u3:=by
  rw [World.cell?_setCell_other (h:=by intro e; injection e with e1 e2; omega) ..,World.cell?_setCell_other (h:=by intro e; injection e with e1 e2; omega) ..]
  exact h.c2
 have gf3:((w.setCell ⟨b,0,none⟩ (.int .i64 d)).setCell ⟨b,1,none⟩ (.slice a n c)).frozen? ⟨b,2,none⟩=false:=by rw [World.frozen?_setCell,World.frozen?_setCell]; exact h.f2
 have yF:(⟨b,0,none⟩:Addr).add 0=⟨b,0,none⟩:=by simp [Addr.add]
 have jB:(⟨b,0,none⟩:Addr).add 1=⟨b,1,none⟩:=by simp [Addr.add]
 have iN:(⟨b,0,none⟩:Addr).add 2=⟨b,2,none⟩:=by simp [Addr.add]
 simp [storeVar,sizeOf,typeInfo,hi,bD,Value.cells,storeCells,store,yF,jB,iN];simp [Sem.run,h.c0,h.f0,g2,gf,g3,gf3]
theorem cD.set {w:World} {b:Nat} {u3:Value} (h:cD w b u1 u2 u3) (x y z:Value):cD (((w.setCell ⟨b,0,none⟩ x).setCell ⟨b,1,none⟩ y).setCell ⟨b,2,none⟩ z) b x y z:=by
 have s1:(w.setCell ⟨b,0,none⟩ x).cell? ⟨b,0,none⟩=some x:=World.cell?_setCell_same (h:=h.c0) ..
 have s2:(w.setCell ⟨b,0,none⟩ x).cell? ⟨b,1,none⟩=some u2:=by
  rw [World.cell?_setCell_other (h:=by intro e; injection e with e1 e2; omega) ..]; exact h.c1
 have s3:((w.setCell ⟨b,0,none⟩ x).setCell ⟨b,1,none⟩ y).cell? ⟨b,2,none⟩=some u3:=by
  rw [World.cell?_setCell_other (h:=by intro e; injection e with e1 e2; omega) ..,World.cell?_setCell_other (h:=by intro e; injection e with e1 e2; omega) ..]; exact h.c2
 refine ⟨?_,?_,World.cell?_setCell_same (h:=s3) ..,?_,?_,?_,by simpa using h.lt⟩
 ·rw [World.cell?_setCell_other (h:=by intro e; injection e with e1 e2; omega) ..,World.cell?_setCell_other (h:=by intro e; injection e with e1 e2; omega) ..]; exact s1
 ·rw [World.cell?_setCell_other (h:=by intro e; injection e with e1 e2; omega) ..]; exact World.cell?_setCell_same (h:=s2) ..
 ·rw [World.frozen?_setCell,World.frozen?_setCell,World.frozen?_setCell]; exact h.f0
 ·rw [World.frozen?_setCell,World.frozen?_setCell,World.frozen?_setCell]; exact h.f1
 ·rw [World.frozen?_setCell,World.frozen?_setCell,World.frozen?_setCell]; exact h.f2
theorem cD.V0 {w:World} {b:Nat} {u3:Value} (h:cD w b u1 u2 u3) (y z:Value):cD ((w.setCell ⟨b,1,none⟩ y).setCell ⟨b,2,none⟩ z) b u1 y z:=by
 have s3:(w.setCell ⟨b,1,none⟩ y).cell? ⟨b,2,none⟩=some u3:=by
  rw [World.cell?_setCell_other (h:=by intro e; injection e with e1 e2; omega) ..]; exact h.c2
 refine ⟨?_,?_,World.cell?_setCell_same (h:=s3) ..,?_,?_,?_,by simpa using h.lt⟩
 ·rw [World.cell?_setCell_other (h:=by intro e; injection e with e1 e2; omega) ..,World.cell?_setCell_other (h:=by intro e; injection e with e1 e2; omega) ..]; exact h.c0
 ·rw [World.cell?_setCell_other (h:=by intro e; injection e with e1 e2; omega) ..]; exact World.cell?_setCell_same (h:=h.c1) ..
 ·rw [World.frozen?_setCell,World.frozen?_setCell]; exact h.f0
 ·rw [World.frozen?_setCell,World.frozen?_setCell]; exact h.f1
 ·rw [World.frozen?_setCell,World.frozen?_setCell]; exact h.f2
theorem oh {w:World} {b:Nat} {x y:Value} (h:cD w b x y z):(loadVar 25 ⟨b,0,none⟩).run Tryz.prog w=.ok (.agg #[x,y,z]) w:=by
 obtain ⟨i0,hi,dr,bD,dM⟩:=info_parts gT
 have yF:(⟨b,0,none⟩:Addr).add 0=⟨b,0,none⟩:=by simp [Addr.add]
 have jB:(⟨b,0,none⟩:Addr).add 1=⟨b,1,none⟩:=by simp [Addr.add]
 have iN:(⟨b,0,none⟩:Addr).add 2=⟨b,2,none⟩:=by simp [Addr.add]
 have hg:(isAgg 25).run Tryz.prog w=.ok true w:=by kernel_rfl
 simp [loadVar,hg,sizeOf,typeInfo,hi,bD,loadCells,loadCellsFrom,load,yF,jB,iN];simp [Sem.run,h.c0,h.c1,h.c2]
theorem jE {fn:Func} {p:Go.Tmp} (h:fn.results=#[.cell p 25]) (tmps:Array Value) {w:World} {b:Nat} {x y:Value} (hp:tmps.getD p undef=.pointer (some ⟨b,0,none⟩)) (h1:cD w b x y z) :
  (results fn tmps).run Tryz.prog w=.ok (.agg #[x,y,z]) w:=by
 have Cv:tmps[p]?.getD undef=.pointer (some ⟨b,0,none⟩):=by simpa using hp
 simp [results,h,Cv,asAddr,oh h1]
theorem bx {fn:Func} {p u:Go.Tmp} (h:fn.results=#[.cell p 25,.tmp u]) (tmps:Array Value) {w:World} {b:Nat} {x y:Value} (hp:tmps.getD p undef=.pointer (some ⟨b,0,none⟩)) (hu:tmps.getD u undef=v) (h1:cD w b x y z) :
  (results fn tmps).run Tryz.prog w=.ok (.tuple #[.agg #[x,y,z],v]) w:=by
 rw [results_cell_tmp h,hp,hu];simp [asAddr,oh h1,Result.andThen]
theorem bN {o:Oper} {a:Act} {w:World} (ho:o.op=.alloc 25):(execOp a.eval o).run Tryz.prog w=.ok (.value (.pointer (some ⟨w.heap.size,0,none⟩))) (w.alloc (.cells #[.int .i64 0,.slice none 0 0,.slice none 0 0] 25)):=by
 obtain ⟨i0,hi,dr,bD,dM⟩:=info_parts gT;unfold execOp;simp [ho,Instr.alloc,typeInfo,zeroValue,hi,dr,newVar,Value.cells,Result.andThen];rfl
theorem rI {o:Oper} {a:Act} {w:World} (x:Operand) (ho:o.op=.build 25 #[(0,x)]) (hx:a.eval x=.int .i64 d) :
  (execOp a.eval o).run Tryz.prog w=.ok (.value (.agg #[.int .i64 d,.slice none 0 0,.slice none 0 0])) w:=by
 unfold execOp;simp only [ho,Sem.run_bind,Sem.run_pure];simp only [List.map_toArray,List.map_cons,List.map_nil,hx]
 have h:(Instr.build 25 #[(0,.int .i64 d)]).run Tryz.prog w=.ok (.agg #[.int .i64 d,.slice none 0 0,.slice none 0 0]) w:=by kernel_rfl
 first | (rw [h]; rfl) | (erw [h]; rfl)
theorem cU {o:Oper} {a:Act} {w:World} (ho:o.op=.build 25 #[]) :
  (execOp a.eval o).run Tryz.prog w=.ok (.value (.agg #[.int .i64 0,.slice none 0 0,.slice none 0 0])) w:=by
 unfold execOp;simp only [ho,Sem.run_bind,Sem.run_pure]
 have h:(Instr.build 25 #[]).run Tryz.prog w=.ok (.agg #[.int .i64 0,.slice none 0 0,.slice none 0 0]) w:=by kernel_rfl
 first | (simp [h,Result.andThen]) | (rw [h]; rfl) | (erw [h]; rfl)
theorem cP (b:Nat) (w:World):(Instr.fieldAt 25 (.pointer (some ⟨b,0,none⟩)) 0).run Tryz.prog w=.ok (.pointer (some ⟨b,0,none⟩)) w:=by kernel_rfl
theorem cn (b:Nat) (w:World):(Instr.fieldAt 25 (.pointer (some ⟨b,0,none⟩)) 1).run Tryz.prog w=.ok (.pointer (some ⟨b,1,none⟩)) w:=by kernel_rfl
theorem cK (b:Nat) (w:World):(Instr.fieldAt 25 (.pointer (some ⟨b,0,none⟩)) 2).run Tryz.prog w=.ok (.pointer (some ⟨b,2,none⟩)) w:=by kernel_rfl
theorem yG:(Tryz.prog.info? 22).map (fun i=>(i.zero,i.size,i.bytes))=some (some (.slice none 0 0),1,24):=by kernel_rfl
theorem wQ:(Tryz.prog.info? 23).map (fun i=>(i.zero,i.size,i.bytes))=some (some (.slice none 0 0),1,24):=by kernel_rfl
theorem bE:Rg.q6 Tryz.prog 23 41 (.slice none 0 0) 24:=⟨Tryz.underlying23,eU,rfl,by decide⟩
theorem rJ (X:World) (u:Value) (hs:∃ a n c,u=.slice a n c):(Instr.buildSlice 23 1 #[(0,u)]).run Tryz.prog X=.ok (.slice (some ⟨X.heap.size,0,none⟩) 1 1) (X.alloc (.cells #[u] 41)):=by
 obtain ⟨i0,hi,dr,bD,dM⟩:=info_parts eU;obtain ⟨a,n,c,rfl⟩:=hs;refine run_buildSlice X 23 41 1 _ _ i0 _ Tryz.underlying23 hi dr (by rw [bD]; decide) (by rw [bD]; decide) ?_;generalize (fun x=>((Value.slice none 0 0).cells)[x % (Value.slice none 0 0).cells.size]!)=f;rw [bD];have h1:Array.range (1*1)=#[0]:=rfl;simp [Instr.fill,Value.cells,h1]
end
section
theorem aM.kp {F M:Nat->Prop} {w w':World} {v:Value} {ll:List (List Int)} (h:Rg.aM F w v ll) (hk:Rg.Kp M w w') (hF:∀ k,F k->¬ M k):Rg.aM F w' v ll:=by
 obtain ⟨us,h1,h2⟩:=h;exact ⟨us,h1.kp hk hF,h2.kp hk hF⟩
theorem aM.mono {F F':Nat->Prop} {w:World} {v:Value} {ll:List (List Int)} (h:Rg.aM F w v ll) (hF:∀ k,F k->F' k):Rg.aM F' w v ll:=by
 obtain ⟨us,h1,h2⟩:=h;exact ⟨us,h1.mono hF,h2.mono hF⟩
theorem aM.rows {w:World} (h:Rg.aM F w v ll):Rg.Rows w v ll:=by
 obtain ⟨us,h1,h2⟩:=h;exact ⟨us,h1.Eg,h2.1,fun i a b=>(h2.2 i a b).ints⟩
theorem bT.kp {F M:Nat->Prop} {w w':World} {us:List Value} {ll:List (List (List Int))} (h:Rg.bT F w us ll) (hk:Rg.Kp M w w') (hF:∀ k,F k->¬ M k):Rg.bT F w' us ll:=⟨h.1,fun i a b=>aM.kp (h.2 i a b) hk hF⟩
theorem bT.mono {F F':Nat->Prop} {w:World} {us:List Value} {ll:List (List (List Int))} (h:Rg.bT F w us ll) (hF:∀ k,F k->F' k):Rg.bT F' w us ll:=⟨h.1,fun i a b=>aM.mono (h.2 i a b) hF⟩
theorem bL.snoc {w:World} {us:List Value} {u:Value} {l:List Int} (h:Rg.bL F w us ll) (hu:Rg.FI F w u l):Rg.bL F w (us++[u]) (ll++[l]):=by
 refine ⟨by simp [h.1],fun i a b=>?_⟩
 by_cases e:i<us.length
 ·have e2:i<ll.length:=by rw [<- h.1]; exact e
  rw [List.getElem_append_left e,List.getElem_append_left e2];exact h.2 i e e2
 ·have e1:i=us.length:=by simp at a; omega
  subst e1;have hl:=h.1;simp [hl];exact hu
theorem bT.snoc {w:World} {us:List Value} {ll:List (List (List Int))} {u:Value} {l:List (List Int)} (h:Rg.bT F w us ll) (hu:Rg.aM F w u l):Rg.bT F w (us++[u]) (ll++[l]):=by
 refine ⟨by simp [h.1],fun i a b=>?_⟩
 by_cases e:i<us.length
 ·have e2:i<ll.length:=by rw [<- h.1]; exact e
  rw [List.getElem_append_left e,List.getElem_append_left e2];exact h.2 i e e2
 ·have e1:i=us.length:=by simp at a; omega
  subst e1;have hl:=h.1;simp [hl];exact hu
def iZ (B:Nat) (W:World) (tc:Nat) (ov rv:Value) (k:Nat):Prop:=B<=k/\k<W.heap.size/\ov.ownBlock≠some k/\rv.ownBlock≠some k/\k≠tc
structure fe (B:Nat) (W:World) (tc:Nat) (c0 c1 c2 ov rv:Value) (O:List (List Int)) (R:List (List (List Int))):Prop where
 kl:cD W tc c0 c1 c2
 low:B<=tc
 own:∃ us vs,W.ownsRow B 26 1 ov O.length us/\W.ownsRow B 41 1 rv R.length vs/\Rg.bL (iZ B W tc ov rv) W us O/\Rg.bT (iZ B W tc ov rv) W vs R
 apart:∀ k,ov.ownBlock=some k->rv.ownBlock≠some k
 ot:ov.ownBlock≠some tc
 rt:rv.ownBlock≠some tc
theorem iZ.up {k:Nat} (h:iZ B W tc ov rv k) (hs:W.heap.size<=W'.heap.size):iZ B W' tc ov rv k:=⟨h.1,Nat.lt_of_lt_of_le h.2.1 hs,h.2.2⟩
theorem fe.p {B:Nat} {W W':World} {tc:Nat} {c0 c1 c2 ov rv:Value} {O:List (List Int)} {R:List (List (List Int))} (h:fe B W tc c0 c1 c2 ov rv O R) (hb:Below W.heap.size W W'):fe B W' tc c0 c1 c2 ov rv O R:=by
 obtain ⟨us,vs,h1,h2,h3,h4⟩:=h.own;have hk:Rg.Kp (fun _=>False) W W':=Rg.Kp.aF hb;exact ⟨h.kl.p hb,h.low,⟨us,vs,Rg.bV h1 hb,Rg.bV h2 hb,(h3.kp hk (fun _ _=>id)).mono (fun k hk=>hk.up hb.size),bT.mono (bT.kp h4 hk (fun _ _=>id)) (fun k hk=>hk.up hb.size)⟩,h.apart,h.ot,h.rt⟩
theorem fe.start {c0 c1 c2:Value} (ht:cD W tc c0 c1 c2) (hl:B<=tc):fe B W tc c0 c1 c2 (.slice none 0 0) (.slice none 0 0) [] [] :=
 ⟨ht,hl,⟨[],[],World.ownsRow_nil _ _ _ _,World.ownsRow_nil _ _ _ _,Rg.bL.nil _ _,⟨rfl,fun i h=>by simp at h⟩⟩,fun k h=>by simp [Value.ownBlock] at h,by simp [Value.ownBlock],by simp [Value.ownBlock]⟩
theorem fe.Au {c0 c1 c2:Value} {O:List (List Int)} {R:List (List (List Int))} (h:fe B W tc c0 c1 c2 ov rv O R):(∀ k,ov.ownBlock=some k->B<=k/\k<W.heap.size)/\(∀ k,rv.ownBlock=some k->B<=k/\k<W.heap.size):=by
 obtain ⟨us,vs,h1,h2,_⟩:=h.own;exact ⟨fun k e=>h1.lt k e,fun k e=>h2.lt k e⟩
theorem fe.n8 {c0 c1 c2:Value} {O:List (List Int)} {R:List (List (List Int))} (h:fe B W tc c0 c1 c2 ov rv O R) (hB:B<=W.heap.size) {x:Value} {l:List Int} (hx:Rg.FI (iZ B W tc ov rv) W x l) (hs:x.oneCell'=true) (hO:O.length<1000000) {p:Nat} (hp:W.cell? ⟨p,0,none⟩=some x) (ty:TypeId) :
  ∃ a c X,(Builtin.append_ #[22,22] ty #[ov,.slice (some ⟨p,0,none⟩) 1 1]).run Tryz.prog W=.ok (.slice a (O.length+1) c) X/\fe B X tc c0 c1 c2 (.slice a (O.length+1) c) rv (O++[l]) R/\W.grownBy X ov.ownBlock /\
   (∀ k,iZ B W tc ov rv k->iZ B X tc (.slice a (O.length+1) c) rv k):=by
 obtain ⟨us,vs,h1,h2,h3,h4⟩:=h.own;obtain ⟨v',X,r1,r2,r3,r4,a,c,rfl⟩:=fA (P:=Tryz.prog) bI ty h1 hB p 1 hp hs hO;have hk:Rg.Kp (fun k=>ov.ownBlock=some k) W X:=Rg.Kp.cH r3 fun _ e=>e
 have hm:∀ k,iZ B W tc ov rv k->iZ B X tc (.slice a (O.length+1) c) rv k:=fun k g=>by
  refine ⟨g.1,Nat.lt_of_lt_of_le g.2.1 hk.size,fun e=>?_,g.2.2.2⟩
  rcases r4 with r4 | r4
  ·rw [r4] at e; exact g.2.2.1 e
  ·rw [r4] at e; injection e with e; have:=g.2.1; omega
 have hg:∀ k,iZ B W tc ov rv k->¬ ov.ownBlock=some k:=fun k g=>g.2.2.1;refine ⟨a,c,X,r1,⟨h.kl.kp hk h.ot,h.low,⟨us++[x],vs,by rw [List.length_append]; exact r2,iB h2 hk (fun k e e2=>h.apart k e e2),(bL.snoc (h3.kp hk hg) (hx.kp hk hg)).mono hm,bT.mono (bT.kp h4 hk hg) hm⟩,fun k e e2=>?_,fun e=>?_,h.rt⟩,r3,hm⟩
 ·rcases r4 with r4 | r4
  ·rw [r4] at e; exact h.apart k e e2
  ·rw [r4] at e; injection e with e; have:=(h.Au.2 k e2).2; omega
 ·rcases r4 with r4 | r4
  ·rw [r4] at e; exact h.ot e
  ·rw [r4] at e; injection e with e; have:=h.kl.lt; omega
theorem fe.OQ {c0 c1 c2:Value} {O:List (List Int)} {R:List (List (List Int))} (h:fe B W tc c0 c1 c2 ov rv O R) (hB:B<=W.heap.size) {x:Value} {l:List (List Int)} (hx:Rg.aM (iZ B W tc ov rv) W x l) (hs:x.oneCell'=true) (hR:R.length<1000000) {p:Nat} (hp:W.cell? ⟨p,0,none⟩=some x) (ty:TypeId) :
  ∃ a c X,(Builtin.append_ #[23,23] ty #[rv,.slice (some ⟨p,0,none⟩) 1 1]).run Tryz.prog W=.ok (.slice a (R.length+1) c) X/\fe B X tc c0 c1 c2 ov (.slice a (R.length+1) c) O (R++[l])/\W.grownBy X rv.ownBlock:=by
 obtain ⟨us,vs,h1,h2,h3,h4⟩:=h.own;obtain ⟨v',X,r1,r2,r3,r4,a,c,rfl⟩:=fA (P:=Tryz.prog) bE ty h2 hB p 1 hp hs hR;have hk:Rg.Kp (fun k=>rv.ownBlock=some k) W X:=Rg.Kp.cH r3 fun _ e=>e
 have hm:∀ k,iZ B W tc ov rv k->iZ B X tc ov (.slice a (R.length+1) c) k:=fun k g=>by
  refine ⟨g.1,Nat.lt_of_lt_of_le g.2.1 hk.size,g.2.2.1,fun e=>?_,g.2.2.2.2⟩
  rcases r4 with r4 | r4
  ·rw [r4] at e; exact g.2.2.2.1 e
  ·rw [r4] at e; injection e with e; have:=g.2.1; omega
 have hg:∀ k,iZ B W tc ov rv k->¬ rv.ownBlock=some k:=fun k g=>g.2.2.2.1;refine ⟨a,c,X,r1,⟨h.kl.kp hk h.rt,h.low,⟨us,vs++[x],iB h1 hk (fun k e e2=>h.apart k e2 e),by rw [List.length_append]; exact r2,(h3.kp hk hg).mono hm,bT.mono (bT.snoc (bT.kp h4 hk hg) (aM.kp hx hk hg)) hm⟩,fun k e e2=>?_,h.ot,fun e=>?_⟩,r3⟩
 ·rcases r4 with r4 | r4
  ·rw [r4] at e2; exact h.apart k e e2
  ·rw [r4] at e2; injection e2 with e2; have:=(h.Au.1 k e).2; omega
 ·rcases r4 with r4 | r4
  ·rw [r4] at e; exact h.rt e
  ·rw [r4] at e; injection e with e; have:=h.kl.lt; omega
theorem fe.store {c0 c1 c2:Value} {O:List (List Int)} {R:List (List (List Int))} (h:fe B W tc c0 c1 c2 ov rv O R) (y z:Value) :
  fe B ((W.setCell ⟨tc,1,none⟩ y).setCell ⟨tc,2,none⟩ z) tc c0 y z ov rv O R:=by
 obtain ⟨us,vs,h1,h2,h3,h4⟩:=h.own;have hk:Rg.Kp (fun k=>k=tc) W ((W.setCell ⟨tc,1,none⟩ y).setCell ⟨tc,2,none⟩ z):=Rg.Kp.trans (Rg.Kp.aU (M:=fun k=>k=tc) rfl) (Rg.Kp.aU (M:=fun k=>k=tc) rfl) (fun _ _ e=>e);have hg:∀ k,iZ B W tc ov rv k->¬ k=tc:=fun k g=>g.2.2.2.2;have hm:∀ k,iZ B W tc ov rv k->iZ B ((W.setCell ⟨tc,1,none⟩ y).setCell ⟨tc,2,none⟩ z) tc ov rv k:=fun k g=>g.up hk.size;exact ⟨h.kl.V0 y z,h.low,⟨us,vs,iB h1 hk (fun k e e2=>h.ot (e▸e2)),iB h2 hk (fun k e e2=>h.rt (e▸e2)),(h3.kp hk hg).mono hm,bT.mono (bT.kp h4 hk hg) hm⟩,h.apart,h.ot,h.rt⟩
def fO (w:World) (v:Value) (fQ:List (List (List Int))):Prop:=∃ us,Rg.cN w v us/\us.length=fQ.length/\∀ i (h:i<us.length) (h2:i<fQ.length),Rg.Rows w us[i] fQ[i]
theorem fO.p {w w':World} {v:Value} {fQ:List (List (List Int))} (h:fO w v fQ) (hb:Below w.heap.size w w'):fO w' v fQ:=by
 obtain ⟨us,h1,h2,h3⟩:=h;exact ⟨us,Rg.iU.p h1 hb,h2,fun i a b=>(h3 i a b).p hb⟩
end
section
attribute [local irreducible] Go.Calls
theorem OS (args:Array Value) (w:World):(callFunc 149 args).run Tryz.prog w=.ok (.enter 149 args) w:=by kernel_rfl
theorem OT (args:Array Value) (w:World):(callFunc 122 args).run Tryz.prog w=.ok (.enter 122 args) w:=by kernel_rfl
theorem OU (args:Array Value) (w:World):(callFunc 123 args).run Tryz.prog w=.ok (.enter 123 args) w:=by kernel_rfl
theorem om (v:Value) (l:List Int) (w:World) (h:Rg.Ints w v l) (h1:1<=l.length) (hl:l.length<=1000000) :
  Calls Tryz.prog 75 #[v] w fun e w'=>∃ v',e=.returned v'/\w'.ownsRow w.heap.size 3 1 v' l.length (l.map (Value.int .i64))/\Below w.heap.size w w':=by
 obtain ⟨la,lc,rfl,_,_,_,hs⟩:=h.shape;obtain ⟨b,o,rfl,_⟩:=hs (by omega);have HI:=U h;have K:=U (Below.refl w.heap.size w);clear h hs
 go_enter Tryz.func75,Tryz.ntmps75
 go_upto_region 1 with fail
 refine b6<|j7 rfl<|k5 (kd _ _ rfl rfl rfl) ?_;go_frame
 go_upto_region 3 with fail;refine b6 ?_;have cj:=rD.new (B:=w.heap.size) w (Nat.le_refl _);refine k5 (Rg.nY bB rfl w) ?_;go_frame;have hb:=(Below.refl w.heap.size w).alloc (Nat.le_refl _) (.cells #[] 3);generalize w.alloc (.cells #[] 3)=w1 at *;replace HI:=U (HI.u.p hb);replace K:=U (Rg.acc K.u hb);clear hb;have FO:=U cj;refine j7 rfl ?_;go_frame;obtain ⟨v5,X5,r1,r2,r3⟩:=Rg.u_ (P:=Tryz.prog) bB 27 FO.u.1 K.u.size HI.u pR (by rw [List.length_map]; omega)
 refine k5 (Rg.bw _ _ _ rfl rfl rfl r1)<|j5 (v5) rfl ?_;go_frame
 rw [List.length_map,Nat.zero_add,List.nil_append] at r2;have R2:=U r2;have K5:=U (K.u.grown r3 K.u.size (fun j hj=>(FO.u.1.lt j hj).1));clear r1 r2 r3 FO;go_wp2;go_ret;exact ⟨_,rfl,R2.u,K5.u⟩
theorem C6 (Bs:Nat) (sv:Value) (zs:List Int) (hlen:zs.length<=1000000) (w:World) (yD:Bs<w.heap.size) (cC:w.cell? ⟨Bs,0,none⟩=some sv) (hI:iY w.heap.size w sv zs) :
  Calls Tryz.prog 122 #[.func (.func 124) #[] #[.pointer (some ⟨Bs,0,none⟩)]] w fun e w'=>∃ v,e=.returned v/\w'.ownsRow w.heap.size 3 1 v zs.length (zs.map (Value.int .i64))/\Below w.heap.size w w':=by
 have E7:=callsIn_wide.1 (Ar Fence.wide 3 trivial trivial rfl (by omega) Bs sv zs hlen w yD cC hI);clear yD cC hI
 go_enter Tryz.func122,Tryz.ntmps122
 go_upto_region 1 with fail
 refine b6<|j5 (.func (.func 124) #[] #[.pointer (some ⟨Bs,0,none⟩)]) rfl ?_;go_frame
 refine f3 4 (aC 149 _ _ _ rfl rfl rfl (OS _ _)) ?_;refine (E7).mono ?_;rintro e1 w1 ⟨v,rfl,bH,hb⟩;have R:=U bH;have KB:=U hb;refine ⟨_,rfl,?_⟩;go_frame;clear hb;refine j5 (v) rfl ?_;go_frame;clear E7 bH;go_wp2;go_ret;exact ⟨_,rfl,R.u,KB.u⟩
theorem wR (Bs:Nat) (sv:Value) (zs:List Int) (h1:1<=zs.length) (hlen:zs.length<=1000000) (w:World) (yD:Bs<w.heap.size) (cC:w.cell? ⟨Bs,0,none⟩=some sv) (hI:iY w.heap.size w sv zs) :
  Calls Tryz.prog 93 #[.func (.func 124) #[] #[.pointer (some ⟨Bs,0,none⟩)]] w fun e w'=>∃ v,e=.returned v/\w'.ownsRow w.heap.size 3 1 v zs.length ((Ob.jl zs).map (Value.int .i64))/\Below w.heap.size w w':=by
 have E7:=C6 Bs sv zs hlen w yD cC hI;clear yD cC hI
 go_enter Tryz.func93,Tryz.ntmps93
 go_upto_region 1 with fail
 refine b6<|j5 (.func (.func 124) #[] #[.pointer (some ⟨Bs,0,none⟩)]) rfl ?_;go_frame
 refine f3 5 (ax 122 _ _ rfl rfl (OT _ _)) ?_;refine (E7).mono ?_;rintro e1 w1 ⟨v,rfl,bH,hb⟩;have R:=U bH;have KB:=U hb;refine ⟨_,rfl,?_⟩;go_frame;clear hb;refine j5 (v) rfl ?_;go_frame;clear E7 bH;go_upto_region 2 with fail
 refine b6<|j5 (v) rfl ?_;go_frame
 refine f3 7 (ax 123 _ _ rfl rfl (OU _ _)) ?_;refine (Mu w.heap.size zs.length v zs w1 R.u h1 (by omega)).mono ?_;rintro e1 w2 ⟨⟨r,rfl⟩,OV,Mh⟩;have R2:=U OV;have K2:=U (KB.u.grown Mh KB.u.size (fun j hj=>(R.u.lt j hj).1));refine ⟨_,rfl,?_⟩;go_frame;clear Mh;clear OV;go_wp2;go_ret;exact ⟨_,rfl,R2.u,K2.u⟩
end
end Go.Proofs.YtpedbljnhnoohaaGreat
namespace Go.Proofs.Cm
open Go.Proofs
structure PC (n:Nat) (H:List Nat->Prop) (tr:Tr) (k:Nat) (O:List (List Nat)) (R:List (List (List Nat))):Prop where
 iK:O.length=k
 iy:R.length=k
 jl:∀ i,i<k->(O.getD i []).Pairwise (· < ·)
 orb:∀ i p,i<k->(p∈O.getD i []↔∃ u,tr i p=some u)
 len:∀ i,i<k->(R.getD i []).length=(O.getD i []).length
 rep:∀ i j,i<k->j<(O.getD i []).length->lq n (fun z=>St H i z/\ap z i=(O.getD i []).getD j 0) ((R.getD i []).getD j [])
theorem PC.nil (n:Nat) (H:List Nat->Prop) (tr:Tr):PC n H tr 0 [] []:=⟨rfl,rfl,fun _ h=>absurd h (Nat.not_lt_zero _),fun _ _ h=>absurd h (Nat.not_lt_zero _),fun _ h=>absurd h (Nat.not_lt_zero _),fun _ _ h=>absurd h (Nat.not_lt_zero _)⟩
theorem PC.snoc {tr:Tr} {k:Nat} (h:PC n H tr k O R) {o:List Nat} {r:List (List Nat)} (h1:o.Pairwise (· < ·)) (h2:∀ p,p∈o↔∃ u,tr k p=some u) (h3:r.length=o.length)
  (h4:∀ j,j<o.length->lq n (fun z=>St H k z/\ap z k=o.getD j 0) (r.getD j [])):PC n H tr (k+1) (O++[o]) (R++[r]):=by
 have eO:∀ i,i<k->(O++[o]).getD i []=O.getD i []:=fun i hi=>by
  rw [List.getD_eq_getElem?_getD,List.getD_eq_getElem?_getD,List.getElem?_append_left (by rw [h.iK]; exact hi)]
 have eR:∀ i,i<k->(R++[r]).getD i []=R.getD i []:=fun i hi=>by
  rw [List.getD_eq_getElem?_getD,List.getD_eq_getElem?_getD,List.getElem?_append_left (by rw [h.iy]; exact hi)]
 have Te:(O++[o]).getD k []=o:=by
  rw [List.getD_eq_getElem?_getD,List.getElem?_append_right (by rw [h.iK]; exact Nat.le_refl _),h.iK]; simp
 have ZG:(R++[r]).getD k []=r:=by
  rw [List.getD_eq_getElem?_getD,List.getElem?_append_right (by rw [h.iy]; exact Nat.le_refl _),h.iy]; simp
 refine ⟨by simp [h.iK],by simp [h.iy],fun i hi=>?_,fun i p hi=>?_,fun i hi=>?_,fun i j hi hj=>?_⟩
 ·by_cases e:i=k
  ·subst e; rw [Te]; exact h1
  ·rw [eO i (by omega)]; exact h.jl i (by omega)
 ·by_cases e:i=k
  ·subst e; rw [Te]; exact h2 p
  ·rw [eO i (by omega)]; exact h.orb i p (by omega)
 ·by_cases e:i=k
  ·subst e; rw [Te,ZG]; exact h3
  ·rw [eO i (by omega),eR i (by omega)]; exact h.len i (by omega)
 ·by_cases e:i=k
  ·subst e; rw [Te] at hj ⊢; rw [ZG]; exact h4 j hj
  ·rw [eO i (by omega)] at hj ⊢; rw [eR i (by omega)]; exact h.rep i j (by omega) hj
theorem PC.E8 {tr:Tr} (h:PC n H tr n O R) (ht:lJ n H tr):ar n H O R :=
 ⟨h.iK,h.iy,h.jl,fun i p hi=>by
  rw [h.orb i p hi]
  constructor
  ·rintro ⟨u,hu⟩
   exact ⟨u,⟨ht.mem i p u hi hu,ht.rp.fx i p u (Nat.zero_le _) hi hu⟩,ht.rp.at_ i p u (Nat.zero_le _) hi hu⟩
  ·rintro ⟨x,hx,rfl⟩
   exact ht.all i x hi hx,h.len,h.rep⟩
theorem MJ (xs:List Nat) (nd:xs.Nodup):∃ l:List Nat,((xs.map (fun x:Nat=>(x:Int))).mergeSort (fun a b=>decide (a<=b)))=l.map (fun x:Nat=>(x:Int))/\l.Pairwise (· < ·)/\(∀ p,p∈l↔p∈xs)/\l.length=xs.length:=by
 have hp:=List.mergeSort_perm (xs.map (fun x:Nat=>(x:Int))) (fun a b=>decide (a<=b));have hs:=List.pairwise_mergeSort (le:=fun a b:Int=>decide (a<=b)) (fun a b c h1 h2=>by simp at *; omega) (fun a b=>by simp; omega) (xs.map (fun x:Nat=>(x:Int)));generalize (xs.map (fun x:Nat=>(x:Int))).mergeSort (fun a b=>decide (a<=b))=m at *
 have hm:∀ z∈m,0<=z:=fun z hz=>by
  have:=hp.mem_iff.1 hz;simp at this;obtain ⟨a,_,rfl⟩:=this;omega
 have e:(m.map Int.toNat).map (fun x:Nat=>(x:Int))=m:=by
  rw [List.map_map]
  conv=>rhs; rw [<- List.map_id m]
  refine List.map_congr_left fun z hz=>?_;have:=hm z hz;simp; omega
 have hnd:m.Nodup:=hp.nodup_iff.2 (List.pairwise_map.2 (nd.imp fun h e=>h (by omega)));refine ⟨m.map Int.toNat,e.symm,?_,fun p=>?_,?_⟩
 ·rw [List.pairwise_map]
  have h2:m.Pairwise (fun a b=>a≠b):=hnd;refine (List.Pairwise.and hs h2).imp_of_mem fun {a b} ha hb fX=>?_;have h3:=hm a ha;have h4:=hm b hb
  have h5:a<=b:=by simpa using fX.1
  have h6:=fX.2;omega
 ·constructor
  ·intro jR
   obtain ⟨z,hz,rfl⟩:=List.mem_map.1 jR;have:=hp.mem_iff.1 hz;simp at this;obtain ⟨a,ha,rfl⟩:=this
   simpa using ha
  ·intro hpx
   refine List.mem_map.2 ⟨(p:Int),hp.mem_iff.2 (List.mem_map.2 ⟨p,hpx,rfl⟩),by simp⟩
 ·rw [List.length_map,hp.length_eq,List.length_map]
end Go.Proofs.Cm
namespace Go.Proofs.YtpedbljnhnoohaaGreat
open Go.RowKit
open Go.Proofs
open Go.Proofs.Cm (Lv br cd)
attribute [local irreducible] Go.Calls
theorem CF.p {w:World} {b o:Nat} (h:CF F w b o v) (hb:Below w.heap.size w w'):CF F w' b o v:=h.kf (KF.aF hb)
theorem FP.p {w:World} {p:List Nat} (h:FP F w v p) (hb:Below w.heap.size w w'):FP F w' v p:=h.kf (KF.aF hb)
theorem CL.p {w:World} {b o:Nat} (h:CL w b o v) (hb:Below w.heap.size w w'):CL w' b o v:=h.up hb
theorem aW.p {w:World} {T:br} {V:Nat->LV} (h:aW F L n w T V) (hb:Below w.heap.size w w'):aW F L n w' T V:=by
 have hk:Rg.Kp (fun _=>False) w w':=Rg.Kp.aF hb;exact ⟨fun k hf=>Nat.lt_of_lt_of_le (h.gI k hf) hb.size,h.LF,eN h.row hk id,fun i hi=>(h.lv i hi).kp hk (fun _ _=>id) (fun _ _=>id),h.kJ⟩
theorem iY.Tf {w:World} {e:TypeId} {xs:List Int} (h:w.ownsRow B e 1 v n (xs.map (Value.int .i64))) (hn:n=xs.length) (h0:0<n):iY w.heap.size w v xs:=by
 subst hn;have hh:=h;obtain ⟨h1,h2⟩:=h
 rcases h2 with ⟨_,h0'⟩ | ⟨g,cap,cur,rfl,hg,hc,h3,h4,h5,h6⟩
 ·omega
 ·refine ⟨g,0,cap,rfl,(Array.getElem?_eq_some_iff.1 hc).1,fun j hj=>?_⟩
  obtain ⟨g',c',u,e1,e2,e3,e4⟩:=iP hh hj;simp at e1;obtain ⟨rfl,_⟩:=e1;rw [e2];simp [List.getElem?_eq_getElem hj] at e3 ⊢;exact e3.symm
theorem iY.up {w:World} {xs:List Int} (h:iY w.heap.size w v xs) (hb:Below w.heap.size w w'):iY w'.heap.size w' v xs:=by
 obtain ⟨b,o,c,e,h1,h2⟩:=h;exact ⟨b,o,c,e,Nat.lt_of_lt_of_le h1 hb.size,fun j hj=>(hb.cell (p:=⟨b,o+j,none⟩) h1).trans (h2 j hj)⟩
theorem pV (a:Option Addr) (len cap:Nat) (w:World) :
  Calls Tryz.prog 94 #[.slice a len cap] w fun e w'=>∃ fb,e=.returned (.func (.func 124) #[] #[.pointer (some ⟨fb,0,none⟩)])/\CL w' fb 0 (.slice a len cap)/\Below w.heap.size w w':=by
 refine (callsIn_wide.1 (II Fence.wide 3 trivial rfl a len cap w)).mono ?_;rintro e w' ⟨rfl,rfl⟩;exact ⟨_,rfl,⟨by rw [Rg.aT]; rfl,by simp⟩,(Below.refl _ _).alloc (Nat.le_refl _) _⟩
def PG (B:Nat) (W:World) (v:Value) (k:Nat):Prop:=B<=k/\k<W.heap.size/\v.ownBlock≠some k
structure fj (B:Nat) (W:World) (v:Value) (ll:List (List Int)):Prop where
 own:∃ us,W.ownsRow B 27 1 v ll.length us/\Rg.bL (PG B W v) W us ll
theorem fj.nil (B:Nat) (W:World):fj B W (.slice none 0 0) []:=⟨[],World.ownsRow_nil _ _ _ _,Rg.bL.nil _ _⟩
theorem fj.p (h:fj B W v ll) (hb:Below W.heap.size W W'):fj B W' v ll:=by
 obtain ⟨us,h1,h2⟩:=h.own;exact ⟨us,Rg.bV h1 hb,(h2.kp (M:=fun _=>False) (Rg.Kp.aF hb) (fun _ _=>id)).mono fun k hk=>⟨hk.1,Nat.lt_of_lt_of_le hk.2.1 hb.size,hk.2.2⟩⟩
theorem fj.push (h:fj B W v ll) (hB:B<=W.heap.size) {u:Value} {l:List Int} {B2:Nat} (hu:W.ownsRow B2 3 1 u l.length (l.map (Value.int .i64))) (hl:l.length<=1000000000) (ZH:∀ k,u.ownBlock=some k->B<=k/\v.ownBlock≠some k) (hn:ll.length<1000000) (ty:TypeId) :
  ∃ a c X,(Builtin.append_ #[41,41] ty #[v,.slice (some ⟨W.heap.size,0,none⟩) 1 1]).run Tryz.prog (W.alloc (.cells #[u] 27))=.ok (.slice a (ll.length+1) c) X/\fj B X (.slice a (ll.length+1) c) (ll++[l])/\(∀ {B':Nat} {W0:World},B'<=B->Below B' W0 W->Below B' W0 X):=by
 obtain ⟨us,h1,h2⟩:=h.own;have hb:Below W.heap.size W (W.alloc (.cells #[u] 27)):=(Below.refl _ _).alloc (Nat.le_refl _) _;obtain ⟨ua,uc,OX⟩:=Rg.cZ hu;have hv:Rg.FI (PG B W v) W u l:=Rg.c_.of (Rg.cN.dL hu hl) (fun k e=>⟨(ZH k e).1,(hu.lt k e).2,(ZH k e).2⟩);have aw:=fun k e=>(h1.lt k e).2;obtain ⟨v',X,r1,r2,r3,r4,a,c,rfl⟩:=fA (P:=Tryz.prog) aK ty (Rg.bV h1 hb) (Nat.le_trans hB hb.size) W.heap.size 1 (u:=u) (by rw [Rg.aT]; rfl) (by rw [OX]; rfl) hn;have fY:Rg.Kp (fun _=>False) W (W.alloc (.cells #[u] 27)):=Rg.Kp.aF hb
 have cO:(W.alloc (.cells #[u] 27)).heap.size=W.heap.size+1:=by simp
 have hk:Rg.Kp (fun k=>v.ownBlock=some k) W X:=Rg.Kp.trans (M:=fun k=>v.ownBlock=some k) (fY.gO fun _=>False.elim) (Rg.Kp.cH r3 fun _ e=>e) (fun _ _ e=>e);have hg:∀ k,PG B W v k->¬ v.ownBlock=some k:=fun k g=>g.2.2
 have hm:∀ k,PG B W v k->PG B X (.slice a (ll.length+1) c) k:=fun k g=>by
  refine ⟨g.1,Nat.lt_of_lt_of_le g.2.1 hk.size,fun e=>?_⟩
  rcases r4 with r4 | r4
  ·rw [r4] at e; exact g.2.2 e
  ·rw [r4] at e; injection e with e; have:=g.2.1; omega
 refine ⟨a,c,X,r1,⟨us++[u],by rw [List.length_append]; exact r2,(bL.snoc (h2.kp hk hg) (hv.kp hk hg)).mono hm⟩,fun {B' W0} IJ lI=>?_⟩;refine (lI.trans ⟨hk.os,hk.tape,hk.output,hk.size,fun k N_=>hk.block k ?_ fun e=>?_⟩)
 ·have:=lI.size; omega
 ·have:=(h1.lt k e).1; omega
end Go.Proofs.YtpedbljnhnoohaaGreat
namespace Go.Proofs.Rg
open Go Go.RowKit
variable {P:Program} {md:Region.Mode} {ops:Array Oper} {Q:Exit->Act->World->Prop} {S:Array Bool->World->Prop}
theorem Any.OY {i k q di dk dj dq:Nat} {vq:Value} {I R0:World->Prop} {Ri Rk Rj:Value->World->Prop} {l:Array Bool} {a:Act} {w:World} (hS:∀ l W,I W->S l W)
  (ij:i≠j) (kj:k≠j) (qj:q≠j) (dij:di≠dj) (dkj:dk≠dj) (dqj:dq≠dj)
  (r0:Region.ready md ops l=[i,j]) (ri:Region.ready md ops (l.setIfInBounds i true)=[k,j]) (rj:Region.ready md ops (l.setIfInBounds j true)=[i])
  (ZI:Region.ready md ops (((l.setIfInBounds i true).setIfInBounds k true).setIfInBounds q true)=[j]) (ZJ:Region.ready md ops ((l.setIfInBounds i true).setIfInBounds j true)=[k])
  (vE:∀ u x W m,S ((l.setIfInBounds i true).setIfInBounds k true) W->Any P md ops Q S m (((l.setIfInBounds i true).setIfInBounds k true).setIfInBounds q true) (((a.put (some di) u).put (some dk) x).put (some dq) vq) W->Any P md ops Q S (m+1) ((l.setIfInBounds i true).setIfInBounds k true) ((a.put (some di) u).put (some dk) x) W)
  (nI:∀ u v x W m,S (((l.setIfInBounds i true).setIfInBounds j true).setIfInBounds k true) W->Any P md ops Q S m ((((l.setIfInBounds i true).setIfInBounds j true).setIfInBounds k true).setIfInBounds q true) ((((a.put (some di) u).put (some dj) v).put (some dk) x).put (some dq) vq) W->Any P md ops Q S (m+1) (((l.setIfInBounds i true).setIfInBounds j true).setIfInBounds k true) (((a.put (some di) u).put (some dj) v).put (some dk) x) W)
  (s0:∀ W W',Below W.heap.size W W'->R0 W->R0 W') (si:∀ u W W',Below W.heap.size W W'->Ri u W->Ri u W') (sk:∀ u W W',Below W.heap.size W W'->Rk u W->Rk u W') (sj:∀ u W W',Below W.heap.size W W'->Rj u W->Rj u W')
  (hi:∀ b,(b=a∨∃ u,b=a.put (some dj) u)->∀ W,I W->Does P ops Q i di I Ri (fun W W'=>Below W.heap.size W W') b W)
  (hj:∀ b,(b=a∨(∃ u,b=a.put (some di) u)∨∃ u v,b=((a.put (some di) u).put (some dk) v).put (some dq) vq)->∀ W,I W->Does P ops Q j dj I Rj (fun W W'=>Below W.heap.size W W') b W)
  (hk:∀ u b,(b=a.put (some di) u∨∃ v,b=(a.put (some di) u).put (some dj) v)->∀ W,I W->R0 W->Ri u W->Does P ops Q k dk I Rk (fun W W'=>∀ v,Rj v W->Rj v W') b W)
  (hI:I w) (h0:R0 w) (h:∀ W u x v,I W->Rk x W->Rj v W->Any P md ops Q S n ((((l.setIfInBounds i true).setIfInBounds k true).setIfInBounds q true).setIfInBounds j true) ((((a.put (some di) u).put (some dk) x).put (some dq) vq).put (some dj) v) W) :
  Any P md ops Q S (n+4) l a w:=by
 have ha:∀ u x v:Value,(((a.put (some di) u).put (some dj) v).put (some dk) x).put (some dq) vq=((((a.put (some di) u).put (some dk) x).put (some dq) vq).put (some dj) v):=fun u x v=>by
  rw [put_comm (a.put (some di) u) v x (Ne.symm dkj),put_comm ((a.put (some di) u).put (some dk) x) v vq (Ne.symm dqj)]
 have hl:(((l.setIfInBounds i true).setIfInBounds j true).setIfInBounds k true).setIfInBounds q true=(((l.setIfInBounds i true).setIfInBounds k true).setIfInBounds q true).setIfInBounds j true:=by
  rw [Array.setIfInBounds_comm true true (xs:=l.setIfInBounds i true) (Ne.symm kj),Array.setIfInBounds_comm true true (xs:=(l.setIfInBounds i true).setIfInBounds k true) (Ne.symm qj)]
 refine Any.two r0 ?_ ?_
 ·refine wpOp_mono ?_ (hi a (.inl rfl) w hI)
  rintro c W ⟨u,rfl,h1,h2,h3⟩;refine ⟨hS _ _ h1,Any.two ri ?_ ?_⟩
  ·refine wpOp_mono ?_ (hk u _ (.inl rfl) W h1 (s0 _ _ h3 h0) h2)
   rintro c W' ⟨x,rfl,g1,g2,g3⟩;refine ⟨hS _ _ g1,vE u x W' (n+1) (hS _ _ g1) (Any.one ZI ?_)⟩;refine wpOp_mono ?_ (hj _ (.inr (.inr ⟨u,x,rfl⟩)) W' g1);rintro c r_ ⟨v,rfl,e1,e2,e3⟩;exact ⟨hS _ _ e1,h _ _ _ _ e1 (sk _ _ _ e3 g2) e2⟩
  ·refine wpOp_mono ?_ (hj _ (.inr (.inl ⟨u,rfl⟩)) W h1)
   rintro c W' ⟨v,rfl,g1,g2,g3⟩;refine ⟨hS _ _ g1,Any.one ZJ ?_⟩;refine wpOp_mono ?_ (hk u _ (.inr ⟨v,rfl⟩) W' g1 (s0 _ _ g3 (s0 _ _ h3 h0)) (si _ _ _ g3 h2));rintro c r_ ⟨x,rfl,e1,e2,e3⟩;refine ⟨hS _ _ e1,nI u v x r_ n (hS _ _ e1) ?_⟩;rw [ha,hl];exact h r_ u x v e1 e2 (e3 _ g2)
 ·refine wpOp_mono ?_ (hj a (.inl rfl) w hI)
  rintro c W ⟨v,rfl,h1,h2,h3⟩;refine ⟨hS _ _ h1,Any.one rj ?_⟩;refine wpOp_mono ?_ (hi _ (.inr ⟨v,rfl⟩) W h1);rintro c W' ⟨u,rfl,g1,g2,g3⟩;refine ⟨hS _ _ g1,Any.one (by rw [Array.setIfInBounds_comm _ _ (Ne.symm ij)]; exact ZJ) ?_⟩;rw [put_comm a v u (Ne.symm dij),Array.setIfInBounds_comm _ _ (Ne.symm ij)];refine wpOp_mono ?_ (hk u _ (.inr ⟨v,rfl⟩) W' g1 (s0 _ _ g3 (s0 _ _ h3 h0)) g2);rintro c r_ ⟨x,rfl,e1,e2,e3⟩;refine ⟨hS _ _ e1,nI u v x r_ n (hS _ _ e1) ?_⟩;rw [ha,hl];exact h r_ u x v e1 e2 (e3 _ (sj _ _ _ g3 h2))
end Go.Proofs.Rg
namespace Go.Proofs.YtpedbljnhnoohaaGreat
open Go.RowKit
open Go.Proofs
section
open Go.Proofs.Cm (Lv br cd)
attribute [local irreducible] Go.Calls
theorem IK (args:Array Value) (w:World):(callFunc 94 args).run Tryz.prog w=.ok (.enter 94 args) w:=by kernel_rfl
theorem IL (args:Array Value) (w:World):(callFunc 93 args).run Tryz.prog w=.ok (.enter 93 args) w:=by kernel_rfl
theorem V6 (args:Array Value) (w:World):(callFunc 95 args).run Tryz.prog w=.ok (.enter 95 args) w:=by kernel_rfl
theorem vF (args:Array Value) (w:World):(callFunc 75 args).run Tryz.prog w=.ok (.enter 75 args) w:=by kernel_rfl
structure gK (B:Nat) (W:World) (v:Value) (l:List Int):Prop where
 own:W.ownsRow B 3 1 v l.length (l.map (Value.int .i64))
theorem gK.p {l:List Int} (h:gK B W v l) (hb:Below W.heap.size W W'):gK B W' v l:=⟨Rg.bV h.own hb⟩
structure SZ (m:Nat) (W:World):Prop where
 le:m<=W.heap.size
theorem SZ.p {m:Nat} (h:SZ m W) (hb:Below W.heap.size W W'):SZ m W':=⟨Nat.le_trans h.le hb.size⟩
theorem fj.lt {B:Nat} {W:World} {v:Value} {ll:List (List Int)} (h:fj B W v ll):∀ k,v.ownBlock=some k->B<=k/\k<W.heap.size:=fun k e=>by
 obtain ⟨us,h1,_⟩:=h.own;exact h1.lt k e
theorem fj.shape (h:fj B W v ll):∃ a c,v=.slice a ll.length c:=by
 obtain ⟨us,h1,_⟩:=h.own;exact Rg.cZ h1
theorem fj.IM (h:fj B W v ll) (hl:ll.length<=1000000000) {G:Nat->Prop} (hG:∀ k,B<=k->k<W.heap.size->G k):Rg.aM G W v ll:=by
 obtain ⟨us,h1,h2⟩:=h.own;exact ⟨us,Rg.c_.of (Rg.cN.dL h1 hl) (fun k e=>hG k (h1.lt k e).1 (h1.lt k e).2),h2.mono fun k g=>hG k g.1 g.2.1⟩
theorem gK.fi {l:List Int} (h:gK B W v l) (hl:l.length<=1000000000) {G:Nat->Prop} (hG:∀ k,B<=k->k<W.heap.size->G k):Rg.FI G W v l :=
 Rg.c_.of (Rg.cN.dL h.own hl) (fun k e=>hG k (h.own.lt k e).1 (h.own.lt k e).2)
theorem cD.KP {w:World} {b:Nat} {u3:Value} (h:cD w b u1 u2 u3) (y:Value):cD (w.setCell ⟨b,1,none⟩ y) b u1 y u3:=by
 refine ⟨?_,World.cell?_setCell_same (h:=h.c1) ..,?_,?_,?_,?_,by simpa using h.lt⟩
 ·rw [World.cell?_setCell_other (h:=by intro e; injection e with e1 e2; omega) ..]; exact h.c0
 ·rw [World.cell?_setCell_other (h:=by intro e; injection e with e1 e2; omega) ..]; exact h.c2
 ·rw [World.frozen?_setCell]; exact h.f0
 ·rw [World.frozen?_setCell]; exact h.f1
 ·rw [World.frozen?_setCell]; exact h.f2
theorem fe.KU {c0 c1 c2:Value} {O:List (List Int)} {R:List (List (List Int))} (h:fe B W tc c0 c1 c2 ov rv O R):∃ a c,ov=.slice a O.length c:=by
 obtain ⟨us,vs,h1,_⟩:=h.own;exact Rg.cZ h1
theorem fe.KV {c0 c1 c2:Value} {O:List (List Int)} {R:List (List (List Int))} (h:fe B W tc c0 c1 c2 ov rv O R):∃ a c,rv=.slice a R.length c:=by
 obtain ⟨us,vs,_,h1,_⟩:=h.own;exact Rg.cZ h1
theorem fe.kp {M:Nat->Prop} {B:Nat} {W W':World} {tc:Nat} {c0 c1 c2 ov rv:Value} {O:List (List Int)} {R:List (List (List Int))} (h:fe B W tc c0 c1 c2 ov rv O R) (hk:Rg.Kp M W W') (hM:∀ z,M z->z<B):fe B W' tc c0 c1 c2 ov rv O R:=by
 obtain ⟨us,vs,h1,h2,h3,h4⟩:=h.own
 have hg:∀ z,iZ B W tc ov rv z->¬ M z:=fun z g e=>by have:=hM z e; have:=g.1; omega
 have hm:∀ z,iZ B W tc ov rv z->iZ B W' tc ov rv z:=fun z g=>g.up hk.size;exact ⟨h.kl.kp hk (fun e=>by have:=hM _ e; have:=h.low; omega),h.low,⟨us,vs,iB h1 hk (fun z e e2=>by have:=hM z e; have:=(h1.lt z e2).1; omega),iB h2 hk (fun z e e2=>by have:=hM z e; have:=(h2.lt z e2).1; omega),(h3.kp hk hg).mono hm,bT.mono (bT.kp h4 hk hg) hm⟩,h.apart,h.ot,h.rt⟩
def bs (F:Nat->Prop) (w:World) (v:Value) (fQ:List (List (List Int))):Prop:=∃ us,Rg.c_ F w v us/\Rg.bT F w us fQ
theorem bs.rows {F:Nat->Prop} {w:World} {v:Value} {fQ:List (List (List Int))} (h:bs F w v fQ):fO w v fQ:=by
 obtain ⟨us,h1,h2⟩:=h;exact ⟨us,h1.Eg,h2.1,fun i a b=>aM.rows (h2.2 i a b)⟩
theorem bs.kp {F M:Nat->Prop} {w w':World} {v:Value} {ll:List (List (List Int))} (h:bs F w v ll) (hk:Rg.Kp M w w') (hF:∀ k,F k->¬ M k):bs F w' v ll:=by
 obtain ⟨us,h1,h2⟩:=h;exact ⟨us,h1.kp hk hF,bT.kp h2 hk hF⟩
theorem fe.ZK {c0 c1 c2:Value} {O:List (List Int)} {R:List (List (List Int))} (h:fe B W tc c0 c1 c2 ov rv O R) (hl:O.length<=1000000000):Rg.aM (fun z=>B<=z) W ov O:=by
 obtain ⟨us,vs,h1,h2,h3,h4⟩:=h.own;exact ⟨us,Rg.c_.of (Rg.cN.dL h1 hl) (fun k e=>(h1.lt k e).1),h3.mono fun _ g=>g.1⟩
theorem fe.ZL {c0 c1 c2:Value} {O:List (List Int)} {R:List (List (List Int))} (h:fe B W tc c0 c1 c2 ov rv O R) (hl:R.length<=1000000000):bs (fun z=>B<=z) W rv R:=by
 obtain ⟨us,vs,h1,h2,h3,h4⟩:=h.own;exact ⟨vs,Rg.c_.of (Rg.cN.dL h2 hl) (fun k e=>(h2.lt k e).1),bT.mono h4 fun _ g=>g.1⟩
structure yH (B:Nat) (W:World) (tc:Nat) (c0 c1 c2 ov rv:Value) (O:List (List Int)) (R:List (List (List Int))) (x5:Value) (l5:List Int) (x6:Value) (l6:List (List Int)):Prop where
 ch:fe B W tc c0 c1 c2 ov rv O R
 f5:Rg.FI (iZ B W tc ov rv) W x5 l5
 f6:Rg.aM (iZ B W tc ov rv) W x6 l6
theorem oq {x6:Value} {l6:List (List Int)} (h:Rg.aM (iZ B W tc ov rv) W x6 l6) (hb:Below W.heap.size W W'):Rg.aM (iZ B W' tc ov rv) W' x6 l6 :=
 aM.mono (aM.kp (M:=fun _=>False) h (Rg.Kp.aF hb) (fun _ _=>id)) (fun _ g=>g.up hb.size)
theorem yH.p {B:Nat} {W W':World} {tc:Nat} {c0 c1 c2 ov rv:Value} {O:List (List Int)} {R:List (List (List Int))} {x5:Value} {l5:List Int} {x6:Value} {l6:List (List Int)} (h:yH B W tc c0 c1 c2 ov rv O R x5 l5 x6 l6) (hb:Below W.heap.size W W'):yH B W' tc c0 c1 c2 ov rv O R x5 l5 x6 l6 :=
 ⟨h.ch.p hb,Rg.FI.mono (Rg.FI.kp (M:=fun _=>False) h.f5 (Rg.Kp.aF hb) (fun _ _=>id)) (fun _ g=>g.up hb.size),oq h.f6 hb⟩
theorem CL.c {w:World} {b o:Nat} (h:CL w b o v):w.cell? ⟨b,o,none⟩=some v:=h.cell
theorem yI (aR:1<=n) (aX:n<=64) {w:World} {T:br} {V:Nat->LV} (hT:aW F L n w T V) (cC:CF F w tb 0 (.int .i64 ((n:Nat):Int))) (cz:CF F w tb 1 (.slice (some ⟨L,0,none⟩) n n)) (hH:Cm.cy n H) (dE:Cm.lJ n H (cd T)) (hl:∀ j,j<n->Cm.fJ n T j) :
  Calls Tryz.prog 70 #[.pointer (some ⟨tb,0,none⟩)] w fun e w'=>∃ ov rv O R,e=.returned (.agg #[.int .i64 ((n:Nat):Int),ov,rv])/\Rg.aM (fun z=>w.heap.size<=z) w' ov (O.map Ma.ah)/\bs (fun z=>w.heap.size<=z) w' rv (R.map (List.map Ma.ah))/\Cm.ar n H O R/\Below w.heap.size w w':=by
 have K:=U (Below.refl w.heap.size w);have HT:=U hT;have C0:=U cC;have C1:=U cz;have HH:=U hH;have px:=U dE;have HL:=U hl;clear hT cC cz hH dE hl
 go_enter Tryz.func70,Tryz.ntmps70
 go_upto_region 0 with fail;refine b6 ?_;have cj:=cD.new w (.int .i64 0) (.slice none 0 0) (.slice none 0 0);refine k5 (bN rfl) ?_;go_frame;have hb:=(Below.refl w.heap.size w).alloc (Nat.le_refl _) (.cells #[.int .i64 0,.slice none 0 0,.slice none 0 0] 25);generalize w.alloc (.cells #[.int .i64 0,.slice none 0 0,.slice none 0 0] 25)=w1 at *;replace HT:=U (HT.u.p hb);replace C0:=U (C0.u.p hb);replace C1:=U (C1.u.p hb);replace K:=U (Rg.acc K.u hb);clear hb;have FT:=U cj;have K1:=U (Below.refl w1.heap.size w1);have OZ:=(FT.u.lt);clear cj;go_upto_region 1 with fail
 refine b6<|j8 rfl<|k5 (aZ _ rfl rfl)<|k5 (j0 (yp _ _))<|k5 (g7 (.int .i64 ((n:Nat):Int)) ⟨tb,0,none⟩ (af ((Below.cell (p:=⟨tb,0,none⟩) K1.u C0.u.lt).trans C0.u.cell))) ?_;go_frame
 refine k5 (rI (d:=((n:Nat):Int)) _ rfl rfl) ?_;go_frame;have cj:=cD.new w1 (.int .i64 0) (.slice none 0 0) (.slice none 0 0);refine k5 (bN rfl) ?_;go_frame;have hb:=(Below.refl w1.heap.size w1).alloc (Nat.le_refl _) (.cells #[.int .i64 0,.slice none 0 0,.slice none 0 0] 25);generalize w1.alloc (.cells #[.int .i64 0,.slice none 0 0,.slice none 0 0] 25)=w2 at *;replace K1:=U (Rg.acc K1.u hb);clear hb;have FC:=U cj;refine Rg.aL none rfl rfl (Rg.aq _ _ _ rfl _ rfl _ rfl (aV _ _ _ _ _ _ _ FC.u)) ?_;go_frame;clear cj;replace FC:=U (FC.u.set (.int .i64 ((n:Nat):Int)) (.slice none 0 0) (.slice none 0 0));replace K1:=U (((K1.u.setCell (p:=⟨w1.heap.size,0,none⟩) (Nat.le_refl _) (.int .i64 ((n:Nat):Int))).setCell (p:=⟨w1.heap.size,1,none⟩) (Nat.le_refl _) (.slice none 0 0)).setCell (p:=⟨w1.heap.size,2,none⟩) (Nat.le_refl _) (.slice none 0 0))
 generalize (((w2).setCell ⟨w1.heap.size,0,none⟩ (.int .i64 ((n:Nat):Int))).setCell ⟨w1.heap.size,1,none⟩ (.slice none 0 0)).setCell ⟨w1.heap.size,2,none⟩ (.slice none 0 0)=w5 at *;have CH:=U (fe.start FC.u (Nat.le_refl _));clear FC;go_upto_region 2 with fail
 refine b6<|j8 rfl<|k5 (aZ _ rfl rfl)<|k5 (j0 (kc _ _))<|k5 (g7 (.slice (some ⟨L,0,none⟩) n n) ⟨tb,1,none⟩ (Rg.ae _ _ Tryz.underlying135 ((Below.cell (p:=⟨tb,1,none⟩) K1.u C1.u.lt).trans C1.u.cell))) ?_;go_frame
 refine k5 (g9 Tryz.underlying135)<|j6 rfl ?_;go_frame
 have ou:=U (Cm.PC.nil n H (cd T));go_wp2
 go_loopw [19] (fun iv wr=>∃ (k:Nat) (ov rv:Value) (O:List (List Nat)) (R:List (List (List Nat))),iv=.int .i64 k/\k<=n/\Hid (fe w1.heap.size wr w1.heap.size (.int .i64 ((n:Nat):Int)) ov rv ov rv (O.map Ma.ah) (R.map (List.map Ma.ah)))/\Hid (Below w1.heap.size w1 wr)/\Hid (Cm.PC n H (cd T) k O R)) (fun iv _=>n - (intOf iv).toNat)
 case atStart=>exact ⟨0,_,_,[],[],rfl,Nat.zero_le _,CH,K1,ou⟩
 case round =>
  clear CH K1 ou;obtain ⟨k,ov,rv,O,R,rfl,hk,CH,K1,ou⟩:=hrel;have O3:=CH.u.KU;have O4:=CH.u.KV;rw [List.length_map] at O3 O4;obtain ⟨gU,gV,rfl⟩:=O3;obtain ⟨f_,gi,rfl⟩:=O4
  by_cases bZ:k<n
  ·have iC:(k:Int)<(n:Int):=by omega
   have xF:=HL.u k bZ;have fT:=Cm.nx xF;have Ik:1<=(T k).orb.length:=List.length_pos_of_mem ((xF.orb k).2 ⟨_,xF.self⟩);obtain ⟨l,kF,mG,km,C9⟩:=Cm.MJ (T k).orb xF.nd;have HA1:=U (show Ob.jl (Ma.ah (T k).orb)=Ma.ah l by rw [Ob.vh]; exact kF);have ef:=U mG;have IP:=U km;have HA4:=U C9;obtain ⟨oa,oc,mL⟩:=HT.u.oZ bZ;have CO:=U (CL.mk (show w1.cell? ⟨L,k*194+1,none⟩=some (.slice oa (T k).orb.length oc) by rw [wK HT.u bZ rfl,mL]) HT.u.lt);have SI:=U (show iY w1.heap.size w1 (.slice oa (T k).orb.length oc) (Ma.ah (T k).orb) by have:=iY.Tf (HT.u.lv k bZ).rF (by rw [Ma.aB]) Ik; rwa [mL] at this);have a_:=U bZ;have jF:=U (show (∀ z,(Value.slice gU O.length gV).ownBlock=some z->z<wr.heap.size)/\(∀ z,(Value.slice f_ R.length gi).ownBlock=some z->z<wr.heap.size)/\w1.heap.size<wr.heap.size from ⟨fun z e=>(CH.u.Au.1 z e).2,fun z e=>(CH.u.Au.2 z e).2,CH.u.kl.lt⟩)
   have kZ:=U (SZ.mk (Nat.le_refl wr.heap.size))
   have ZM:1<=(Ma.ah (T k).orb).length:=by rw [Ma.aB]; exact Ik
   have k_:(Ma.ah (T k).orb).length<=1000000:=by rw [Ma.aB]; omega
   have yJ:=U (show l.length<=64 by rw [C9]; omega);have C_:=U (show 1<=l.length by rw [C9]; exact Ik);clear xF kF mG km C9 mL;go_upto_region 5 with fail
   refine b6<|j8 rfl<|k5 (aZ _ rfl rfl)<|k5 (j0 (kc _ _))<|k5 (g7 (.slice (some ⟨L,0,none⟩) n n) ⟨tb,1,none⟩ (Rg.ae _ _ Tryz.underlying135 ((Below.cell (p:=⟨tb,1,none⟩) K1.u C1.u.lt).trans C1.u.cell))) ?_;go_frame
   refine j6 rfl<|k5 (bh _ _ rfl Tryz.underlying135 gS L (n) (n) (k) rfl rfl a_.u)<|k5 (j0 (Bn _ _ _))<|k5 (g7 (.slice oa (T k).orb.length oc) ⟨L,k*194+1,none⟩ (Rg.ae _ _ Tryz.underlying26 ((Below.cell (p:=⟨L,k*194+1,none⟩) K1.u CO.u.lt).trans CO.u.cell))) ?_;go_frame
   refine f3 30 (ax 94 _ _ rfl rfl (IK _ _)) ?_;refine (pV _ _ _ wr).mono ?_;rintro e1 fN ⟨fb,rfl,n_,hb⟩;refine ⟨_,rfl,?_⟩;go_frame;replace CH:=U (CH.u.p hb);replace kZ:=U (kZ.u.p hb);replace K1:=U (Rg.acc K1.u hb);clear hb;have FB:=U n_;have O5:=kZ.u.le;refine f3 31 (ax 93 _ _ rfl rfl (IL _ _)) ?_;refine (wR fb _ _ ZM k_ fN FB.u.lt FB.u.cell (SI.u.up K1.u)).mono ?_;rintro e1 tR ⟨v,rfl,bH,hb⟩;rw [HA1.u,Ma.aB] at bH;have bH:=gK.mk (l:=Ma.ah l) (by rw [Ma.aB,HA4.u]; exact bH);have hq:=iP bH.own (k:=0) (by rw [Ma.aB]; exact C_.u);rw [Ma.aB] at hq;obtain ⟨sb,sc,u0,rfl,_,_,_⟩:=hq;have Da:=U O5;refine ⟨_,rfl,?_⟩;go_frame;replace CH:=U (CH.u.p hb);replace kZ:=U (kZ.u.p hb);replace FB:=U (FB.u.p hb);replace K1:=U (Rg.acc K1.u hb)
   clear hb;have R5:=U bH;refine j7 rfl ?_;go_frame;clear n_ bH FB CO SI;replace HT:=U (HT.u.p K1.u);replace C0:=U (C0.u.p K1.u);replace C1:=U (C1.u.p K1.u);replace FT:=U (FT.u.p K1.u);have K5:=U (Below.refl tR.heap.size tR);have RP:=U (fj.nil tR.heap.size tR);have yK:=U (show ∀ j,j<0->Cm.lq n (fun z=>Cm.St H k z/\Cm.ap z k=l.getD j 0) (([]:List (List Nat)).getD j []) from fun j h=>absurd h (Nat.not_lt_zero _));go_wp2
   go_loopw [34,6] (fun iv tv wq=>∃ (m:Nat) (rs:List (List Nat)),iv=.int .i64 m/\m<=l.length/\rs.length=m/\Hid (fj tR.heap.size wq tv (rs.map Ma.ah))/\Hid (Below tR.heap.size tR wq)/\Hid (∀ j,j<m->Cm.lq n (fun z=>Cm.St H k z/\Cm.ap z k=l.getD j 0) (rs.getD j []))) (fun iv _ _=>l.length - (intOf iv).toNat)
   case atStart=>exact ⟨0,[],rfl,Nat.zero_le _,rfl,RP,K5,yK⟩
   case round =>
    clear K5 RP yK;obtain ⟨m,rs,rfl,hm,yL,RP,K5,yK⟩:=hrel
    have hlN:(l.length:Int)<=64:=by have:=yJ.u; omega
    obtain ⟨ta,tc,rfl⟩:=RP.u.shape
    by_cases jq:m<l.length
    ·have yy:(m:Int)<(l.length:Int):=by omega
     obtain ⟨p,hp⟩:∃ p:Nat,Hid (p=l[m]):=⟨_,U rfl⟩
     have aN:tR.cell? ⟨sb,0+m,none⟩=some (.int .i64 ((p:Nat):Int)):=by
      obtain ⟨g,c,u,e1,e2,e3,_⟩:=iP R5.u.own (k:=m) (by rw [Ma.aB]; exact jq);simp only [Value.slice.injEq,Option.some.injEq,Addr.mk.injEq] at e1;obtain ⟨⟨rfl,_,_⟩,_,_⟩:=e1;rw [e2,<- e3,hp.u];simp [Ma.ah,List.getElem?_eq_getElem jq]
     have CS:=U (CL.mk aN (eQ aN));obtain ⟨u,hu⟩:=((HL.u k a_.u).orb p).1 ((IP.u p).1 (by rw [hp.u]; exact List.getElem_mem jq));have xF:=HL.u k a_.u;have Ip:=xF.Cs p u hu
     have jW:p<64:=by omega
     have GU:=U (xF.yg p u hu);have HU:=U hu;obtain ⟨ub,uo,uc,EL,EM⟩:=HT.u.S8 a_.u jW hu GU.u aR;have UP:=U EM;have CU:=U (CL.mk (show tR.cell? ⟨L,k*194+2+p,none⟩=some (.slice (some ⟨ub,uo,none⟩) n uc) by rw [rX HT.u a_.u jW (by omega),EL]) HT.u.lt);have fK:=U jq;have mP:=U yL;clear aN hu xF EL EM yL;go_upto_region 9 with fail
     refine b6<|k5 (ag aO _ _ rfl sb (0) (l.length) sc (m) rfl rfl fK.u)<|k5 (g7 (.int .i64 ((p:Nat):Int)) ⟨sb,0+m,none⟩ (af ((Below.cell (p:=⟨sb,0+m,none⟩) K5.u CS.u.lt).trans CS.u.cell)))<|j6 rfl ?_;go_frame
     go_upto_region 10 with fail
     refine b6<|j7 rfl<|j8 rfl<|j8 rfl<|k5 (aZ _ rfl rfl) ?_;go_frame
     refine k5 (j0 (kc _ _))<|k5 (g7 (.slice (some ⟨L,0,none⟩) n n) ⟨tb,1,none⟩ (Rg.ae _ _ Tryz.underlying135 ((Below.cell (p:=⟨tb,1,none⟩) K5.u C1.u.lt).trans C1.u.cell)))<|j6 rfl<|j6 rfl<|k5 (bh _ _ rfl Tryz.underlying135 gS L (n) (n) (k) rfl rfl a_.u) ?_;go_frame
     refine k5 (j0 (wM _ _ _))<|k5 (bz _ _ rfl Tryz.underlying142 tI L (k*194+2) (p) rfl rfl jW)<|k5 (g7 (.slice (some ⟨ub,uo,none⟩) n uc) ⟨L,k*194+2+p,none⟩ (Rg.ae _ _ Tryz.underlying27 ((Below.cell (p:=⟨L,k*194+2+p,none⟩) K5.u CU.u.lt).trans CU.u.cell)))<|j6 rfl ?_;go_frame
     refine f3 51 (cu 95 _ _ _ _ rfl rfl rfl rfl (V6 _ _)) ?_;refine (IE aR aX (HT.u.p K5.u) (C0.u.p K5.u) (C1.u.p K5.u) HH.u px.u HL.u (UP.u.p K5.u) GU.u a_.u).mono ?_;rintro e1 eS ⟨F2,yv,y,rfl,_,_,hy,Tg,Th,hb⟩;have nG:=U Tg;have GY:=U Th;refine ⟨_,rfl,?_⟩;go_frame;replace RP:=U (RP.u.p hb);replace K5:=U (Rg.acc K5.u hb);clear hb;have YN:=U hy;have O6:=U (fun z e=>(RP.u.lt z e).2);have O7:=U K5.u.size;refine f3 52 (ax 75 _ _ rfl rfl (vF _ _)) ?_;refine (om _ (Ma.ah y) eS YN.u.np (by rw [Ma.aB,GY.u.2]; exact aR) (by rw [Ma.aB,GY.u.2]; omega)).mono ?_;rintro e1 lu ⟨cv,rfl,bH,hb⟩;obtain ⟨ca,cc,rfl⟩:=Rg.cZ bH;have mh:=U bH;refine ⟨_,rfl,?_⟩;go_frame;replace RP:=U (RP.u.p hb);replace YN:=U (YN.u.p hb)
     replace K5:=U (Rg.acc K5.u hb);clear hb;refine k5 (Rg.aI _ _ _ rfl (.slice ca (Ma.ah y).length cc) rfl (cV lu _ ⟨_,_,_,rfl⟩)) ?_;go_frame;obtain ⟨a9,c9,X9,r1,r2,r3⟩:=RP.u.push K5.u.size mh.u (by rw [Ma.aB,GY.u.2]; omega) (fun z e=>⟨by have:=(mh.u.lt z e).1; have:=O7.u; omega,fun e2=>by have:=(mh.u.lt z e).1; have:=O6.u z e2; omega⟩) (by rw [List.length_map,mP.u]; have:=yJ.u; have:=fK.u; omega) 41
     refine k5 (Rg.bw _ _ _ rfl rfl rfl r1)<|j7 rfl ?_;go_frame
     have K6:=U (r3 (Nat.le_refl _) K5.u);have V7:=U (show fj tR.heap.size X9 (.slice a9 ((rs.map Ma.ah).length+1) c9) ((rs++[y]).map Ma.ah) by rw [List.map_append]; exact r2);have V8:=U (Cm.LI.done HH.u a_.u ⟨px.u.mem k p u a_.u HU.u,px.u.rp.fx k p u (Nat.zero_le _) a_.u HU.u⟩ nG.u)
     have O8:=U (show ∀ j,j<m+1->Cm.lq n (fun z=>Cm.St H k z/\Cm.ap z k=l.getD j 0) ((rs++[y]).getD j []) from fun j hj=>by
      have hl:=mP.u
      by_cases e:j=m
      ·subst e
       have e1:(rs++[y]).getD j []=y:=by
        rw [List.getD_eq_getElem?_getD,List.getElem?_append_right (by omega),hl]; simp
       have e2:l.getD j 0=p:=by
        rw [hp.u,List.getD_eq_getElem?_getD,List.getElem?_eq_getElem fK.u]; rfl
       have e3:Cm.ap u k=p:=px.u.rp.at_ k p u (Nat.zero_le _) a_.u HU.u;rw [e1,e2];have:=V8.u
       rwa [e3] at this
      ·have e1:(rs++[y]).getD j []=rs.getD j []:=by
        rw [List.getD_eq_getElem?_getD,List.getD_eq_getElem?_getD,List.getElem?_append_left (by omega)]
       rw [e1]
       exact yK.u j (by omega))
     have O9:=U (show (rs++[y]).length=m+1 by rw [List.length_append,mP.u]; rfl);clear r1 r2 r3;go_wp2
     go_roundw
     case rel=>exact ⟨m+1,rs++[y],by go_num,fK.u,O9.u,V7,K6,O8⟩
     case measure=>simp [intOf]; have:=fK.u; omega
    ·obtain rfl:m=l.length:=by omega
     have yy:¬ (l.length:Int)<(l.length:Int):=by omega
     replace CH:=U (CH.u.p K5.u);replace K1:=U (Rg.acc K1.u K5.u);have V_:=kZ.u.le;replace kZ:=U (kZ.u.p K5.u);have O_:=R5.u.p K5.u
     have PD:=U (yH.mk CH.u (O_.fi (by rw [Ma.aB]; omega) (G:=iZ w1.heap.size wr w1.heap.size (Value.slice gU O.length gV) (Value.slice f_ R.length gi)) (fun z g1 g2=>⟨by have:=Da.u; have:=jF.u.2.2; omega,g2,fun e=>by have:=Da.u; have:=jF.u.1 z e; omega,fun e=>by have:=Da.u; have:=jF.u.2.1 z e; omega,by have:=Da.u; have:=jF.u.2.2; omega⟩))
      (RP.u.IM (by rw [List.length_map,yL]; omega) (G:=iZ w1.heap.size wr w1.heap.size (Value.slice gU O.length gV) (Value.slice f_ R.length gi)) (fun z g1 g2=>⟨by have:=jF.u.2.2; omega,g2,fun e=>by have:=jF.u.1 z e; omega,fun e=>by have:=jF.u.2.1 z e; omega,by have:=jF.u.2.2; omega⟩)))
     have Pa:=U yL;have tS:=U (show (O.map Ma.ah).length<1000000 by rw [List.length_map,ou.u.iK]; omega);have Pc:=U (show (R.map (List.map Ma.ah)).length<1000000 by rw [List.length_map,ou.u.iy]; omega);clear V_ O_ CH RP R5 FT yL;go_upto_region 12 with fail;have eF:Below wr.heap.size wr wr.drew:=(Below.refl _ _).drew;replace PD:=U (PD.u.p eF);replace K1:=U (Rg.acc K1.u eF);replace kZ:=U (kZ.u.p eF);clear eF;have aj:Below wr.heap.size wr wr.drew:=(Below.refl _ _).drew;generalize cB F wr wr.drew=F1 at *;clear aj;refine Rg.Any.begin (S:=Rg.aG 11 (fun W:World=>cD W w1.heap.size (.int .i64 ((n:Nat):Int)) (Value.slice gU O.length gV) (Value.slice f_ R.length gi)/\Below w1.heap.size w1 W) (fun _=>True)) mix ?_;generalize wr.drew=fU at *;have hS:∀ (l:Array Bool) W,(fun W:World=>cD W w1.heap.size (.int .i64 ((n:Nat):Int)) (Value.slice gU O.length gV) (Value.slice f_ R.length gi)/\Below w1.heap.size w1 W) W->Rg.aG 11 (fun W:World=>cD W w1.heap.size (.int .i64 ((n:Nat):Int)) (Value.slice gU O.length gV) (Value.slice f_ R.length gi)/\Below w1.heap.size w1 W) (fun _=>True) l W:=fun l W h=>⟨.inr h,trivial⟩
     have cT:∀ (l:Array Bool) W,l.getD 11 false=true->Rg.aG 11 (fun W:World=>cD W w1.heap.size (.int .i64 ((n:Nat):Int)) (Value.slice gU O.length gV) (Value.slice f_ R.length gi)/\Below w1.heap.size w1 W) (fun _=>True) l W:=fun l W h=>⟨.inl h,trivial⟩;have hI:(fun W:World=>cD W w1.heap.size (.int .i64 ((n:Nat):Int)) (Value.slice gU O.length gV) (Value.slice f_ R.length gi)/\Below w1.heap.size w1 W) fU:=⟨PD.u.ch.kl,K1.u⟩
     refine d7 0 11 (.pointer (some ⟨w1.heap.size,1,none⟩)) 56 rfl rfl (i9 fun w=>aA _ rfl rfl (cn _ _)) (hS _ _ hI)<|i6 1 11 (.slice gU O.length gV) 57 rfl rfl (i8 ⟨w1.heap.size,1,none⟩ (fun W hW=>Rg.ae _ _ Tryz.underlying22 hW.1.c1)) (hS _ _ hI)<|d8 2 11 (.slice (some ⟨sb,0,none⟩) l.length sc) 58 (hS _ _ hI)<|d7 5 11 (.pointer (some ⟨w1.heap.size,2,none⟩)) 61 rfl rfl (i9 fun w=>aA _ rfl rfl (cK _ _)) (hS _ _ hI)<|i6 6 11 (.slice f_ R.length gi) 62 rfl rfl (i8 ⟨w1.heap.size,2,none⟩ (fun W hW=>Rg.ae _ _ Tryz.underlying23 hW.1.c2)) (hS _ _ hI) ?_;go_frame
     refine d8 7 11 (.slice ta (rs.map Ma.ah).length tc) 63 (hS _ _ hI) ?_;go_frame
     refine Rg.Any.OY (i:=3) (k:=4) (j:=8) (q:=10) (di:=59) (dk:=60) (dj:=64) (dq:=66) (vq:=.pointer (some ⟨w1.heap.size,1,none⟩)) (I:=fun W=>(fun W:World=>cD W w1.heap.size (.int .i64 ((n:Nat):Int)) (Value.slice gU O.length gV) (Value.slice f_ R.length gi)/\Below w1.heap.size w1 W) W/\fU.heap.size<=W.heap.size) (R0:=fun W=>yH w1.heap.size W w1.heap.size (.int .i64 ((n:Nat):Int)) (Value.slice gU O.length gV) (Value.slice f_ R.length gi) (Value.slice gU O.length gV) (Value.slice f_ R.length gi) (O.map Ma.ah) (R.map (List.map Ma.ah)) (.slice (some ⟨sb,0,none⟩) l.length sc) (Ma.ah l) (.slice ta (rs.map Ma.ah).length tc) (rs.map Ma.ah)) (Ri:=fun u W=>Rg.iz fU.heap.size [.slice (some ⟨sb,0,none⟩) l.length sc] u W) (Rk:=fun x W=>fe w1.heap.size W w1.heap.size (.int .i64 ((n:Nat):Int)) (Value.slice gU O.length gV) (Value.slice f_ R.length gi) x (Value.slice f_ R.length gi) (O.map Ma.ah++[Ma.ah l]) (R.map (List.map Ma.ah))/\Rg.aM (iZ w1.heap.size W w1.heap.size x (Value.slice f_ R.length gi)) W (.slice ta (rs.map Ma.ah).length tc) (rs.map Ma.ah)/\∃ a c,x=.slice a (O.length+1) c) (Rj:=fun v W=>Rg.iz fU.heap.size [.slice ta (rs.map Ma.ah).length tc] v W) (fun l W h=>hS l W h.1)
      (by decide) (by decide) (by decide) (by decide) (by decide) (by decide) (by kernel_rfl) (by kernel_rfl) (by kernel_rfl) (by kernel_rfl) (by kernel_rfl) ?_ ?_
      (fun _ _ hb h=>h.p hb) (fun _ _ _ hb h=>h.p hb) (fun _ _ _ hb h=>⟨h.1.p hb,oq h.2.1 hb,h.2.2⟩) (fun _ _ _ hb h=>h.p hb) ?_ ?_ ?_ ⟨hI,Nat.le_refl _⟩ (PD.u) ?_
     ·intro u x W m hs h
      exact Rg.Any.vd (i:=10) (t:=11) (v:=.pointer (some ⟨w1.heap.size,1,none⟩)) (some 66) rfl rfl (by kernel_rfl) (by kernel_rfl) (by kernel_rfl) (fun _ _ _ h=>h) rfl (i9 fun w=>aA _ rfl rfl (cn _ _)) hs h
     ·intro u v x W m hs h
      exact Rg.Any.vd (i:=10) (t:=11) (v:=.pointer (some ⟨w1.heap.size,1,none⟩)) (some 66) rfl rfl (by kernel_rfl) (by kernel_rfl) (by kernel_rfl) (fun _ _ _ h=>h) rfl (i9 fun w=>aA _ rfl rfl (cn _ _)) hs h
     ·intro b hb W hW
      have pq:Below W.heap.size W (W.alloc (.cells #[.slice (some ⟨sb,0,none⟩) l.length sc] 26)):=(Below.refl _ _).alloc (Nat.le_refl _) _
      exact Rg.nz rfl rfl (by rcases hb with rfl | ⟨u,rfl⟩ <;> rfl) (Rg.aI _ _ _ rfl (.slice (some ⟨sb,0,none⟩) l.length sc) (by rcases hb with rfl | ⟨u,rfl⟩ <;> rfl) (tK W _ ⟨_,_,_,rfl⟩)) ⟨⟨⟨hW.1.1.p pq,Rg.acc hW.1.2 pq⟩,by simp; have:=hW.2; omega⟩,Rg.iz.new W [.slice (some ⟨sb,0,none⟩) l.length sc] 26 hW.2,pq⟩
     ·intro b hb W hW
      have pq:Below W.heap.size W (W.alloc (.cells #[.slice ta (rs.map Ma.ah).length tc] 41)):=(Below.refl _ _).alloc (Nat.le_refl _) _
      exact Rg.nz rfl rfl (by rcases hb with rfl | ⟨u,rfl⟩ | ⟨u,v,rfl⟩ <;> rfl) (Rg.aI _ _ _ rfl (.slice ta (rs.map Ma.ah).length tc) (by rcases hb with rfl | ⟨u,rfl⟩ | ⟨u,v,rfl⟩ <;> rfl) (rJ W _ ⟨_,_,_,rfl⟩)) ⟨⟨⟨hW.1.1.p pq,Rg.acc hW.1.2 pq⟩,by simp; have:=hW.2; omega⟩,Rg.iz.new W [.slice ta (rs.map Ma.ah).length tc] 41 hW.2,pq⟩
     ·intro u b hb W hW h0 hu
      obtain ⟨pu,rfl,pW,pz,n7⟩:=hu;obtain ⟨a2,c2,X,r1,r2,r3,r4⟩:=h0.ch.n8 hW.1.2.size h0.f5 rfl tS.u (n7 0 (by simp)) 22;have kb:=Rg.Kp.cH r3 (M:=fun z=>(Value.slice gU O.length gV).ownBlock=some z) (fun _ e=>e)
      exact Rg.nz rfl rfl (by rcases hb with rfl | ⟨v,rfl⟩ <;> rfl) (Rg.bw _ _ _ rfl (by rcases hb with rfl | ⟨v,rfl⟩ <;> rfl) (by rcases hb with rfl | ⟨v,rfl⟩ <;> rfl) r1) ⟨⟨⟨r2.kl,hW.1.2.grown r3 hW.1.2.size (fun j e=>(h0.ch.Au.1 j e).1)⟩,Nat.le_trans hW.2 r3.size⟩,⟨r2,aM.mono (aM.kp h0.f6 kb (fun z g e=>g.2.2.1 e)) r4,_,_,by rw [List.length_map]⟩,fun v hv=>hv.grown r3 (fun j e=>Nat.lt_of_lt_of_le (jF.u.1 j e) kZ.u.le)⟩
     rintro tT fu fx fv hb hk hj;have se:=hb.1;have ZN:=hb.2;clear hb hI;go_frame;have FK:=U hk;have FJ:=U hj;obtain ⟨pj,Wa,Wc,ye,s_⟩:=FJ.u;subst Wa;obtain ⟨a2,c2,Mz⟩:=FK.u.2.2;subst Mz;obtain ⟨a3,c3,X3,q1,q2,q3⟩:=FK.u.1.OQ se.2.size FK.u.2.1 rfl Pc.u (s_ 0 (by simp)) 23;rw [List.length_map] at q1 q2;have kh:=(show _/\_ from ⟨q2.kl,se.2.grown q3 se.2.size (fun j e=>(FK.u.1.Au.2 j e).1)⟩);refine i7 9 65 rfl rfl (Rg.bw _ _ _ rfl rfl rfl q1) (hS _ _ kh) ?_;go_frame;have KX:=U kh.2;refine Rg.Any.one (i:=11) (by kernel_rfl) (Rg.Any.dR none rfl rfl rfl (Rg.aq _ _ _ rfl _ rfl _ rfl (Rg.bA _ yG q2.kl.c1 q2.kl.f1)) (cT _ _ rfl) ?_);go_frame;refine d7 12 11 (.pointer (some ⟨w1.heap.size,2,none⟩)) 67 rfl rfl (i9 fun w=>aA _ rfl rfl (cK _ _)) (cT _ _ rfl) ?_;go_frame
     refine Rg.Any.one (i:=13) (by kernel_rfl) (Rg.Any.dR none rfl rfl rfl (Rg.aq _ _ _ rfl _ rfl _ rfl (Rg.bA _ wQ (q2.kl.KP _).c2 (q2.kl.KP _).f2)) (cT _ _ rfl) ?_);go_frame;refine Rg.Any.done (by kernel_rfl) ?_ _;clear cT;clear hS kh;have IQ:=q2.store (.slice a2 (O.length+1) c2) (.slice a3 (R.length+1) c3);have Pd:=(KX.u.setCell (p:=⟨w1.heap.size,1,none⟩) (Nat.le_refl _) (.slice a2 (O.length+1) c2)).setCell (p:=⟨w1.heap.size,2,none⟩) (Nat.le_refl _) (.slice a3 (R.length+1) c3);generalize (X3.setCell ⟨w1.heap.size,1,none⟩ (.slice a2 (O.length+1) c2)).setCell ⟨w1.heap.size,2,none⟩ (.slice a3 (R.length+1) c3)=dH at *;have We:=U (show fe w1.heap.size dH w1.heap.size (.int .i64 ((n:Nat):Int)) (.slice a2 (O.length+1) c2) (.slice a3 (R.length+1) c3) (.slice a2 (O.length+1) c2) (.slice a3 (R.length+1) c3) ((O++[l]).map Ma.ah) ((R++[rs]).map (List.map Ma.ah)) by rw [List.map_append,List.map_append]; exact IQ)
     have K2:=U Pd;have IU:=U (ou.u.snoc ef.u (fun p=>(IP.u p).trans ((HL.u k a_.u).orb p)) Pa.u yK.u);clear IQ Pd q1 q2 q3 KX FK FJ PD;go_wp2
     go_roundw
     case rel=>exact ⟨k+1,_,_,O++[l],R++[rs],by go_num,a_.u,We,K2,IU⟩
     case measure=>simp [intOf]; have:=a_.u; omega
  ·obtain rfl:k=n:=by omega
   have iC:¬ (k:Int)<(k:Int):=by omega
   have TT:=U (FT.u.p K1.u);go_upto_region 14 with fail
   refine b6<|k5 (Rg.e_ _ _ rfl ⟨w1.heap.size,0,none⟩ rfl (oh CH.u.kl))<|Rg.aL none rfl rfl (Rg.aq _ _ _ rfl _ rfl _ rfl (aV _ _ _ _ _ _ _ TT.u)) ?_;go_frame
   have yM:=Rg.Kp.trans (Rg.Kp.trans (Rg.Kp.aU (M:=fun z=>z=w.heap.size) (w:=wr) (a:=⟨w.heap.size,0,none⟩) (v:=.int .i64 ((k:Nat):Int)) rfl) (Rg.Kp.aU (M:=fun z=>z=w.heap.size) (a:=⟨w.heap.size,1,none⟩) (v:=(Value.slice gU O.length gV)) rfl) (fun _ _ e=>e)) (Rg.Kp.aU (M:=fun z=>z=w.heap.size) (a:=⟨w.heap.size,2,none⟩) (v:=(Value.slice f_ R.length gi)) rfl) (fun _ _ e=>e);have bR:=CH.u.kp yM (fun z e=>by rw [e]; exact OZ);have Db:=TT.u.set (.int .i64 ((k:Nat):Int)) (Value.slice gU O.length gV) (Value.slice f_ R.length gi);have pX:=((((K.u.trans (K1.u.mono K.u.size)).setCell (p:=⟨w.heap.size,0,none⟩) (Nat.le_refl _) (.int .i64 ((k:Nat):Int))).setCell (p:=⟨w.heap.size,1,none⟩) (Nat.le_refl _) (Value.slice gU O.length gV)).setCell (p:=⟨w.heap.size,2,none⟩) (Nat.le_refl _) (Value.slice f_ R.length gi))
   have Pe:=ou.u.E8 px.u
   have Pf:∀ (X:World) (c0 c1 c2 a b:Value),fe w1.heap.size X w1.heap.size c0 c1 c2 a b (O.map Ma.ah) (R.map (List.map Ma.ah))->bs (fun z=>w.heap.size<=z) X b (R.map (List.map Ma.ah)):=fun _ _ _ _ _ _ h=>by
    obtain ⟨us,h1,h2⟩:=h.ZL (by rw [List.length_map,ou.u.iy]; omega);exact ⟨us,h1.mono (fun z hz=>by omega),bT.mono h2 (fun z hz=>by omega)⟩
   go_wp2;exact bodyPost_ret (jE rfl _ rfl Db) rfl ⟨_,_,rfl,O,aM.mono (bR.ZK (by rw [List.length_map,ou.u.iK]; omega)) (fun z hz=>by omega),R,Pf _ _ _ _ _ _ bR,Pe,pX⟩
end
section
open Go.Proofs.Ob
open Go.Proofs.Cm (Lv br cd)
attribute [local irreducible] Go.Calls
def KZ (w:World) (cv:Value) (n:Nat) (gs:List (List Nat)):Prop:=∃ ov rv O R,cv=.agg #[.int .i64 ((n:Nat):Int),ov,rv]/\Rg.Rows w ov (O.map Ma.ah)/\fO w rv (R.map (List.map Ma.ah))/\Cm.ar n (Cm.Gr n (·∈gs)) O R
def kn:Value:=.agg #[.int .i64 0,.slice none 0 0,.slice none 0 0]
def ow (w:World) (d:Int) (ll:List (List Int)) (cv:Value) (c:Int):Prop:=(c≠0/\cv=kn)∨(c=0/\∃ n gs,d=((n:Nat):Int)/\ll=gs.map Ma.ah/\1<=n/\n<=64/\KZ w cv n gs)
theorem KZ.p {w w':World} {cv:Value} {n:Nat} {gs:List (List Nat)} (h:KZ w cv n gs) (hb:Below w.heap.size w w'):KZ w' cv n gs:=by
 obtain ⟨ov,rv,O,R,h1,h2,h3,h4⟩:=h;exact ⟨ov,rv,O,R,h1,h2.p hb,h3.p hb,h4⟩
theorem ow.p {w w':World} {d:Int} {ll:List (List Int)} {cv:Value} {c:Int} (h:ow w d ll cv c) (hb:Below w.heap.size w w'):ow w' d ll cv c:=by
 rcases h with h | ⟨h0,n,gs,h1,h2,h3,h4,h5⟩
 ·exact .inl h
 ·exact .inr ⟨h0,n,gs,h1,h2,h3,h4,h5.p hb⟩
theorem E9 (aR:1<=n) (aX:n<=64) {w:World} (hv:Rg.Rows w v (gs.map Ma.ah)) (hg:∀ s∈gs,Cm.Gd n s) (ke:gs.length<=1000000) :
  Calls Tryz.prog 69 #[.int .i64 ((n:Nat):Int),v] w fun e w'=>∃ (tb L:Nat) (F':Nat->Prop) (T':br) (V':Nat->LV),e=.returned (.pointer (some ⟨tb,0,none⟩))/\aW F' L n w' T' V'/\CF F' w' tb 0 (.int .i64 ((n:Nat):Int))/\CF F' w' tb 1 (.slice (some ⟨L,0,none⟩) n n)/\Cm.kX n (·∈gs) T'/\Below w.heap.size w w':=by
 refine (ID aR aX (GS.EW hv) hg ke).mono ?_;rintro e w' ⟨tb,L,F',T',V',rfl,hk,h1,h2,h3,h4⟩;exact ⟨tb,L,F',T',V',rfl,h1,h2,h3,h4,hk.kf.p (Nat.le_refl _) (fun _ h=>h)⟩
theorem fO.shape {w:World} (h:fO w v fQ):∃ a c,v=.slice a fQ.length c:=by
 obtain ⟨us,⟨a,cap,e,_⟩,h2,_⟩:=h;exact ⟨a,cap,by rw [e,h2]⟩
end
section
open Go.Proofs.Ob
open Go.Proofs.Cm (Lv br cd)
attribute [local irreducible] Go.Calls Go.wpList
def bG (d:Int) (ll:List (List Int)):Int:=if 1<=d/\d<=64 then (if ll.length<=4096 then Ma.js d ll else 4) else 2
theorem Pg (h1:1<=d) (h2:d<=64) (h:Ma.js d ll=0):∃ (n:Nat) (gs:List (List Nat)),d=n/\ll=gs.map Ma.ah/\(∀ s∈gs,Cm.Gd n s)/\1<=n/\n<=64/\gs.length=ll.length:=by
 have hz:=Ma.Ba h;obtain ⟨D,rfl⟩:∃ D:Nat,d=D:=⟨d.toNat,by omega⟩
 have hex:∀ l∈ll,∃ p,l=Ma.ah p/\Ma.kD p/\p.length=D:=fun l hl=>by
  obtain ⟨a,b⟩:=hz l hl;obtain ⟨_,_,c⟩:=Ma.iT a;obtain ⟨p,rfl,hp⟩:=Ma.lF c;rw [Ma.aB] at b;exact ⟨p,rfl,hp,by omega⟩
 clear h hz
 have:∃ gs:List (List Nat),ll=gs.map Ma.ah/\GG D gs:=by
  induction ll with
  | nil=>exact ⟨[],rfl,fun s hs=>by simp at hs⟩
  | cons l r ih =>
   obtain ⟨gs,rfl,hg⟩:=ih (fun x hx=>hex x (List.mem_cons_of_mem _ hx));obtain ⟨p,rfl,h3,h4⟩:=hex l (List.mem_cons_self ..)
   exact ⟨p :: gs,rfl,fun s hs=>by
    rcases List.mem_cons.1 hs with rfl | hs
    ·exact ⟨h3,h4⟩
    ·exact hg s hs⟩
 obtain ⟨gs,rfl,hg⟩:=this;exact ⟨D,gs,rfl,rfl,fun s hs=>hg s hs,by omega,by omega,by simp⟩
theorem fV {w:World} {td:Nat} {u3:Value} (h:cD X td u1 u2 u3) (hk:Below w.heap.size w X) (sf:w.heap.size<=td):cD (((X.setCell ⟨td,0,none⟩ (.int .i64 0)).setCell ⟨td,1,none⟩ (.slice none 0 0)).setCell ⟨td,2,none⟩ (.slice none 0 0)) td (.int .i64 0) (.slice none 0 0) (.slice none 0 0)/\Below w.heap.size w (((X.setCell ⟨td,0,none⟩ (.int .i64 0)).setCell ⟨td,1,none⟩ (.slice none 0 0)).setCell ⟨td,2,none⟩ (.slice none 0 0)) :=
 ⟨h.set _ _ _,((hk.setCell (p:=⟨td,0,none⟩) sf (.int .i64 0)).setCell (p:=⟨td,1,none⟩) sf (.slice none 0 0)).setCell (p:=⟨td,2,none⟩) sf (.slice none 0 0)⟩
end
section
attribute [local irreducible] Go.Calls
def lg (ll:List (List Int)):Bool:=(ll.take 21).any (fun l=>decide (70<l.length)) || decide (20<ll.length)
end
section
open Go.Proofs.Ob
attribute [local irreducible] Go.Calls
theorem Dc (v1 v2:Value) (l1 l2:List (List Int)) (w:World) (h1:Rg.Rows w v1 l1) (h2:Rg.Rows w v2 l2) :
  Calls Tryz.prog 57 #[v1,v2] w fun e w'=>e=.returned (.bool (decide (l1=l2)))/\∃ k,w'=w.drewN k:=by
 obtain ⟨a1,c1,rfl,n1,m1,_,k1⟩:=h1.shape;obtain ⟨a2,c2,rfl,n2,m2,_,k2⟩:=h2.shape;clear h1 h2;have K1:=U k1;have K2:=U k2;clear k1 k2;generalize hD:decide (l1=l2)=D;have HD:=U hD;clear hD
 by_cases hl:l1.length=l2.length
 ·have hb:((l1.length:Int) != (l2.length:Int))=false:=by rw [hl]; simp
  have Hl:=U hl;clear hl
  go_enter Tryz.func57,Tryz.ntmps57
  go_wp2;clear hb
  go_loopw [5] (fun v wr=>∃ i:Nat,v=.int .i64 i/\i<=l1.length/\Hid (∃ k,wr=w.drewN k)/\Hid (l1.take i=l2.take i)) (fun v _=>l1.length - (intOf v).toNat)
  case atStart=>exact ⟨0,rfl,by omega,⟨0,rfl⟩,by show _=_; simp⟩
  case round =>
   obtain ⟨i,rfl,hi,hw,hs⟩:=hrel
   by_cases aw:i<l1.length
   ·have hU:i<l2.length:=by have:=Hl.u; omega
    obtain ⟨b1,o1,rfl,bW,d1⟩:=K1.u (by omega);obtain ⟨b2,o2,rfl,df,d2⟩:=K2.u (by omega);obtain ⟨u1,y1,Af⟩:=d1 i aw;obtain ⟨u2,y2,ve⟩:=d2 i hU
    have x1:wr.cell? ⟨b1,o1+i,none⟩=some u1:=by obtain ⟨k,e⟩:=hw.u; rw [e]; exact y1
    have x2:wr.cell? ⟨b2,o2+i,none⟩=some u2:=by obtain ⟨k,e⟩:=hw.u; rw [e]; exact y2
    have eK:(i:Int)<(l2.length:Int):=by omega
    generalize hx:l1[i]=x at Af;generalize hy:l2[i]=y at ve;have Hx:=U hx;have Hy:=U hy;clear d1 d2 hx hy y1 y2;have hq:∀ n,_:=fun n=>Cj u1 u2 x y (wr.drewN n) (by obtain ⟨k,e⟩:=hw.u; rw [e]; exact Af) (by obtain ⟨k,e⟩:=hw.u; rw [e]; exact ve)
    by_cases he:x=y
    ·have hdd:decide (x=y)=true:=decide_eq_true he
     have He:=U he;rw [hdd] at hq;have Hq:=U hq;clear he hdd hq;go_wp2
     go_quiet ((go_at_call 84; exact Calls.quiet_of (Hq.u _)))
     go_wp2
     go_roundw
     case rel=>exact ⟨i+1,by go_num,by omega,by obtain ⟨k,e⟩:=hw.u; rw [e]; exact ⟨_,World.drewN_drewN _ _ _⟩,by show _=_; rw [List.take_succ_eq_append_getElem aw,List.take_succ_eq_append_getElem hU,hs.u,Hx.u,Hy.u,He.u]⟩
     case measure=>simp [intOf]; omega
    ·have hdd:decide (x=y)=false:=decide_eq_false he
     have He:=U he;rw [hdd] at hq;have Hq:=U hq;clear he hdd hq;go_wp2
     go_quiet ((go_at_call 84; exact Calls.quiet_of (Hq.u _)))
     go_wp2;go_ret;exact ⟨Rg.cG (by rw [<- HD.u]; symm; rw [decide_eq_false_iff_not]; intro hc; subst hc; exact He.u (Hx.u.symm.trans Hy.u)),by obtain ⟨k,e⟩:=hw.u; rw [e]; exact ⟨_,World.drewN_drewN _ _ _⟩⟩
   ·go_wp2
    go_ret;refine ⟨Rg.cG ?_,hw.u⟩;rw [<- HD.u]; symm;rw [decide_eq_true_eq];have h1:=hs.u
    rwa [List.take_of_length_le (by omega),List.take_of_length_le (by have:=Hl.u; omega)] at h1
 ·have hb:((l1.length:Int) != (l2.length:Int))=true:=by rw [bne_iff_ne]; omega
  have Hl:=U hl;clear hl
  go_enter Tryz.func57,Tryz.ntmps57
  go_wp2;go_ret;exact ⟨Rg.cG (by rw [<- HD.u]; symm; rw [decide_eq_false_iff_not]; intro hc; subst hc; exact Hl.u rfl),0,rfl⟩
theorem ox {l1 l2:List (List Int)} {w:World} {b:Bool} (h1:Rg.Rows w v1 l1) (h2:Rg.Rows w v2 l2) (hd:Hid (decide (l1=l2)=b)) :
  Calls Tryz.prog 57 #[v1,v2] w fun e w'=>e=.returned (.bool b)/\Below w.heap.size w w':=by
 refine (Dc v1 v2 l1 l2 w h1 h2).mono ?_;rintro e w' ⟨rfl,k,rfl⟩;exact ⟨by rw [hd.u],Rg.drewN (Below.refl _ _) k⟩
end
section
open Go.Proofs.Ob
open Go.Proofs.Cm (Lv br cd)
attribute [local irreducible] Go.Calls
theorem fO.nil (w:World) (a:Option Addr) (c:Nat) (hc:c<=maxLen):fO w (.slice a 0 c) []:=⟨[],Rg.cN.nil w a c hc,rfl,fun i h=>by simp at h⟩
theorem fO.ML {w:World} {a:Option Addr} {m c:Nat} (h:fO w (.slice a m c) fQ) {k:Nat} (hk:k<fQ.length):∃ b o,a=some ⟨b,o,none⟩/\b<w.heap.size/\∃ u,w.cell? ⟨b,o+k,none⟩=some u/\Rg.Rows w u fQ[k]:=by
 obtain ⟨us,⟨a',cap,e,_,_,_,h5⟩,h2,h3⟩:=h;obtain ⟨b,o,e1,e2,e3⟩:=h5 (by omega);simp at e;obtain ⟨rfl,_,_⟩:=e;exact ⟨b,o,e1,e2,us[k],e3 k (by omega),h3 k (by omega) hk⟩
end
end Go.Proofs.YtpedbljnhnoohaaGreat
namespace Go.Proofs.Cm
open Go.Proofs
def cE (n:Nat) (tr:Tr):Tr:=fun i p=>if p=i then some (Ma.bm n) else tr i p
def ld (tr:Tr) (i p:Nat) (y:List Nat):Tr:=fun j q=>if j=i/\q=p then some y else tr j q
structure dc (n:Nat) (gs:List Nat->Prop) (tr:Tr):Prop where
 rp:Rp n 0 (cE n tr)
 diag:∀ i,tr i i=none
 lt:∀ i p u,tr i p=some u->i<n/\p<n
 mem:∀ i p u,tr i p=some u->Gr n gs u
theorem cJ {tr:Tr} {i p:Nat} (h:p≠i):cE n tr i p=tr i p:=if_neg h
theorem cS {tr:Tr} {i:Nat}:cE n tr i i=some (Ma.bm n):=if_pos rfl
theorem dc.Ph {gs:List Nat->Prop}:dc n gs (fun _ _=>none):=by
 have h:∀ i p u,cE n (fun _ _=>none) i p=some u->p=i/\u=Ma.bm n:=fun i p u e=>by
  unfold cE at e
  by_cases h:p=i
  ·rw [if_pos h] at e; injection e with e; exact ⟨h,e.symm⟩
  ·rw [if_neg h] at e; cases e
 refine ⟨⟨fun i p u _ _ e=>?_,fun i p u _ hi e=>?_,fun i p u _ hi e=>?_,fun i _ _=>cS⟩,fun _=>rfl,fun i p u e=>(by cases e),fun i p u e=>(by cases e)⟩
 ·obtain ⟨_,rfl⟩:=h i p u e; exact h_ n
 ·obtain ⟨_,rfl⟩:=h i p u e; exact Fx.one (by omega)
 ·obtain ⟨rfl,rfl⟩:=h i p u e; exact dD hi
theorem dc.put {gs:List Nat->Prop} {tr:Tr} (h:dc n gs tr) {i:Nat} {y:List Nat} (hi:i<n) (gy:Gd n y) (fy:Fx i y) (hy:Gr n gs y) (hn:cE n tr i (ap y i)=none) :
  dc n gs (ld tr i (ap y i) y)/\∀ j q u,cE n tr j q=some u->cE n (ld tr i (ap y i) y) j q=some u:=by
 have hne:ap y i≠i:=fun e=>by rw [e,cS] at hn; cases hn
 have ht:tr i (ap y i)=none:=by rwa [cJ hne] at hn
 have hs:∀ j q u,cE n (ld tr i (ap y i) y) j q=some u->cE n tr j q=some u∨(j=i/\q=ap y i/\u=y):=fun j q u e=>by
  by_cases hd:q=j
  ·subst hd; rw [cS] at e; left; rw [cS]; exact e
  ·rw [cJ hd] at e
   unfold ld at e
   by_cases hc:j=i/\q=ap y i
   ·rw [if_pos hc] at e; injection e with e; exact .inr ⟨hc.1,hc.2,e.symm⟩
   ·rw [if_neg hc] at e; left; rw [cJ hd]; exact e
 refine ⟨⟨⟨fun j q u a b e=>?_,fun j q u a b e=>?_,fun j q u a b e=>?_,fun j _ _=>cS⟩,fun j=>?_,fun j q u e=>?_,fun j q u e=>?_⟩,fun j q u e=>?_⟩
 ·rcases hs j q u e with e | ⟨_,_,rfl⟩
  ·exact h.rp.gd j q u a b e
  ·exact gy
 ·rcases hs j q u e with e | ⟨rfl,_,rfl⟩
  ·exact h.rp.fx j q u a b e
  ·exact fy
 ·rcases hs j q u e with e | ⟨rfl,rfl,rfl⟩
  ·exact h.rp.at_ j q u a b e
  ·rfl
 ·unfold ld
  rw [if_neg (fun e=>hne (by omega))]; exact h.diag j
 ·unfold ld at e
  by_cases hc:j=i/\q=ap y i
  ·exact ⟨by omega,by rw [hc.2]; exact cM gy hi⟩
  ·rw [if_neg hc] at e; exact h.lt j q u e
 ·unfold ld at e
  by_cases hc:j=i/\q=ap y i
  ·rw [if_pos hc] at e; injection e with e; rw [<- e]; exact hy
  ·rw [if_neg hc] at e; exact h.mem j q u e
 ·by_cases hd:q=j
  ·subst hd; rw [cS] at e ⊢; exact e
  ·rw [cJ hd] at e ⊢
   unfold ld
   by_cases hc:j=i/\q=ap y i
   ·obtain ⟨rfl,rfl⟩:=hc; rw [ht] at e; cases e
   ·rw [if_neg hc]; exact e
end Go.Proofs.Cm
namespace Go.Proofs.YtpedbljnhnoohaaGreat
open Go.Proofs
section
open Go.RowKit
open Go.Proofs.Cm (Tr)
structure cg (F:Nat->Prop) (tb tf n:Nat) (w:World) (tr:Tr) (Rb:Nat->Nat) (V:Nat->Nat->Value):Prop where
 gI:∀ k,F k->k<w.heap.size
 u:∀ i,i<n->CF F w tb (tf+i) (.slice (some ⟨Rb i,0,none⟩) n n)
 nF:∀ i,i<n->¬ F (Rb i)
 inj:∀ i j,i<n->j<n->Rb i=Rb j->i=j
 row:∀ i,i<n->w.rowIs (Rb i) 27 n (V i)
 some_:∀ i p u,i<n->p<n->tr i p=some u->FP F w (V i p) u
 none_:∀ i p,i<n->p<n->tr i p=none->V i p=.slice none 0 0
theorem cg.lt {w:World} {tr:Tr} {Rb:Nat->Nat} {V:Nat->Nat->Value} (h:cg F tb tf n w tr Rb V) {i:Nat} (hi:i<n):Rb i<w.heap.size:=lB (h.row i hi)
theorem cg.up {F:Nat->Prop} {tb tf n:Nat} {w w':World} {tr:Tr} {Rb:Nat->Nat} {V:Nat->Nat->Value} (h:cg F tb tf n w tr Rb V) (hb:Below w.heap.size w w'):cg (cB F w w') tb tf n w' tr Rb V:=by
 have hk:Rg.Kp (fun _=>False) w w':=Rg.Kp.aF hb
 refine ⟨fun k hk=>by rcases hk with hk | hk; exact Nat.lt_of_lt_of_le (h.gI k hk) hb.size; exact hk.2,fun i hi=>(h.u i hi).up hb,fun i hi e=>?_,h.inj,fun i hi=>eN (h.row i hi) hk id,fun i p u hi hp e=>(h.some_ i p u hi hp e).up hb,h.none_⟩
 have:=h.lt hi
 rcases e with e | e
 ·exact h.nF i hi e
 ·omega
theorem cg.p {F:Nat->Prop} {tb tf n:Nat} {w w':World} {tr:Tr} {Rb:Nat->Nat} {V:Nat->Nat->Value} (h:cg F tb tf n w tr Rb V) (hb:Below w.heap.size w w'):cg F tb tf n w' tr Rb V:=by
 have hk:Rg.Kp (fun _=>False) w w':=Rg.Kp.aF hb;exact ⟨fun k hf=>Nat.lt_of_lt_of_le (h.gI k hf) hb.size,fun i hi=>(h.u i hi).p hb,h.nF,h.inj,fun i hi=>eN (h.row i hi) hk id,fun i p u hi hp e=>(h.some_ i p u hi hp e).p hb,h.none_⟩
theorem cg.cell {F:Nat->Prop} {tb tf n:Nat} {w:World} {tr:Tr} {Rb:Nat->Nat} {V:Nat->Nat->Value} (h:cg F tb tf n w tr Rb V) {i p:Nat} (hi:i<n) (hp:p<n):w.cell? ⟨Rb i,p,none⟩=some (V i p):=(h.row i hi).cell hp
theorem cg.put {w:World} {tr:Tr} {Rb:Nat->Nat} {V:Nat->Nat->Value} (h:cg F tb tf n w tr Rb V) {i p:Nat} (hi:i<n) {y:List Nat} (hy:FP F w yv y) :
  cg F tb tf n (w.setCell ⟨Rb i,p,none⟩ yv) (Cm.ld tr i p y) Rb (fun j q=>if j=i/\q=p then yv else V j q)/\KF F w (w.setCell ⟨Rb i,p,none⟩ yv):=by
 have hk:Rg.Kp (fun z=>z=Rb i) w (w.setCell ⟨Rb i,p,none⟩ yv):=Rg.Kp.aU rfl;have hF:∀ z,F z->¬ z=Rb i:=fun z hz e=>h.nF i hi (e▸hz);have pX:KF F w (w.setCell ⟨Rb i,p,none⟩ yv):=Rg.Kp.gO hk fun z e hz=>hF z hz e;refine ⟨⟨fun k hf=>Nat.lt_of_lt_of_le (h.gI k hf) hk.size,fun j hj=>(h.u j hj).kf pX,h.nF,h.inj,fun j hj=>?_,fun j q u hj hq e=>?_,fun j q hj hq e=>?_⟩,pX⟩
 ·by_cases e:j=i
  ·subst e
   refine ((h.row j hj).set p yv).congr fun q hq=>?_
   by_cases e2:q=p
   ·rw [if_pos e2,if_pos ⟨rfl,e2⟩]
   ·rw [if_neg e2,if_neg (fun e3=>e2 e3.2)]
  ·refine (eN (h.row j hj) hk (fun e2=>e (h.inj j i hj hi e2))).congr fun q hq=>?_
   rw [if_neg (fun e3=>e e3.1)]
 ·have e:(if j=i/\q=p then some y else tr j q)=some u:=e
  show FP F _ (if j=i/\q=p then yv else V j q) u
  by_cases hc:j=i/\q=p
  ·rw [if_pos hc] at e ⊢; injection e with e; subst e; exact hy.kf pX
  ·rw [if_neg hc] at e ⊢; exact (h.some_ j q u hj hq e).kf pX
 ·have e:(if j=i/\q=p then some y else tr j q)=none:=e
  show (if j=i/\q=p then yv else V j q)=_
  by_cases hc:j=i/\q=p
  ·rw [if_pos hc] at e; cases e
  ·rw [if_neg hc] at e ⊢; exact h.none_ j q hj hq e
def Av (n:Nat) (Rb:Nat->Nat) (k:Nat):Prop:=∃ i,i<n/\k=Rb i
structure KI (F0:Nat->Prop) (w:World) (F:Nat->Prop) (W:World) (M:Nat->Prop):Prop where
 kg:KG F0 w F W
 kp:Rg.Kp M w W
 new:∀ k,F k->F0 k∨w.heap.size<=k
theorem KI.refl {F:Nat->Prop} {w:World} {M:Nat->Prop} (h:∀ k,F k->k<w.heap.size):KI F w F w M:=⟨KG.refl h,Rg.Kp.refl _ _,fun _ h=>.inl h⟩
theorem KI.up {F0 F:Nat->Prop} {w W W':World} {M:Nat->Prop} (h:KI F0 w F W M) (hb:Below W.heap.size W W'):KI F0 w (cB F W W') W' M :=
 ⟨h.kg.up hb,Rg.Kp.trans (M:=M) h.kp (Rg.Kp.aF (M:=M) hb) (fun _ _ e=>e),fun k hk=>by
  rcases hk with hk | hk
  ·exact h.new k hk
  ·exact .inr (Nat.le_trans h.kp.size hk.1)⟩
theorem KI.put {w:World} (h:KI F0 w F W M) (hk:KF F W W') (hm:Rg.Kp M W W'):KI F0 w F W' M :=
 ⟨h.kg.yn hk,Rg.Kp.trans (M:=M) h.kp hm (fun _ _ e=>e),h.new⟩
theorem cg.kp {w:World} {tr:Tr} {Rb:Nat->Nat} {V:Nat->Nat->Value} (h:cg F tb tf n w tr Rb V) (hk:Rg.Kp M w w') (hF:∀ k,F k->¬ M k) (hR:∀ i,i<n->¬ M (Rb i)):cg F tb tf n w' tr Rb V:=by
 have pX:KF F w w':=Rg.Kp.gO hk fun z e hz=>hF z hz e;exact ⟨fun k hf=>Nat.lt_of_lt_of_le (h.gI k hf) hk.size,fun i hi=>(h.u i hi).kf pX,h.nF,h.inj,fun i hi=>eN (h.row i hi) hk (hR i hi),fun i p u hi hp e=>(h.some_ i p u hi hp e).kf pX,h.none_⟩
end
section
open Go.RowKit
open Go.Proofs.Cm (Tr)
attribute [local irreducible] Go.Calls
theorem Wf (args:Array Value) (w:World):(callFunc 35 args).run Tryz.prog w=.ok (.enter 35 args) w:=by kernel_rfl
theorem sm (args:Array Value) (w:World):(callFunc 34 args).run Tryz.prog w=.ok (.enter 34 args) w:=by kernel_rfl
theorem fB:Rg.q6 Tryz.prog 180 41 (.slice none 0 0) 24:=⟨Tryz.underlying180,eU,rfl,by decide⟩
theorem qO {a b:List Nat} {w:World} (h1:FP F w v1 a) (h2:FP F w v2 b) (ga:Cm.Gd n a) (gb:Cm.Gd n b) (aX:n<=64) :
  Calls Tryz.prog 34 #[v1,v2] w fun e w'=>∃ v,e=.returned v/\FP (cB F w w') w' v (Ma.ak a b)/\Below w.heap.size w w':=by
 have e1:=ga.2;have e2:=gb.2;refine (wG v1 v2 a b w h1.np h2.np (fun x hx=>by have:=ga.1.1 x hx; omega) (by omega)).mono ?_;rintro e w' ⟨v,rfl,hv,hb⟩;exact ⟨v,rfl,FP.new hv,hb⟩
theorem Ti {a:List Nat} {w:World} (h1:FP F w v1 a) (ga:Cm.Gd n a) (aX:n<=64) :
  Calls Tryz.prog 35 #[v1] w fun e w'=>∃ v,e=.returned v/\FP (cB F w w') w' v (Ma.aY a)/\Below w.heap.size w w':=by
 have e1:=ga.2;refine (Ep v1 a w h1.np ga.1 (by omega)).mono ?_;rintro e w' ⟨v,rfl,hv,hb⟩;exact ⟨v,rfl,FP.new hv,hb⟩
def lf (n:Nat) (tr:Tr) (A:Nat × List Nat):Tr:=if A.1<n then Cm.ld tr A.1 (Cm.ap A.2 A.1) A.2 else tr
def pY (F0:Nat->Prop) (w:World) (tb tf n:Nat) (tr:Tr) (Rb:Nat->Nat) (A:Nat × List Nat) (e:Ending) (w':World):Prop:=∃ F' V',e=.returned (.bool (decide (A.1<n)))/\KI F0 w F' w' (Av n Rb)/\cg F' tb tf n w' (lf n tr A) Rb V'
theorem pY.intro {w:World} {tr:Tr} {Rb:Nat->Nat} {A:Nat × List Nat} (F':Nat->Prop) (V':Nat->Nat->Value) (b:Bool) (h1:KI F0 w F' w' (Av n Rb)) (h2:cg F' tb tf n w' (lf n tr A) Rb V') (hb:decide (A.1<n)=b):pY F0 w tb tf n tr Rb A (.returned (.bool b)) w':=⟨F',V',by rw [hb],h1,h2⟩
theorem pZ (aR:1<=n) (aX:n<=64) {w:World} {tr:Tr} {Rb:Nat->Nat} {V:Nat->Nat->Value} (hT:cg F0 tb tf n w tr Rb V) (hr:Cm.Rp n 0 (Cm.cE n tr)) {x:List Nat} (hx:FP F0 w xv x) (gx:Cm.Gd n x) :
  Calls Tryz.prog 146 #[.slice (some ⟨tb,tf,none⟩) n tc,xv] w (pY F0 w tb tf n tr Rb (Cm.dg n (Cm.cE n tr) n x)):=by
 obtain ⟨xb0,xo0,xc0,rfl⟩:=hx.dp gx aR;have K:=U (KI.refl (M:=Av n Rb) hT.gI);have HT:=U hT;have X:=U hx;have HR:=U hr;obtain ⟨A,hA⟩:∃ A,Hid (A=Cm.dg n (Cm.cE n tr) n x):=⟨_,U rfl⟩;rw [<- hA.u];have jG:=U (show Cm.dg n (Cm.cE n tr) (n - 0) x=A from hA.u.symm);have GX:=U gx;clear hT hx hr gx
 go_enter Tryz.func146,Tryz.ntmps146
 go_wp2
 go_loopw [1,5] (fun yv iv wr=>∃ (i:Nat) (y:List Nat) (F1:Nat->Prop),i<=n/\iv=.int .i64 i/\Hid (FP F1 wr yv y)/\Hid (cg F1 tb tf n wr tr Rb V)/\Hid (KI F0 w F1 wr (Av n Rb))/\Hid (Cm.Gd n y)/\Hid (Cm.Fx i y)/\Hid (Cm.dg n (Cm.cE n tr) (n - i) y=A)) (fun _ iv _=>n - (intOf iv).toNat)
 case atStart=>exact ⟨0,x,F0,Nat.zero_le _,rfl,X,HT,K,GX,U (fun j h=>absurd h (Nat.not_lt_zero _)),jG⟩
 case round =>
  clear X HT K jG GX;obtain ⟨i,y,F,hU,rfl,X,HT,K,GY,FY,HS⟩:=hrel
  by_cases aP:i<n
  ·have xC:(i:Int)<(n:Int):=by omega
   obtain ⟨xb,xo,xc,rfl⟩:=X.u.dp GY.u aR;have fZ:=Cm.cM GY.u aP;obtain ⟨q,hq⟩:∃ q:Nat,Hid (q=Cm.ap y i):=⟨_,U rfl⟩;rw [<- hq.u] at fZ;have CX:=U (show CF F wr xb (xo+i) (.int .i64 ((q:Nat):Int)) by rw [hq.u]; exact X.u.ap GY.u aP);have bJ:=U aP;have CO:=U (HT.u.u i aP);have CE:=U (CL.mk (HT.u.cell aP fZ) (HT.u.lt aP))
   have e1:n - i=(n - i - 1)+1:=by omega
   by_cases tO:q=i
   ·have Pj:(q:Int)=(i:Int):=by omega
    have HY:=U (show Cm.dg n (Cm.cE n tr) (n - (i+1)) y=A by
     rw [<- HS.u,e1,Cm.ig (u:=Ma.bm n) (by rw [show n - (n - i - 1+1)=i by omega,<- hq.u,tO]; exact Cm.cS),Cm.inv_one,Cm.mul_one GY.u,show n - i - 1=n - (i+1) by omega])
    have MB:=U (show Cm.Fx (i+1) y from fun j hj=>by
     by_cases e:j=i
     ·subst e; rw [<- hq.u]; exact tO
     ·exact FY.u j (by omega))
    clear tO e1;go_upto_region 4 with fail
    refine b6<|j7 rfl<|j6 rfl<|k5 (ag bB _ _ rfl xb (xo) (n) xc (i) rfl rfl bJ.u)<|k5 (g7 (.int .i64 ((q:Nat):Int)) ⟨xb,xo+i,none⟩ (af CX.u.cell)) ?_;go_frame
    refine j6 rfl ?_;go_frame;go_upto_region 6 with fail
    refine b6<|j6 rfl<|j6 rfl<|k5 (g8 (.bool true) .eql (h:=fa _ f7))<|j9 rfl ?_;go_frame
    go_wp2
    go_roundw
    case rel=>exact ⟨i+1,y,_,bJ.u,by go_num,X,HT,K,GY,MB,HY⟩
    case measure=>simp [intOf]; have:=bJ.u; omega
   ·have Pj:¬ (q:Int)=(i:Int):=by omega
    cases dE:tr i q with
    | none =>
     have rH:=HT.u.none_ i q aP fZ dE;rw [rH] at CE
     have HE:=U (show A=(i,y) by
      rw [<- HS.u,e1,Cm.j_]
      ·rw [show n - (n - i - 1+1)=i by omega]
      ·rw [show n - (n - i - 1+1)=i by omega,<- hq.u,Cm.cJ tO]; exact dE)
     clear rH dE tO e1;go_upto_region 4 with fail
     refine b6<|j7 rfl<|j6 rfl<|k5 (ag bB _ _ rfl xb (xo) (n) xc (i) rfl rfl bJ.u)<|k5 (g7 (.int .i64 ((q:Nat):Int)) ⟨xb,xo+i,none⟩ (af CX.u.cell)) ?_;go_frame
     refine j6 rfl ?_;go_frame;go_upto_region 6 with fail
     refine b6<|j6 rfl<|j6 rfl<|k5 (g8 (.bool false) .eql (h:=fa _ f8))<|j9 rfl ?_;go_frame
     go_upto_region 7 with fail
     refine b6<|j7 rfl<|j6 rfl<|k5 (ag fB _ _ rfl tb (tf) (n) tc (i) rfl rfl bJ.u)<|k5 (g7 (.slice (some ⟨(Rb i),0,none⟩) n n) ⟨tb,tf+i,none⟩ (Rg.ae _ _ Tryz.underlying41 CO.u.cell)) ?_;go_frame
     refine j6 rfl<|k5 (ag aK _ _ rfl (Rb i) (0) (n) n (q) rfl rfl fZ)<|k5 (g7 (.slice none 0 0) ⟨(Rb i),0+q,none⟩ (Rg.ae _ _ Tryz.underlying27 (by rw [Nat.zero_add]; exact CE.u.cell)))<|k5 (rY _ _ rfl rfl rfl)<|j9 rfl ?_;go_frame
     go_upto_region 8 with fail
     refine b6<|j7 rfl<|j6 rfl<|k5 (ag fB _ _ rfl tb (tf) (n) tc (i) rfl rfl bJ.u)<|k5 (g7 (.slice (some ⟨(Rb i),0,none⟩) n n) ⟨tb,tf+i,none⟩ (Rg.ae _ _ Tryz.underlying41 CO.u.cell)) ?_;go_frame
     refine j6 rfl<|j7 rfl<|k5 (ag aK _ _ rfl (Rb i) (0) (n) n (q) rfl rfl fZ)<|Rg.aL none rfl rfl (Rg.aq _ _ _ rfl _ rfl _ rfl (Rg.bA _ cR (by rw [Nat.zero_add]; exact CE.u.cell) (by rw [Nat.zero_add]; exact (HT.u.row i bJ.u).frozen _))) ?_;go_frame
     obtain ⟨ZO,dy⟩:=HT.u.put (p:=q) bJ.u X.u;have ZP:Rg.Kp (Av n Rb) wr (wr.setCell ⟨Rb i,q,none⟩ (.slice (some ⟨xb,xo,none⟩) n xc)):=Rg.Kp.aU ⟨i,bJ.u,rfl⟩;simp only [Nat.zero_add];generalize wr.setCell ⟨Rb i,q,none⟩ (.slice (some ⟨xb,xo,none⟩) n xc)=ME at *;have jr:=U (show cg F tb tf n ME (lf n tr A) Rb _ by unfold lf; rw [HE.u,if_pos bJ.u,<- hq.u]; exact ZO);have K2:=U (K.u.put dy ZP);clear ZO dy ZP;go_wp2;go_ret;exact pY.intro _ _ true K2.u jr.u (by rw [HE.u]; exact decide_eq_true bJ.u)
    | some u =>
     have hid:Cm.cE n tr i q=some u:=by rw [Cm.cJ tO]; exact dE
     have gu:=HR.u.gd i q u (Nat.zero_le _) aP hid;have rZ:=HT.u.some_ i q u aP fZ dE;obtain ⟨ub,uo,uc,vG⟩:=rZ.dp gu aR;rw [vG] at rZ CE;have UP:=U rZ;have GU:=U gu;have GI:=U (Cm.aQ gu)
     have HY:=U (show Cm.dg n (Cm.cE n tr) (n - (i+1)) (Ma.ak y (Ma.aY u))=A by
      rw [<- HS.u,e1,Cm.ig (u:=u) (by rw [show n - (n - i - 1+1)=i by omega,<- hq.u]; exact hid),show n - i - 1=n - (i+1) by omega])
     obtain ⟨EF,EG⟩:=Cm.tF HR.u (Nat.zero_le _) aP GY.u FY.u (by rw [<- hq.u]; exact hid);have VI:=U EF;have MB:=U EG;clear hid gu rZ vG dE EF EG tO e1;go_upto_region 4 with fail
     refine b6<|j7 rfl<|j6 rfl<|k5 (ag bB _ _ rfl xb (xo) (n) xc (i) rfl rfl bJ.u)<|k5 (g7 (.int .i64 ((q:Nat):Int)) ⟨xb,xo+i,none⟩ (af CX.u.cell)) ?_;go_frame
     refine j6 rfl ?_;go_frame;go_upto_region 6 with fail
     refine b6<|j6 rfl<|j6 rfl<|k5 (g8 (.bool false) .eql (h:=fa _ f8))<|j9 rfl ?_;go_frame
     go_upto_region 7 with fail
     refine b6<|j7 rfl<|j6 rfl<|k5 (ag fB _ _ rfl tb (tf) (n) tc (i) rfl rfl bJ.u)<|k5 (g7 (.slice (some ⟨(Rb i),0,none⟩) n n) ⟨tb,tf+i,none⟩ (Rg.ae _ _ Tryz.underlying41 CO.u.cell)) ?_;go_frame
     refine j6 rfl<|k5 (ag aK _ _ rfl (Rb i) (0) (n) n (q) rfl rfl fZ)<|k5 (g7 (.slice (some ⟨ub,uo,none⟩) n uc) ⟨(Rb i),0+q,none⟩ (Rg.ae _ _ Tryz.underlying27 (by rw [Nat.zero_add]; exact CE.u.cell)))<|k5 (kd _ _ rfl rfl rfl)<|j9 rfl ?_;go_frame
     go_upto_region 5 with fail
     refine b6<|j7 rfl<|j7 rfl<|j6 rfl<|k5 (ag fB _ _ rfl tb (tf) (n) tc (i) rfl rfl bJ.u) ?_;go_frame
     refine k5 (g7 (.slice (some ⟨(Rb i),0,none⟩) n n) ⟨tb,tf+i,none⟩ (Rg.ae _ _ Tryz.underlying41 CO.u.cell))<|j6 rfl<|k5 (ag aK _ _ rfl (Rb i) (0) (n) n (q) rfl rfl fZ)<|k5 (g7 (.slice (some ⟨ub,uo,none⟩) n uc) ⟨(Rb i),0+q,none⟩ (Rg.ae _ _ Tryz.underlying27 (by rw [Nat.zero_add]; exact CE.u.cell))) ?_;go_frame
     refine f3 25 (ax 35 _ _ rfl rfl (Wf _ _)) ?_;refine (Ti UP.u GU.u aX).mono ?_;rintro e1 w1 ⟨iv,rfl,po,hb⟩;refine ⟨_,rfl,?_⟩;go_frame;replace X:=U (X.u.up hb);replace HT:=U (HT.u.up hb);replace CX:=U (CX.u.up hb);replace CO:=U (CO.u.up hb);replace CE:=U (CE.u.up hb);replace UP:=U (UP.u.up hb);replace K:=U (K.u.up hb);have IV:=U po;generalize cB F wr w1=F1 at *;clear hb;clear po;refine f3 26 (aC 34 _ _ _ rfl rfl rfl (sm _ _)) ?_;refine (qO X.u IV.u GY.u GI.u aX).mono ?_;rintro e1 w2 ⟨mv,rfl,gJ,hb⟩;refine ⟨_,rfl,?_⟩;go_frame;replace X:=U (X.u.up hb);replace HT:=U (HT.u.up hb);replace CX:=U (CX.u.up hb);replace CO:=U (CO.u.up hb);replace CE:=U (CE.u.up hb);replace UP:=U (UP.u.up hb);replace IV:=U (IV.u.up hb);replace K:=U (K.u.up hb);have MV:=U gJ;generalize cB F1 w1 w2=F2 at *
     clear hb;refine j5 (mv) rfl ?_;go_frame;clear gJ;go_wp2
     go_roundw
     case rel=>exact ⟨i+1,_,_,bJ.u,by go_num,MV,HT,K,VI,MB,HY⟩
     case measure=>simp [intOf]; have:=bJ.u; omega
  ·obtain rfl:i=n:=by omega
   have xC:¬ (i:Int)<(i:Int):=by omega
   have HE:=U (show A=(i,y) by rw [<- HS.u,Nat.sub_self]; rfl);have jr:=U (show cg F tb tf i wr (lf i tr A) Rb V by unfold lf; rw [HE.u,if_neg (Nat.lt_irrefl _)]; exact HT.u);go_wp2;go_ret;exact pY.intro _ _ false K.u jr.u (by rw [HE.u]; exact decide_eq_false (Nat.lt_irrefl _))

theorem IW:(Tryz.prog.info? 27).map (fun i=>(i.zero,i.size,i.bytes))=some (some (.slice none 0 0),1,24):=by kernel_rfl
theorem Pk (n:Nat) (hn:n<=1000000) (w:World):(Instr.makeSlice 41 (.int .i64 (n:Int)) (.int .i64 (n:Int))).run Tryz.prog w=.ok (.slice (some ⟨w.heap.size,0,none⟩) n n) (w.alloc (.cells (madeCells #[.slice none 0 0] n) 27)) :=
 run_make_row' 41 27 (.slice none 0 0) 24 Tryz.underlying41 IW rfl .i64 .i64 n (by omega) (by omega) w
theorem Dd (X:World) (u:Value) (hs:∃ a n c,u=.slice a n c):(Instr.buildSlice 180 1 #[(0,u)]).run Tryz.prog X=.ok (.slice (some ⟨X.heap.size,0,none⟩) 1 1) (X.alloc (.cells #[u] 41)):=by
 obtain ⟨i0,hi,dr,bD,dM⟩:=info_parts eU;obtain ⟨a,n,c,rfl⟩:=hs;refine run_buildSlice X 180 41 1 _ _ i0 _ Tryz.underlying180 hi dr (by rw [bD]; decide) (by rw [bD]; decide) ?_;generalize (fun x=>((Value.slice none 0 0).cells)[x % (Value.slice none 0 0).cells.size]!)=f;rw [bD];have h1:Array.range (1*1)=#[0]:=rfl;simp [Instr.fill,Value.cells,h1]
structure De (B n:Nat) (W:World) (v:Value) (k:Nat) (Rb:Nat->Nat):Prop where
 size:B<=W.heap.size
 own:W.ownsRow B 41 1 v k ((List.range k).map (fun j=>.slice (some ⟨Rb j,0,none⟩) n n))
 row:∀ j,j<k->W.rowIs (Rb j) 27 n (fun _=>.slice none 0 0)/\B<=Rb j/\v.ownBlock≠some (Rb j)
 inj:∀ i j,i<k->j<k->Rb i=Rb j->i=j
theorem De.start (n:Nat) (w:World):De w.heap.size n w (.slice none 0 0) 0 (fun _=>0) :=
 ⟨Nat.le_refl _,World.ownsRow_nil _ _ _ _,fun _ h=>absurd h (Nat.not_lt_zero _),fun _ _ h=>absurd h (Nat.not_lt_zero _)⟩
theorem De.push {k:Nat} {Rb:Nat->Nat} (h:De B n W v k Rb) (hk:k<1000000) (ty:TypeId) :
  ∃ a c X,(Builtin.append_ #[180,180] ty #[v,.slice (some ⟨W.heap.size+1,0,none⟩) 1 1]).run Tryz.prog ((W.alloc (.cells (madeCells #[.slice none 0 0] n) 27)).alloc (.cells #[.slice (some ⟨W.heap.size,0,none⟩) n n] 41))=.ok (.slice a (k+1) c) X /\
   De B n X (.slice a (k+1) c) (k+1) (fun j=>if j=k then W.heap.size else Rb j)/\(∀ {B':Nat} {W0:World},B'<=B->Below B' W0 W->Below B' W0 X):=by
 have bW:Below W.heap.size W (W.alloc (.cells (madeCells #[.slice none 0 0] n) 27)):=(Below.refl _ _).alloc (Nat.le_refl _) _
 have mH:(W.alloc (.cells (madeCells #[.slice none 0 0] n) 27)).heap.size=W.heap.size+1:=by simp
 have cj:=World.rowIs_made W (.slice none 0 0) n 27;generalize (W.alloc (.cells (madeCells #[.slice none 0 0] n) 27))=W1 at *;have df:Below W1.heap.size W1 (W1.alloc (.cells #[.slice (some ⟨W.heap.size,0,none⟩) n n] 41)):=(Below.refl _ _).alloc (Nat.le_refl _) _
 have jm:(W1.alloc (.cells #[.slice (some ⟨W.heap.size,0,none⟩) n n] 41)).heap.size=W1.heap.size+1:=by simp
 have hc:(W1.alloc (.cells #[.slice (some ⟨W.heap.size,0,none⟩) n n] 41)).cell? ⟨W.heap.size+1,0,none⟩=some (.slice (some ⟨W.heap.size,0,none⟩) n n):=by
  rw [<- mH,Rg.aT]; rfl
 generalize (W1.alloc (.cells #[.slice (some ⟨W.heap.size,0,none⟩) n n] 41))=W2 at *;have wS:Rg.Kp (fun _=>False) W W2:=Rg.Kp.trans (Rg.Kp.aF bW) (Rg.Kp.aF (M:=fun _=>False) df) (fun _ _ e=>e);have fR:=Rg.bV (Rg.bV h.own bW) df;obtain ⟨v',X,r1,r2,r3,r4,a,c,rfl⟩:=fA (P:=Tryz.prog) fB ty fR (by have:=h.size; omega) (W.heap.size+1) 1 hc rfl hk;have kb:Rg.Kp (fun z=>v.ownBlock=some z) W2 X:=Rg.Kp.cH r3 fun _ e=>e;have IZ:Rg.Kp (fun z=>v.ownBlock=some z) W X:=Rg.Kp.trans (M:=fun z=>v.ownBlock=some z) (wS.gO fun _=>False.elim) kb (fun _ _ e=>e);have aw:=fun z e=>(h.own.lt z e)
 have lZ:∀ z,z<W2.heap.size->v.ownBlock≠some z->(Value.slice a (k+1) c).ownBlock≠some z:=fun z hz h1 e=>by
  rcases r4 with r4 | r4
  ·rw [r4] at e; exact h1 e
  ·rw [r4] at e; injection e with e; omega
 refine ⟨a,c,X,r1,⟨by have:=h.size; have:=IZ.size; omega,?_,fun j hj=>?_,fun i j hi hj e=>?_⟩,fun {B' W0} IJ lI=>?_⟩
 ·have e:(List.range (k+1)).map (fun j=>Value.slice (some ⟨if j=k then W.heap.size else Rb j,0,none⟩) n n)=(List.range k).map (fun j=>Value.slice (some ⟨Rb j,0,none⟩) n n)++[.slice (some ⟨W.heap.size,0,none⟩) n n]:=by
   have e1:(List.range k).map (fun j=>Value.slice (some ⟨if j=k then W.heap.size else Rb j,0,none⟩) n n)=(List.range k).map (fun j=>Value.slice (some ⟨Rb j,0,none⟩) n n) :=
    List.map_congr_left fun j hj=>by rw [if_neg (by have:=List.mem_range.1 hj; omega)]
   rw [List.range_succ,List.map_append,e1,List.map_singleton,if_pos rfl]
  rw [e]; exact r2
 ·by_cases e:j=k
  ·simp only [if_pos e]
   exact ⟨eN (eN (M:=fun _=>False) cj (Rg.Kp.aF df) id) kb (fun e2=>by have:=(aw _ e2).2; omega),h.size,lZ _ (by omega) (fun e2=>by have:=(aw _ e2).2; omega)⟩
  ·simp only [if_neg e]
   obtain ⟨g1,g2,g3⟩:=h.row j (by omega);have:=lB g1;exact ⟨eN g1 IZ g3,g2,lZ _ (by omega) g3⟩
 ·by_cases e1:i=k
  ·by_cases e2:j=k
   ·omega
   ·simp only [if_pos e1,if_neg e2] at e
    have:=lB (h.row j (by omega)).1;omega
  ·by_cases e2:j=k
   ·simp only [if_neg e1,if_pos e2] at e
    have:=lB (h.row i (by omega)).1;omega
   ·simp only [if_neg e1,if_neg e2] at e
    exact h.inj i j (by omega) (by omega) e
 ·refine lI.trans ⟨IZ.os,IZ.tape,IZ.output,IZ.size,fun z hz=>IZ.block z ?_ fun e=>?_⟩
  ·have:=h.size; omega
  ·have:=(aw z e).1; omega
theorem De.done {w:World} {Rb:Nat->Nat} (h:De w.heap.size n W v n Rb) (hn:0<n) (hb:Below w.heap.size w W):∃ tb c F,v=.slice (some ⟨tb,0,none⟩) n c/\KG (fun k=>k<w.heap.size) w F W/\cg F tb 0 n W (fun _ _=>none) Rb (fun _ _=>.slice none 0 0):=by
 obtain ⟨g,c,u,rfl,_,_,hg⟩:=iP h.own hn;have hgo:w.heap.size<=g:=(h.own.lt g rfl).1
 refine ⟨g,c,fun k=>k<w.heap.size∨k=g,rfl,⟨fun k hk=>.inl hk,fun k hk=>by rcases hk with hk | rfl; exact Nat.lt_of_lt_of_le hk hb.size; exact hg,KF.aF hb⟩,⟨fun k hk=>by rcases hk with hk | rfl; exact Nat.lt_of_lt_of_le hk hb.size; exact hg,fun i hi=>?_,fun i hi e=>?_,h.inj,fun i hi=>(h.row i hi).1,fun i p u _ _ e=>(by cases e),fun _ _ _ _ _=>rfl⟩⟩
 ·obtain ⟨g',c',u',e1,e2,e3,_⟩:=iP h.own hi
  simp at e1;obtain ⟨rfl,_⟩:=e1;refine ⟨?_,.inr rfl,hg⟩;rw [e2,<- e3];simp [hi]
 ·obtain ⟨_,g2,g3⟩:=h.row i hi
  rcases e with e | e
  ·omega
  ·exact g3 (by rw [e]; rfl)
def K7 (n:Nat) (w:World) (e:Ending) (w':World):Prop:=∃ tb c F Rb,e=.returned (.slice (some ⟨tb,0,none⟩) n c)/\KG (fun k=>k<w.heap.size) w F w'/\cg F tb 0 n w' (fun _ _=>none) Rb (fun _ _=>.slice none 0 0)
theorem I2 (aR:1<=n) (aX:n<=64) (w:World) :
  Calls Tryz.prog 145 #[.int .i64 ((n:Nat):Int)] w (K7 n w):=by
 have HE:=U (De.start n w);have K:=U (Below.refl w.heap.size w)
 go_enter Tryz.func145,Tryz.ntmps145
 go_wp2
 go_loopw [3,4] (fun tv iv wr=>∃ (k:Nat) (Rb:Nat->Nat),iv=.int .i64 k/\k<=n/\(∃ a c,tv=.slice a k c)/\Hid (De w.heap.size n wr tv k Rb)/\Hid (Below w.heap.size w wr)) (fun _ iv _=>n - (intOf iv).toNat)
 case atStart=>exact ⟨0,_,rfl,Nat.zero_le _,⟨_,_,rfl⟩,HE,K⟩
 case round =>
  clear HE K;obtain ⟨k,Rb,rfl,hk,⟨ta,tc,rfl⟩,HE,K⟩:=hrel
  by_cases bZ:k<n
  ·have iC:(k:Int)<(n:Int):=by omega
   have a_:=U bZ;go_upto_region 5 with fail
   refine b6<|j7 rfl<|j6 rfl<|k5 (nD _ _ _ rfl _ _ rfl rfl (Pk n (by omega) wr))<|k5 (Rg.aI _ _ _ rfl (.slice (some ⟨wr.heap.size,0,none⟩) n n) rfl (Dd _ _ ⟨_,_,_,rfl⟩)) ?_;go_frame
   obtain ⟨a9,c9,X9,r1,r2,r3⟩:=HE.u.push (by have:=a_.u; omega) 180
   have cO:(wr.alloc (.cells (madeCells #[.slice none 0 0] n) 27)).heap.size=wr.heap.size+1:=by simp
   rw [<- cO] at r1
   refine k5 (Rg.bw _ _ _ rfl rfl rfl r1)<|j7 rfl ?_;go_frame
   have Aw:=U r2;have K2:=U (r3 (Nat.le_refl _) K.u);clear r1 r2 r3 cO;go_wp2
   go_roundw
   case rel=>exact ⟨k+1,_,by go_num,a_.u,⟨_,_,rfl⟩,Aw,K2⟩
   case measure=>simp [intOf]; have:=a_.u; omega
  ·obtain rfl:k=n:=by omega
   have iC:¬ (k:Int)<(k:Int):=by omega
   obtain ⟨tb,c,F,he,h1,h2⟩:=HE.u.done aR K.u;have H1:=U h1;have H2:=U h2
   injection he with e1 _ e2
   subst e1 e2;clear h1 h2;go_wp2;go_ret;exact (show K7 _ _ _ _ from ⟨_,_,_,_,rfl,H1.u,H2.u⟩)
end
section
open Go.RowKit
open Go.Proofs.Cm (Tr)
attribute [local irreducible] Go.Calls Go.wpList
theorem wT {o:Oper} {a:Act} {w:World} {ad:Addr} {c:Nat} (x y:Operand) (ho:o.op=.binOp .neq 27 x y 27) (hx:a.eval x=.slice (some ad) n c) (hy:a.eval y=.slice none 0 0):(execOp a.eval o).run Tryz.prog w=.ok (.value (.bool true)) w:=by
 have h1:(binOp .neq 27 (.slice (some ad) n c) (.slice none 0 0)).run Tryz.prog w=.ok (.bool true) w:=by kernel_rfl
 have hg:(eqGuard .neq 27 x y (.slice (some ad) n c) (.slice none 0 0)).run Tryz.prog w=.ok () w:=by
  simp [eqGuard]
 unfold execOp;simp only [ho,hx,hy,Sem.run_bind,Sem.run_pure,hg,h1,Result.andThen_ok]
theorem wU {o:Oper} {a:Act} {w:World} (x y:Operand) (ho:o.op=.binOp .neq 27 x y 27) (hx:a.eval x=.slice none 0 0) (hy:a.eval y=.slice none 0 0):(execOp a.eval o).run Tryz.prog w=.ok (.value (.bool false)) w:=by
 have h1:(binOp .neq 27 (.slice none 0 0) (.slice none 0 0)).run Tryz.prog w=.ok (.bool false) w:=by kernel_rfl
 have hg:(eqGuard .neq 27 x y (.slice none 0 0) (.slice none 0 0)).run Tryz.prog w=.ok () w:=by
  simp [eqGuard]
 unfold execOp;simp only [ho,hx,hy,Sem.run_bind,Sem.run_pure,hg,h1,Result.andThen_ok]
def jg (n:Nat) (tr:Tr) (i p:Nat):List (List Nat):=(List.range i).flatMap (fun j=>(List.range n).filterMap (tr j))++(List.range p).filterMap (tr i)
def dT (n:Nat) (tr:Tr):List (List Nat):=(List.range n).flatMap (fun j=>(List.range n).filterMap (tr j))
theorem I3 {tr:Tr} {i p:Nat} (h:tr i p=none):jg n tr i (p+1)=jg n tr i p:=by
 unfold jg;rw [List.range_succ,List.filterMap_append];simp [h]
theorem I4 {tr:Tr} {i p:Nat} {u:List Nat} (h:tr i p=some u):jg n tr i (p+1)=jg n tr i p++[u]:=by
 unfold jg;rw [List.range_succ,List.filterMap_append,List.append_assoc];simp [h]
theorem Br (n:Nat) (tr:Tr) (i:Nat):jg n tr i n=jg n tr (i+1) 0:=by
 unfold jg;rw [List.range_succ,List.flatMap_append];simp
theorem qP (n:Nat) (tr:Tr):jg n tr n 0=dT n tr:=by
 unfold jg dT; simp
theorem lL {α β:Type} (f:α->Option β):∀ l:List α,(l.filterMap f).length<=l.length
 | []=>Nat.le_refl _
 | a :: l=>by
  have:=lL f l
  cases h:f a with
  | none=>rw [List.filterMap_cons_none h]; simp; omega
  | some b=>rw [List.filterMap_cons_some h]; simp; omega
theorem nJ (n:Nat) (tr:Tr):∀ i p,(jg n tr i p).length<=i*n+p
 | 0,p=>by
  have:=lL (tr 0) (List.range p);unfold jg; simp at this ⊢; exact this
 | i+1,p=>by
  have h1:=nJ n tr i n;rw [Br] at h1;have h2:=lL (tr (i+1)) (List.range p);rw [List.length_range] at h2
  have h3:(jg n tr (i+1) p).length=(jg n tr (i+1) 0).length+((List.range p).filterMap (tr (i+1))).length:=by
   unfold jg; simp
  have h4:(i+1)*n=i*n+n:=Nat.succ_mul i n;omega
structure dx (F:Nat->Prop) (B:Nat) (W:World) (v:Value) (l:List (List Nat)):Prop where
 size:B<=W.heap.size
 own:∃ us,W.ownsRow B 27 1 v l.length us/\Rg.bL F W us (l.map Ma.ah)
theorem dx.nil (F:Nat->Prop) {B:Nat} {W:World} (h:B<=W.heap.size):dx F B W (.slice none 0 0) []:=⟨h,[],World.ownsRow_nil _ _ _ _,Rg.bL.nil _ _⟩
theorem dx.p {l:List (List Nat)} (h:dx F B W v l) (hb:Below W.heap.size W W'):dx F B W' v l:=by
 obtain ⟨us,h1,h2⟩:=h.own;exact ⟨Nat.le_trans h.size hb.size,us,Rg.bV h1 hb,h2.kp (M:=fun _=>False) (Rg.Kp.aF hb) (fun _ _=>id)⟩
theorem dx.shape {l:List (List Nat)} (h:dx F B W v l):∃ a c,v=.slice a l.length c:=by
 obtain ⟨us,h1,_⟩:=h.own;exact Rg.cZ h1
theorem dx.Pm {l:List (List Nat)} (h:dx F B W v l) (hF:∀ k,F k->k<B) {u:Value} {x:List Nat} (hu:FP F W u x) (hs:∃ a m c,u=.slice a m c) (hn:l.length<1000000) (ty:TypeId) :
  ∃ a c X,(Builtin.append_ #[41,41] ty #[v,.slice (some ⟨W.heap.size,0,none⟩) 1 1]).run Tryz.prog (W.alloc (.cells #[u] 27))=.ok (.slice a (l.length+1) c) X/\dx F B X (.slice a (l.length+1) c) (l++[x])/\(∀ {B':Nat} {W0:World},B'<=B->Below B' W0 W->Below B' W0 X)/\Rg.Kp (fun k=>v.ownBlock=some k) W X:=by
 obtain ⟨us,h1,h2⟩:=h.own;obtain ⟨a0,m0,c0,rfl⟩:=hs;have hb:Below W.heap.size W (W.alloc (.cells #[.slice a0 m0 c0] 27)):=(Below.refl _ _).alloc (Nat.le_refl _) _;obtain ⟨v',X,r1,r2,r3,r4,a,c,rfl⟩:=fA (P:=Tryz.prog) aK ty (Rg.bV h1 hb) (Nat.le_trans h.size hb.size) W.heap.size 1 (u:=.slice a0 m0 c0) (by rw [Rg.aT]; rfl) rfl hn;have hk:Rg.Kp (fun k=>v.ownBlock=some k) W X:=Rg.Kp.trans (M:=fun k=>v.ownBlock=some k) ((Rg.Kp.aF hb).gO fun _=>False.elim) (Rg.Kp.cH r3 fun _ e=>e) (fun _ _ e=>e)
 have hg:∀ k,F k->¬ v.ownBlock=some k:=fun k g e=>by have:=hF k g; have:=(h1.lt k e).1; omega
 refine ⟨a,c,X,r1,⟨Nat.le_trans h.size hk.size,us++[.slice a0 m0 c0],by rw [List.length_append]; exact r2,by rw [List.map_append]; exact bL.snoc (h2.kp hk hg) (Rg.FI.kp hu hk hg)⟩,fun {B' W0} IJ lI=>?_,hk⟩;refine (lI.trans ⟨hk.os,hk.tape,hk.output,hk.size,fun k N_=>hk.block k ?_ fun e=>?_⟩)
 ·have:=h.size; omega
 ·have:=(h1.lt k e).1; omega
theorem dx.push {l:List (List Nat)} (h:dx F B W v l) (hF:∀ k,F k->k<B) {u:Value} {x:List Nat} (hu:FP F W u x) (hs:∃ a m c,u=.slice a m c) (hn:l.length<1000000) (ty:TypeId) :
  ∃ a c X,(Builtin.append_ #[41,41] ty #[v,.slice (some ⟨W.heap.size,0,none⟩) 1 1]).run Tryz.prog (W.alloc (.cells #[u] 27))=.ok (.slice a (l.length+1) c) X/\dx F B X (.slice a (l.length+1) c) (l++[x])/\(∀ {B':Nat} {W0:World},B'<=B->Below B' W0 W->Below B' W0 X):=by
 obtain ⟨a,c,X,r1,r2,r3,_⟩:=h.Pm hF hu hs hn ty;exact ⟨a,c,X,r1,r2,r3⟩
def E_ (F:Nat->Prop) (B:Nat) (w:World) (l:List (List Nat)) (e:Ending) (w':World):Prop:=∃ v,e=.returned v/\dx F B w' v l/\Below B w w'
theorem eV (aR:1<=n) (aX:n<=64) {w:World} {tr:Tr} {Rb:Nat->Nat} {V:Nat->Nat->Value} (hT:cg F tb tf n w tr Rb V) (eA:∀ i p u,tr i p=some u->Cm.Gd n u) :
  Calls Tryz.prog 163 #[.slice (some ⟨tb,tf,none⟩) n tc] w (E_ F w.heap.size w (dT n tr)):=by
 have HT:=U hT;have HG:=U eA;have K:=U (Below.refl w.heap.size w);have RO:=U (show dx F w.heap.size w (.slice none 0 0) (jg n tr 0 0) from dx.nil F (Nat.le_refl _));clear hT eA
 go_enter Tryz.func163,Tryz.ntmps163
 go_wp2
 go_loopw [3,4] (fun tv iv wr=>∃ i:Nat,iv=.int .i64 i/\i<=n/\Hid (dx F w.heap.size wr tv (jg n tr i 0))/\Hid (Below w.heap.size w wr)) (fun _ iv _=>n - (intOf iv).toNat)
 case atStart=>exact ⟨0,rfl,Nat.zero_le _,RO,K⟩
 case round =>
  clear RO K;obtain ⟨i,rfl,hi,RO,K⟩:=hrel
  by_cases aP:i<n
  ·have xC:(i:Int)<(n:Int):=by omega
   have bJ:=U aP;have CO:=U (HT.u.u i aP);go_wp2
   go_loopw [3,5] (fun tv pv wr=>∃ q:Nat,pv=.int .i64 q/\q<=n/\Hid (dx F w.heap.size wr tv (jg n tr i q))/\Hid (Below w.heap.size w wr)) (fun _ pv _=>n - (intOf pv).toNat)
   case atStart=>exact ⟨0,rfl,Nat.zero_le _,RO,K⟩
   case round =>
    clear RO K;obtain ⟨q,rfl,hq,RO,K⟩:=hrel
    by_cases fZ:q<n
    ·have Pj:(q:Int)<(n:Int):=by omega
     have kM:=U fZ;have CE:=U (CL.mk (show w.cell? ⟨Rb i,0+q,none⟩=some (V i q) by rw [Nat.zero_add]; exact HT.u.cell aP fZ) (HT.u.lt aP))
     cases dE:tr i q with
     | none =>
      have rH:=HT.u.none_ i q aP fZ dE;rw [rH] at CE;have HE:=U (I3 (n:=n) dE);clear rH dE;go_upto_region 8 with fail
      refine b6<|j7 rfl<|j6 rfl<|k5 (ag fB _ _ rfl tb (tf) (n) tc (i) rfl rfl bJ.u)<|k5 (g7 (.slice (some ⟨(Rb i),0,none⟩) n n) ⟨tb,tf+i,none⟩ (Rg.ae _ _ Tryz.underlying41 ((Below.cell (p:=⟨tb,tf+i,none⟩) K.u CO.u.lt).trans CO.u.cell))) ?_;go_frame
      refine j6 rfl<|k5 (ag aK _ _ rfl (Rb i) (0) (n) n (q) rfl rfl kM.u)<|k5 (g7 (.slice none 0 0) ⟨(Rb i),0+q,none⟩ (Rg.ae _ _ Tryz.underlying27 ((Below.cell (p:=⟨(Rb i),0+q,none⟩) K.u CE.u.lt).trans CE.u.cell)))<|k5 (wU _ _ rfl rfl rfl) ?_;go_frame
      go_wp2
      go_roundw
      case rel=>exact ⟨q+1,by go_num,kM.u,by rw [HE.u]; exact RO,K⟩
      case measure=>simp [intOf]; have:=kM.u; omega
     | some u =>
      have gu:=HG.u i q u dE;have rZ:=HT.u.some_ i q u aP fZ dE;obtain ⟨ub,uo,uc,vG⟩:=rZ.dp gu aR;rw [vG] at rZ CE;have UP:=U rZ;have HE:=U (I4 (n:=n) dE)
      have Pn:=U (show (jg n tr i q).length<1000000 by
       have h1:=nJ n tr i q;have h2:i*n<=64*64:=Nat.mul_le_mul (by omega) aX
       omega)
      obtain ⟨ta,Tj,dz⟩:=RO.u.shape;subst dz;clear gu rZ vG dE;go_upto_region 8 with fail
      refine b6<|j7 rfl<|j6 rfl<|k5 (ag fB _ _ rfl tb (tf) (n) tc (i) rfl rfl bJ.u)<|k5 (g7 (.slice (some ⟨(Rb i),0,none⟩) n n) ⟨tb,tf+i,none⟩ (Rg.ae _ _ Tryz.underlying41 ((Below.cell (p:=⟨tb,tf+i,none⟩) K.u CO.u.lt).trans CO.u.cell))) ?_;go_frame
      refine j6 rfl<|k5 (ag aK _ _ rfl (Rb i) (0) (n) n (q) rfl rfl kM.u)<|k5 (g7 (.slice (some ⟨ub,uo,none⟩) n uc) ⟨(Rb i),0+q,none⟩ (Rg.ae _ _ Tryz.underlying27 ((Below.cell (p:=⟨(Rb i),0+q,none⟩) K.u CE.u.lt).trans CE.u.cell)))<|k5 (wT _ _ rfl rfl rfl) ?_;go_frame
      go_upto_region 9 with fail
      refine b6<|j7 rfl<|j7 rfl<|j6 rfl<|k5 (ag fB _ _ rfl tb (tf) (n) tc (i) rfl rfl bJ.u) ?_;go_frame
      refine k5 (g7 (.slice (some ⟨(Rb i),0,none⟩) n n) ⟨tb,tf+i,none⟩ (Rg.ae _ _ Tryz.underlying41 ((Below.cell (p:=⟨tb,tf+i,none⟩) K.u CO.u.lt).trans CO.u.cell)))<|j6 rfl<|k5 (ag aK _ _ rfl (Rb i) (0) (n) n (q) rfl rfl kM.u)<|k5 (g7 (.slice (some ⟨ub,uo,none⟩) n uc) ⟨(Rb i),0+q,none⟩ (Rg.ae _ _ Tryz.underlying27 ((Below.cell (p:=⟨(Rb i),0+q,none⟩) K.u CE.u.lt).trans CE.u.cell)))<|k5 (Rg.aI _ _ _ rfl (.slice (some ⟨ub,uo,none⟩) n uc) rfl (cV wr _ ⟨_,_,_,rfl⟩)) ?_;go_frame
      obtain ⟨a9,c9,X9,r1,r2,r3⟩:=RO.u.push HT.u.gI (UP.u.p K.u) ⟨_,_,_,rfl⟩ Pn.u 41
      refine k5 (Rg.bw _ _ _ rfl rfl rfl r1)<|j7 rfl ?_;go_frame
      have sq:=U r2;have K2:=U (r3 (Nat.le_refl _) K.u);clear r1 r2 r3;go_wp2
      go_roundw
      case rel=>exact ⟨q+1,by go_num,kM.u,by rw [HE.u]; exact sq,K2⟩
      case measure=>simp [intOf]; have:=kM.u; omega
    ·obtain rfl:q=n:=by omega
     have Pj:¬ (q:Int)<(q:Int):=by omega
     have sq:=U (by have:=RO.u; rwa [Br] at this);go_wp2
     go_roundw
     case rel=>exact ⟨i+1,by go_num,bJ.u,sq,K⟩
     case measure=>simp [intOf]; have:=bJ.u; omega
  ·obtain rfl:i=n:=by omega
   have xC:¬ (i:Int)<(i:Int):=by omega
   have sq:=U (by have:=RO.u; rwa [qP] at this);go_wp2;go_ret;exact (show E_ _ _ _ _ _ _ from ⟨_,rfl,sq.u,K.u⟩)
end
section
open Go.Proofs.Cm (Tr dc Gr Gd Sd cE dg)
theorem eP {α:Type} [DecidableEq α]:∀ {l m:List α},l.Nodup->(∀ x∈l,x∈m)->l.length<=m.length
 | [],_,_,_=>Nat.zero_le _
 | a :: l,m,nd,h=>by
  have ha:=h a (List.mem_cons_self ..);have h1:=eP (l:=l) (m:=m.erase a) (List.nodup_cons.1 nd).2 (fun x hx=>(List.mem_erase_of_ne (fun e:x=a=>(List.nodup_cons.1 nd).1 (by rw [<- e]; exact hx))).2 (h x (List.mem_cons_of_mem _ hx)));rw [List.length_erase_of_mem ha] at h1;have h2:=List.length_pos_of_mem ha;simp only [List.length_cons]; omega
theorem jh {tr:Tr} {x:List Nat}:x∈dT n tr↔∃ i p,i<n/\p<n/\tr i p=some x:=by
 unfold dT;simp only [List.mem_flatMap,List.mem_range,List.mem_filterMap];exact ⟨fun ⟨i,hi,p,hp,e⟩=>⟨i,p,hi,hp,e⟩,fun ⟨i,p,hi,hp,e⟩=>⟨i,hi,p,hp,e⟩⟩
theorem yN {gs:List Nat->Prop} {tr:Tr} (h:dc n gs tr) {i p q:Nat} {u:List Nat} (h1:tr i p=some u) (h2:tr j q=some u):i=j/\p=q:=by
 have key:∀ {i p j q:Nat},tr i p=some u->tr j q=some u->¬ i<j:=fun {i p j q} h1 h2 aw=>by
  have hne:p≠i:=fun e=>by subst e; rw [h.diag] at h1; cases h1
  have Po:q≠j:=fun e=>by subst e; rw [h.diag] at h2; cases h2
  have a1:=h.rp.at_ i p u (Nat.zero_le _) (h.lt i p u h1).1 (by rw [Cm.cJ hne]; exact h1);have a2:=h.rp.fx j q u (Nat.zero_le _) (h.lt j q u h2).1 (by rw [Cm.cJ Po]; exact h2) i aw;exact hne (a1.symm.trans a2)
 have e:i=j:=by
  rcases Nat.lt_trichotomy i j with h3 | h3 | h3
  ·exact absurd h3 (key h1 h2)
  ·exact h3
  ·exact absurd h3 (key h2 h1)
 subst e
 have hne:p≠i:=fun e=>by subst e; rw [h.diag] at h1; cases h1
 have Po:q≠i:=fun e=>by subst e; rw [h.diag] at h2; cases h2
 have a1:=h.rp.at_ i p u (Nat.zero_le _) (h.lt i p u h1).1 (by rw [Cm.cJ hne]; exact h1);have a2:=h.rp.at_ i q u (Nat.zero_le _) (h.lt i q u h2).1 (by rw [Cm.cJ Po]; exact h2);exact ⟨rfl,a1.symm.trans a2⟩
theorem p6 {gs:List Nat->Prop} {tr:Tr} (h:dc n gs tr):(dT n tr).Nodup:=by
 unfold dT List.Nodup;rw [List.pairwise_flatMap];refine ⟨fun i _=>?_,?_⟩
 ·rw [List.pairwise_filterMap]
  refine List.Pairwise.imp (fun {a b} fX x hx y hy e=>?_) (List.nodup_range (n:=n));subst e;exact fX (yN h hx hy).2
 ·refine List.Pairwise.imp (fun {a b} fX x hx y hy e=>?_) (List.nodup_range (n:=n))
  subst e;rw [List.mem_filterMap] at hx hy;obtain ⟨p,_,hp⟩:=hx;obtain ⟨q,_,hq⟩:=hy;exact fX (yN h hp hq).1
theorem ik {gs:List Nat->Prop} {tr:Tr} (h:dc n gs tr) {i p:Nat} {u:List Nat} (h1:tr i p=some u):Gd n u:=by
 have hne:p≠i:=fun e=>by subst e; rw [h.diag] at h1; cases h1
 exact h.rp.gd i p u (Nat.zero_le _) (h.lt i p u h1).1 (by rw [Cm.cJ hne]; exact h1)
theorem K8 {gs:List Nat->Prop} {tr:Tr} (h:dc n gs tr) {i p:Nat} {u:List Nat} (h1:cE n tr i p=some u):Gr n gs u:=by
 by_cases e:p=i
 ·subst e; rw [Cm.cS] at h1; injection h1 with h1; rw [<- h1]; exact .one
 ·rw [Cm.cJ e] at h1; exact h.mem i p u h1
theorem tU {gs:List Nat->Prop} (hg:∀ s,gs s->Gd n s) {tr:Tr} (h:dc n gs tr) {x:List Nat} (hx:Gr n gs x) :
  dc n gs (lf n tr (dg n (cE n tr) n x))/\(∀ i p u,cE n tr i p=some u->cE n (lf n tr (dg n (cE n tr) n x)) i p=some u)/\Sd n (cE n (lf n tr (dg n (cE n tr) n x))) n x /\
   ((dT n (lf n tr (dg n (cE n tr) n x))).length<=(dT n tr).length->lf n tr (dg n (cE n tr) n x)=tr):=by
 have gx:=(Gr.dO hg).gd x hx;obtain ⟨a1,_,a3,a4,a5⟩:=Cm.nw h.rp (Nat.le_refl n) (by omega) gx (fun j hj=>absurd hj (by omega));have a6:=Cm.yf (tr:=cE n tr) (Gr.dO hg) (d:=n) (x:=x) (Nat.le_refl n) (fun i p u _ _ e=>K8 h e) hx;have a7:=fun tr' (hm:∀ i p u,cE n tr i p=some u->cE n tr' i p=some u) hs=>Cm.qM (n:=n) (tr:=cE n tr) (tr':=cE n tr') (d:=n) (x:=x) (Nat.le_refl n) (fun i p u _=>hm i p u) hs;generalize dg n (cE n tr) n x=A at *;obtain ⟨i,y⟩:=A;simp only at a1 a3 a4 a5 a6 a7;unfold lf
 by_cases hi:i<n
 ·simp only [if_pos hi]
  obtain ⟨b1,b2⟩:=h.put hi a3 a4 a6 (a5 hi)
  have hne:Cm.ap y i≠i:=fun e=>by have:=a5 hi; rw [e,Cm.cS] at this; cases this
  have hy:Cm.ld tr i (Cm.ap y i) y i (Cm.ap y i)=some y:=if_pos ⟨rfl,rfl⟩
  have ZQ:cE n (Cm.ld tr i (Cm.ap y i) y) i (Cm.ap y i)=some y:=by rw [Cm.cJ hne]; exact hy
  refine ⟨b1,b2,a7 _ b2 ?_,fun hlen=>?_⟩
  ·have h1:n - i=(n - (i+1))+1:=by omega
   have hyS:=Cm.Sd.entry b1.rp hi ZQ;have h2:=(Cm.Sd.up (k:=i) (d:=n - i) b1.rp (by omega) (by omega) a3 (by rw [show n - (n - i)=i by omega]; exact a4)).1;rw [show n - i+i=n by omega] at h2;exact h2 hyS
  ·exfalso
   have hn:y∉dT n tr:=fun hm=>by
    obtain ⟨j,q,hj,hq,e⟩:=jh.1 hm
    have e2:Cm.ld tr i (Cm.ap y i) y j q=some y:=by
     by_cases hc:j=i/\q=Cm.ap y i
     ·exact if_pos hc
     ·unfold Cm.ld; rw [if_neg hc]; exact e
    obtain ⟨rfl,rfl⟩:=yN b1 e2 hy;have:=a5 hi;rw [Cm.cJ hne,e] at this
    cases this
   have h1:=eP (l:=y :: dT n tr) (m:=dT n (Cm.ld tr i (Cm.ap y i) y)) (List.nodup_cons.2 ⟨hn,p6 h⟩) (fun z hz=>by
    rcases List.mem_cons.1 hz with rfl | hz
    ·exact jh.2 ⟨i,_,hi,Cm.cM a3 hi,hy⟩
    ·obtain ⟨j,q,hj,hq,e⟩:=jh.1 hz
     refine jh.2 ⟨j,q,hj,hq,?_⟩
     have U8:q≠j:=fun e3=>by subst e3; rw [h.diag] at e; cases e
     have:=b2 j q z (by rw [Cm.cJ U8]; exact e)
     rwa [Cm.cJ U8] at this)
   simp only [List.length_cons] at h1;omega
 ·simp only [if_neg hi]
  obtain rfl:i=n:=by omega
  refine ⟨h,fun _ _ _ e=>e,a7 _ (fun _ _ _ e=>e) ?_,fun _=>trivial⟩;rw [Nat.sub_self];show y=_;exact Cm.Fx.all a3 a4
structure LE (n:Nat) (gs:List Nat->Prop) (tr:Tr) (l:List (List Nat)):Prop where
 ok:dc n gs tr
 sub:∀ x∈l,x∈dT n tr
 all:∀ x∈dT n tr,x∈l
 nd:l.Nodup
 gn:∀ s,gs s->Sd n (cE n tr) n s
theorem LE.len {gs:List Nat->Prop} {tr:Tr} {l:List (List Nat)} (h:LE n gs tr l):l.length<=n*n:=by
 have h1:=eP h.nd h.sub;have h2:=nJ n tr n 0;rw [qP] at h2;omega
theorem LE.gr {gs:List Nat->Prop} {tr:Tr} {l:List (List Nat)} (h:LE n gs tr l) {x:List Nat} (hx:x∈l):Gr n gs x/\Gd n x:=by
 obtain ⟨i,p,_,_,e⟩:=jh.1 (h.sub x hx);exact ⟨h.ok.mem i p x e,ik h.ok e⟩
theorem LE.start {gs:List Nat->Prop} {tr:Tr} (h:dc n gs tr) (hg:∀ s,gs s->Sd n (cE n tr) n s):LE n gs tr (dT n tr):=⟨h,fun _ hx=>hx,fun _ hx=>hx,p6 h,hg⟩
def jH (n:Nat) (tr:Tr) (l:List (List Nat)):List (List Nat):=(dT n tr).filter fun x=>decide (x∉l)
theorem LE.more {gs:List Nat->Prop} {tr tr':Tr} {l:List (List Nat)} (h:LE n gs tr l) (h':dc n gs tr') (hm:∀ i p u,cE n tr i p=some u->cE n tr' i p=some u):LE n gs tr' (l++jH n tr' l):=by
 have hs:∀ x∈dT n tr,x∈dT n tr':=fun x hx=>by
  obtain ⟨i,p,hi,hp,e⟩:=jh.1 hx
  have hne:p≠i:=fun e3=>by subst e3; rw [h.ok.diag] at e; cases e
  refine jh.2 ⟨i,p,hi,hp,?_⟩;have:=hm i p x (by rw [Cm.cJ hne]; exact e)
  rwa [Cm.cJ hne] at this
 refine ⟨h',fun x hx=>?_,fun x hx=>?_,?_,fun s hs=>Sd.mono (fun i p u _=>hm i p u) (h.gn s hs)⟩
 ·rcases List.mem_append.1 hx with hx | hx
  ·exact hs x (h.sub x hx)
  ·exact (List.mem_filter.1 hx).1
 ·by_cases hl:x∈l
  ·exact List.mem_append_left _ hl
  ·exact List.mem_append_right _ (List.mem_filter.2 ⟨hx,by simp [hl]⟩)
 ·refine List.nodup_append.2 ⟨h.nd,List.Pairwise.filter _ (p6 h'),fun a ha b hb e=>?_⟩
  subst e;have:=(List.mem_filter.1 hb).2;simp [ha] at this
def p7 (n:Nat) (tr:Tr) (l:List (List Nat)) (a b:Nat):Prop:=Sd n (cE n tr) n (Ma.ak (l.getD a []) (l.getD b []))
theorem lC {l m:List (List Nat)} {a:Nat} (h:a<l.length):(l++m).getD a []=l.getD a []:=by
 rw [List.getD_eq_getElem?_getD,List.getD_eq_getElem?_getD,List.getElem?_append_left h]
theorem p7.more {tr tr':Tr} {l m:List (List Nat)} {a b:Nat} (h:p7 n tr l a b) (ha:a<l.length) (hb:b<l.length) (hm:∀ i p u,cE n tr i p=some u->cE n tr' i p=some u):p7 n tr' (l++m) a b:=by
 unfold p7;rw [lC ha,lC hb];exact Sd.mono (fun i p u _=>hm i p u) h
theorem LE.done {gs:List Nat->Prop} (hg:∀ s,gs s->Gd n s) {tr:Tr} {l:List (List Nat)} (h:LE n gs tr l) (hp:∀ a b,a<l.length->b<l.length->p7 n tr l a b):Cm.lJ n (Gr n gs) (cE n tr):=by
 have aP:∀ i p u,i<n->p≠i->cE n tr i p=some u->∃ a,a<l.length/\l.getD a []=u:=fun i p u hi hne e=>by
  rw [Cm.cJ hne] at e;have h1:=h.all u (jh.2 ⟨i,p,hi,(h.ok.lt i p u e).2,e⟩);obtain ⟨a,ha,e2⟩:=List.getElem_of_mem h1;exact ⟨a,ha,by rw [List.getD_eq_getElem?_getD,List.getElem?_eq_getElem ha]; exact e2⟩
 refine Cm.Mj h.ok.rp hg h.gn (fun i p u hi e=>K8 h.ok e) fun i p u j q v hi hj e1 e2=>?_;have gu:=h.ok.rp.gd i p u (Nat.zero_le _) hi e1;have gv:=h.ok.rp.gd j q v (Nat.zero_le _) hj e2
 by_cases c1:p=i
 ·subst c1
  rw [Cm.cS] at e1
  injection e1 with e1
  subst e1;rw [Cm.one_mul gv];exact Cm.Sd.entry h.ok.rp hj e2
 ·by_cases c2:q=j
  ·subst c2
   rw [Cm.cS] at e2
   injection e2 with e2
   subst e2;rw [Cm.mul_one gu];exact Cm.Sd.entry h.ok.rp hi e1
  ·obtain ⟨a,ha,ea⟩:=aP i p u hi c1 e1
   obtain ⟨b,hb,eb⟩:=aP j q v hj c2 e2;have:=hp a b ha hb;unfold p7 at this
   rwa [ea,eb] at this
end
section
open Go.RowKit
open Go.Proofs.Cm (Tr)
theorem Wg {P:Program} {t e:TypeId} (T:Rg.q6 P t e z bytes) (ty:TypeId) {us:List Value} (fR:X.ownsRow B e 1 v n xs) (hX:B<=X.heap.size)
  (ph:Rg.cN X xv us) (h1:∀ u∈us,u.oneCell'=true) (hn:n+us.length<1000000000) :
  ∃ v' X',(Builtin.append_ #[t,t] ty #[v,xv]).run P X=.ok v' X'/\X'.ownsRow B e 1 v' (n+us.length) (xs++us)/\X.grownBy X' v.ownBlock/\(v'.ownBlock=v.ownBlock∨v'.ownBlock=some X.heap.size):=by
 obtain ⟨i0,hi,dr,bD,dM⟩:=info_parts T.info;obtain ⟨ad,cap,rfl,q2,q3,q4,q5⟩:=ph
 cases ad with
 | none =>
  have h0:us=[]:=by
   cases us with
   | nil=>rfl
   | cons u r=>obtain ⟨b,o,e1,_⟩:=q5 (by simp); cases e1
  subst h0;exact ⟨v,X,Rg.s6 (P:=P) (w:=X) B t ty e i0 1 cap T.ty hi v n xs fR,by simpa using fR,⟨rfl,rfl,rfl,Nat.le_refl _,fun _ _ _=>rfl⟩,.inl rfl⟩
 | some ad =>
  obtain ⟨v',w',hr,h2,h3,h4,h5⟩:=run_append_own_at (P:=P) X B t ty e i0 z 1 bytes T.ty hi dr bD dM T.zc (by decide) v n xs fR ad us.length cap us (by omega) (fun j u hu=>by
   have hj:=(List.getElem?_eq_some_iff.1 hu).1;obtain ⟨b,o,e1,e2,e3⟩:=q5 (by omega);simp at e1; subst e1
   rw [Addr.add_mid,e3 j hj,<- hu,List.getElem?_eq_getElem hj]) h1 (by unfold maxLen; omega) (by have:(n+us.length)*bytes<=1000000000*64:=Nat.mul_le_mul (by omega) T.small; omega) hX
  exact ⟨v',w',hr,h2,h3,h5⟩
structure dV (F M:Nat->Prop) (W:World) (v:Value) (l:List (List Nat)):Prop where
 own:∃ B us,B<=W.heap.size/\W.ownsRow B 27 1 v l.length us/\Rg.bL F W us (l.map Ma.ah)
 off:∀ k,v.ownBlock=some k->¬ F k/\¬ M k
theorem dx.g {l:List (List Nat)} (h:dx F B W v l) (hF:∀ k,F k->k<B) (hM:∀ k,M k->k<B):dV F M W v l:=by
 obtain ⟨us,h1,h2⟩:=h.own;refine ⟨⟨B,us,h.size,h1,h2⟩,fun k e=>?_⟩;have:=(h1.lt k e).1;exact ⟨fun g=>by have:=hF k g; omega,fun g=>by have:=hM k g; omega⟩
theorem dV.lt {F M:Nat->Prop} {W:World} {v:Value} {l:List (List Nat)} (h:dV F M W v l):∀ k,v.ownBlock=some k->k<W.heap.size:=fun k e=>by
 obtain ⟨B,us,h0,h1,h2⟩:=h.own;exact (h1.lt k e).2
theorem dV.up {l:List (List Nat)} (h:dV F M W v l) (hb:Below W.heap.size W W'):dV (cB F W W') M W' v l:=by
 obtain ⟨B,us,h0,h1,h2⟩:=h.own;refine ⟨⟨B,us,Nat.le_trans h0 hb.size,Rg.bV h1 hb,(h2.kp (M:=fun _=>False) (Rg.Kp.aF hb) (fun _ _=>id)).mono fun _=>.inl⟩,fun k e=>⟨fun g=>?_,(h.off k e).2⟩⟩;have:=h.lt k e
 rcases g with g | g
 ·exact (h.off k e).1 g
 ·omega
theorem dV.ki {l:List (List Nat)} (h:dV F M W v l) (hk:KI F W F' W' M):dV F' M W' v l:=by
 obtain ⟨B,us,h0,h1,h2⟩:=h.own;refine ⟨⟨B,us,Nat.le_trans h0 hk.kp.size,iB h1 hk.kp (fun k hk e=>(h.off k e).2 hk),(Rg.bL.kp h2 hk.kg.kf (fun _ hF hn=>hn hF)).mono hk.kg.sub⟩,fun k e=>⟨fun g=>?_,(h.off k e).2⟩⟩;have:=h.lt k e
 rcases hk.new k g with g | g
 ·exact (h.off k e).1 g
 ·omega
theorem dV.shape {l:List (List Nat)} (h:dV F M W v l):∃ a c,v=.slice a l.length c:=by
 obtain ⟨B,us,h0,h1,h2⟩:=h.own;exact Rg.cZ h1
theorem dV.at {l:List (List Nat)} (h:dV F M W v l) {i:Nat} (hi:i<l.length):∃ g c u,v=.slice (some ⟨g,0,none⟩) l.length c/\CL W g (0+i) u/\FP F W u l[i]:=by
 obtain ⟨B,us,h0,h1,h2⟩:=h.own;obtain ⟨g,c,u,e1,e2,e3,e4⟩:=iP h1 hi;obtain ⟨hu,rfl⟩:=List.getElem?_eq_some_iff.1 e3;have:=h2.2 i hu (by rw [List.length_map]; exact hi);rw [List.getElem_map] at this;exact ⟨g,c,us[i],e1,⟨e2,e4⟩,this⟩
theorem dV.app {F M:Nat->Prop} {W:World} {v v2:Value} {l m:List (List Nat)} {B2:Nat} (h:dV F M W v l) (h2:dx F B2 W v2 m) (hF:∀ k,F k->k<W.heap.size) (hM:∀ k,M k->k<W.heap.size) (hn:l.length+m.length<1000000) (ty:TypeId) :
  ∃ a c X,(Builtin.append_ #[41,41] ty #[v,v2]).run Tryz.prog W=.ok (.slice a (l.length+m.length) c) X/\dV F M X (.slice a (l.length+m.length) c) (l++m)/\Rg.Kp (fun k=>v.ownBlock=some k) W X:=by
 obtain ⟨B,us,h0,h1,h3⟩:=h.own;obtain ⟨ZR,g1,g2⟩:=h2.own
 have hl:ZR.length=m.length:=by have:=g2.1; rwa [List.length_map] at this
 obtain ⟨v',X,r1,r2,r3,r4⟩:=Wg (P:=Tryz.prog) aK ty h1 h0 (Rg.cN.dL g1 (by omega)) g2.NV (by omega);have hk:Rg.Kp (fun k=>v.ownBlock=some k) W X:=Rg.Kp.cH r3 fun _ e=>e;rw [hl] at r2;obtain ⟨a,c,rfl⟩:=Rg.cZ r2;have hg:∀ k,F k->¬ v.ownBlock=some k:=fun k g e=>(h.off k e).1 g;refine ⟨a,c,X,r1,⟨⟨B,us++ZR,Nat.le_trans h0 hk.size,by rw [List.length_append]; exact r2,by rw [List.map_append]; exact (h3.kp hk hg).app (g2.kp hk hg)⟩,fun k e=>?_⟩,hk⟩
 rcases r4 with r4 | r4
 ·exact h.off k (by rw [<- r4]; exact e)
 ·rw [r4] at e
  injection e with e
  subst e;exact ⟨fun g=>by have:=hF _ g; omega,fun g=>by have:=hM _ g; omega⟩
end
section
open Go.RowKit
open Go.Proofs.Cm (Tr)
attribute [local irreducible] Go.Calls
theorem p8 (args:Array Value) (w:World):(callFunc 163 args).run Tryz.prog w=.ok (.enter 163 args) w:=by kernel_rfl
theorem Wh (args:Array Value) (w:World):(callFunc 84 args).run Tryz.prog w=.ok (.enter 84 args) w:=by kernel_rfl
theorem dx.at {l:List (List Nat)} (h:dx F B W v l) {i:Nat} (hi:i<l.length):∃ g c u,v=.slice (some ⟨g,0,none⟩) l.length c/\CL W g (0+i) u/\FP F W u l[i]:=by
 obtain ⟨us,h1,h2⟩:=h.own;obtain ⟨g,c,u,e1,e2,e3,e4⟩:=iP h1 hi;obtain ⟨hu,rfl⟩:=List.getElem?_eq_some_iff.1 e3;have:=h2.2 i hu (by rw [List.length_map]; exact hi);rw [List.getElem_map] at this;exact ⟨g,c,us[i],e1,⟨e2,e4⟩,this⟩
theorem Pp {w:World} {a:Option Addr} {m c:Nat} {l:List (List Nat)} (h:Rg.Rows w (.slice a m c) (l.map Ma.ah)) {k:Nat} (hk:k<l.length):∃ b o u,a=some ⟨b,o,none⟩/\CL w b (o+k) u/\Rg.Ints w u (Ma.ah l[k]):=by
 obtain ⟨a',c',e,_,_,_,h2⟩:=h.shape
 injection e with e1 _ _
 obtain ⟨b,o,e2,hb,h3⟩:=h2 (by rw [List.length_map]; omega);obtain ⟨u,hu,hi⟩:=h3 k (by rw [List.length_map]; exact hk);rw [List.getElem_map] at hi;exact ⟨b,o,u,e1.trans e2,⟨hu,hb⟩,hi⟩
def gB (E l:List (List Nat)) (i:Nat):List (List Nat):=(E.take i).filter fun x=>decide (x∉l)
theorem I5 {E l:List (List Nat)} {i:Nat} (hi:i<E.length) (h:E[i]∈l):gB E l (i+1)=gB E l i:=by
 unfold gB;rw [List.take_succ_eq_append_getElem hi,List.filter_append];simp [h]
theorem Fa {E l:List (List Nat)} {i:Nat} (hi:i<E.length) (h:E[i]∉l):gB E l (i+1)=gB E l i++[E[i]]:=by
 unfold gB;rw [List.take_succ_eq_append_getElem hi,List.filter_append];simp [h]
theorem I6 (E l:List (List Nat)) (i:Nat):(gB E l i).length<=E.length:=by
 unfold gB;exact Nat.le_trans (List.length_filter_le _ _) (List.length_take_le' _ _)
theorem Fb (n:Nat) (tr:Tr) (l:List (List Nat)):gB (dT n tr) l (dT n tr).length=jH n tr l:=by
 unfold gB jH;rw [List.take_length]
theorem yO {x:List Nat} {l:List (List Nat)} {k:Nat} (hk:k<l.length) (h:x∉l.take k):decide (x∈l.take (k+1))=decide (Ma.ah x=Ma.ah l[k]):=by
 have h1:(Ma.ah x=Ma.ah l[k])↔x=l[k]:=⟨Ma.lG,fun e=>by rw [e]⟩
 have h2:x∈l.take (k+1)↔x=l[k]:=by
  rw [List.take_succ_eq_append_getElem hk,List.mem_append,List.mem_singleton];exact ⟨fun e=>e.resolve_left h,.inr⟩
 exact decide_eq_decide.2 (h2.trans h1.symm)
def K9 (F:Nat->Prop) (w:World) (l:List (List Nat)) (e:Ending) (w':World):Prop:=∃ v B,e=.returned v/\w.heap.size<=B/\dx F B w' v l/\Below w.heap.size w w'
theorem yP (aR:1<=n) (aX:n<=64) {w:World} {tr:Tr} {Rb:Nat->Nat} {V:Nat->Nat->Value} (hT:cg F tb tf n w tr Rb V) (eA:∀ i p u,tr i p=some u->Cm.Gd n u) {lv:Value} {l:List (List Nat)} (hl:Rg.Rows w lv (l.map Ma.ah)) :
  Calls Tryz.prog 164 #[.slice (some ⟨tb,tf,none⟩) n tc,lv] w (K9 F w (jH n tr l)):=by
 obtain ⟨la,lc,rfl,_,mG,_,_⟩:=hl.shape;rw [List.length_map] at mG;have Fc:=U mG;have HT:=U hT;have HG:=U eA;have HL:=U hl;have Df:=U hT.gI;have K:=U (Below.refl w.heap.size w);clear hT eA hl mG;simp only [List.length_map]
 go_enter Tryz.func164,Tryz.ntmps164
 go_upto_region 2 with fail
 refine b6<|j7 rfl ?_;go_frame
 refine f3 11 (ax 163 _ _ rfl rfl (p8 _ _)) ?_;refine (eV aR aX HT.u HG.u).mono ?_;rintro e1 w1 ⟨av,rfl,kK,hb⟩;refine ⟨_,rfl,?_⟩;go_frame;replace HT:=U (HT.u.p hb);replace HL:=U (HL.u.p hb);replace K:=U (Rg.acc K.u hb);clear hb;have RA:=U kK;refine j5 (av) rfl ?_;go_frame;clear kK;obtain ⟨aa,ac,VN⟩:=RA.u.shape;subst VN;obtain ⟨E,hE⟩:∃ E,Hid (dT n tr=E):=⟨_,U rfl⟩;rw [hE.u] at RA ⊢;have KB:=K;have K1:=U (Below.refl w1.heap.size w1);clear K;have RO:=U (show dx F w1.heap.size w1 (.slice none 0 0) (gB E l 0) from dx.nil F (Nat.le_refl _));have HFW:=U (show ∀ k,F k->k<w1.heap.size from fun k hk=>Nat.lt_of_lt_of_le (Df.u k hk) KB.u.size)
 have Wi:E.length<1000000:=by
  have h1:=nJ n tr n 0;rw [qP,hE.u] at h1;have h2:n*n<=64*64:=Nat.mul_le_mul aX aX;omega
 have Tk:=U Wi;clear Wi;go_wp2
 go_loopw [5,7] (fun tv iv wr=>∃ i:Nat,iv=.int .i64 i/\i<=E.length/\Hid (dx F w1.heap.size wr tv (gB E l i))/\Hid (Below w1.heap.size w1 wr)) (fun _ iv _=>E.length - (intOf iv).toNat)
 case atStart=>exact ⟨0,rfl,Nat.zero_le _,RO,K1⟩
 case round =>
  clear RO K1;obtain ⟨i,rfl,hi,RO,K1⟩:=hrel;obtain ⟨ta,Tj,dz⟩:=RO.u.shape;subst dz;have Wi:=Tk.u
  by_cases aP:i<E.length
  ·have xC:(i:Int)<(E.length:Int):=by omega
   have bJ:=U aP;obtain ⟨g,c,u,e1,e2,e3⟩:=RA.u.at aP;simp only [Value.slice.injEq] at e1;obtain ⟨rfl,_,_⟩:=e1;obtain ⟨x,hx⟩:∃ x:List Nat,Hid (E[i]'aP=x):=⟨_,U rfl⟩
   replace e3:FP F w1 u x:=by rw [<- hx.u]; exact e3
   have CA:=U e2;have UP:=U e3;have XU:=U (show Rg.Ints w1 u (Ma.ah x) from e3.np);have Pq:=U (show false=decide (x∈l.take 0) by simp);clear e2 e3;go_wp2
   go_loopw [8,9] (fun sv kv wr=>∃ (b:Bool) (k:Nat),sv=.bool b/\kv=.int .i64 k/\k<=l.length/\Hid (b=decide (x∈l.take k))/\Hid (dx F w1.heap.size wr (.slice ta (gB E l i).length Tj) (gB E l i))/\Hid (Below w1.heap.size w1 wr)) (fun _ kv _=>l.length - (intOf kv).toNat)
   case atStart=>exact ⟨false,0,rfl,rfl,Nat.zero_le _,Pq,RO,K1⟩
   case round =>
    clear RO K1 Pq;obtain ⟨b,k,rfl,rfl,hk,HB,RO,K1⟩:=hrel
    by_cases vH:b=true
    ·subst vH
     have ZS:=U (show E[i]'bJ.u∈l by
      have:=HB.u;rw [hx.u]
      exact List.mem_of_mem_take (of_decide_eq_true this.symm))
     go_upto_region 8 with fail
     refine b6<|j9 rfl<|k5 (bn _ _ true rfl rfl)<|j9 rfl ?_;go_frame
     refine kI (some 21) rfl rfl ?_;go_frame;refine kI (some 22) rfl rfl ?_;go_frame;refine kI (some 23) rfl rfl ?_;go_frame;refine kI (some 24) rfl rfl ?_;go_frame;refine k5 (i3 (.bool false)) ?_;go_frame;go_upto_region 11 with fail
     refine b6<|j9 rfl<|k5 (bn _ _ true rfl rfl) ?_;go_frame
     have HE:=U (I5 bJ.u ZS.u);go_wp2
     go_roundw
     case rel=>exact ⟨i+1,by go_num,bJ.u,by rw [HE.u]; exact RO,K1⟩
     case measure=>simp [intOf]; have:=bJ.u; omega
    ·have hbf:b=false:=by simpa using vH
     subst hbf;clear vH;have ZT:=U (show x∉l.take k from of_decide_eq_false HB.u.symm);have hln:=Fc.u
     by_cases bZ:k<l.length
     ·have iC:(k:Int)<(l.length:Int):=by omega
      have a_:=U bZ;obtain ⟨lb,lo,y,rfl,yQ,hy⟩:=Pp HL.u bZ;have CY:=U yQ;have YU:=U hy;obtain ⟨bq,ZU⟩:∃ b,Hid (decide (Ma.ah x=Ma.ah (l[k]'bZ))=b):=⟨_,U rfl⟩;clear yQ hy;go_upto_region 8 with fail
      refine b6<|j9 rfl<|k5 (bn _ _ false rfl rfl)<|j9 rfl<|j6 rfl ?_;go_frame
      refine j7 rfl<|k5 (g9 Tryz.underlying41)<|k5 (g8 (.bool true) .lss (h:=aH _ f7))<|k5 (i4 (.bool true)) ?_;go_frame
      go_upto_region 10 with fail;have aj:Below wr.heap.size wr wr.drew:=(Below.refl _ _).drew;replace RO:=U (RO.u.p aj);replace K1:=U (Rg.acc K1.u aj);clear aj;refine Rg.Any.begin (S:=Rg.aG 9 (fun _=>True) (fun W=>Below w1.heap.size w1 W)) mix ?_;generalize wr.drew=fN at *;have hS:∀ (l:Array Bool) W,Below w1.heap.size w1 W->Rg.aG 9 (fun _=>True) (fun W=>Below w1.heap.size w1 W) l W:=fun l W h=>⟨.inr trivial,h⟩;have hI:=K1.u
      refine d8 0 9 (.slice (some ⟨g,0,none⟩) E.length ac) 28 (hS _ _ hI)<|d8 1 9 (.int .i64 ((i:Nat):Int)) 29 (hS _ _ hI)<|d7 2 9 (.pointer (some ⟨g,0+i,none⟩)) 30 rfl rfl (Rg.ai aK _ _ rfl rfl g (0) (E.length) ac (i) rfl rfl bJ.u) (hS _ _ hI)<|d7 3 9 (u) 31 rfl rfl (i8 ⟨g,0+i,none⟩ (fun W hW=>Rg.ae _ _ Tryz.underlying27 ((Below.cell (p:=⟨g,0+i,none⟩) hW CA.u.lt).trans CA.u.cell))) (hS _ _ hI)<|d8 4 9 (.slice (some ⟨lb,lo,none⟩) l.length lc) 32 (hS _ _ hI) ?_;go_frame
      refine d8 5 9 (.int .i64 ((k:Nat):Int)) 33 (hS _ _ hI)<|d7 6 9 (.pointer (some ⟨lb,lo+k,none⟩)) 34 rfl rfl (Rg.ai aK _ _ rfl rfl lb (lo) (l.length) lc (k) rfl rfl a_.u) (hS _ _ hI)<|d7 7 9 (y) 35 rfl rfl (i8 ⟨lb,lo+k,none⟩ (fun W hW=>Rg.ae _ _ Tryz.underlying27 ((Below.cell (p:=⟨lb,lo+k,none⟩) hW CY.u.lt).trans CY.u.cell))) (hS _ _ hI) ?_;go_frame
      refine Rg.Any.one (i:=8) (by kernel_rfl) (Rg.Any.ask (some 36) rfl rfl rfl _ _ (aC 84 _ _ _ rfl rfl rfl (Wh _ _)) ?_);refine (Mc (XU.u.p hI) (YU.u.p hI) ZU (Below.refl _ _)).mono ?_;rintro e1 tR ⟨rfl,hb⟩;have bj:=Rg.acc hI hb;have dA:=hb;clear hb hI;refine ⟨_,rfl,(hS _ _ bj),?_⟩;go_frame;refine i7 9 8 rfl rfl (b5 (.bool bq) _ rfl rfl) (hS _ _ bj) ?_;go_frame;refine Rg.Any.done (by kernel_rfl) ?_ _;replace RO:=U (RO.u.p dA);replace K1:=U bj;clear hS bj dA;have vC:=U (show bq=decide (x∈l.take (k+1)) by rw [yO a_.u ZT.u,ZU.u]);go_wp2
      go_roundw
      case rel=>exact ⟨bq,k+1,rfl,by go_num,a_.u,vC,RO,K1⟩
      case measure=>simp [intOf]; have:=a_.u; omega
     ·obtain rfl:k=l.length:=by omega
      have ZV:=U (show E[i]'bJ.u∉l by
       have:=ZT.u;rw [hx.u]
       rwa [List.take_length] at this)
      have Fe:=U (Nat.lt_of_le_of_lt (I6 E l i) Tk.u);go_upto_region 8 with fail
      refine b6<|j9 rfl<|k5 (bn _ _ false rfl rfl)<|j9 rfl<|j6 rfl ?_;go_frame
      refine j7 rfl<|k5 (g9 Tryz.underlying41)<|k5 (g8 (.bool false) .lss (h:=aH _ f8))<|k5 (i4 (.bool false)) ?_;go_frame
      go_upto_region 11 with fail
      refine b6<|j9 rfl<|k5 (bn _ _ false rfl rfl) ?_;go_frame
      go_upto_region 12 with fail
      refine b6<|j7 rfl<|j7 rfl<|j6 rfl<|k5 (ag aK _ _ rfl g (0) (E.length) ac (i) rfl rfl bJ.u) ?_;go_frame
      refine k5 (g7 (u) ⟨g,0+i,none⟩ (Rg.ae _ _ Tryz.underlying27 ((Below.cell (p:=⟨g,0+i,none⟩) K1.u CA.u.lt).trans CA.u.cell)))<|k5 (Rg.aI _ _ _ rfl (u) rfl (cV wr _ (by obtain ⟨_,a,cc,_,e,_⟩:=UP.u.np.len; exact ⟨a,_,cc,e⟩))) ?_;go_frame
      obtain ⟨a9,c9,X9,r1,r2,r3⟩:=RO.u.push HFW.u (UP.u.p K1.u) (by obtain ⟨_,a,cc,_,e,_⟩:=UP.u.np.len; exact ⟨a,_,cc,e⟩) Fe.u 41
      refine k5 (Rg.bw _ _ _ rfl rfl rfl r1)<|j7 rfl ?_;go_frame
      have HE:=U (Fa bJ.u ZV.u);have sq:=U r2;have K2:=U (r3 (Nat.le_refl _) K1.u);clear r1 r2 r3;go_wp2
      go_roundw
      case rel=>exact ⟨i+1,by go_num,bJ.u,by rw [HE.u,hx.u]; exact sq,K2⟩
      case measure=>simp [intOf]; have:=bJ.u; omega
  ·obtain rfl:i=E.length:=by omega
   have xC:¬ (E.length:Int)<(E.length:Int):=by omega
   have sq:=U (show dx F w1.heap.size wr _ (jH n tr l) by have:=RO.u; rw [<- Fb,hE.u]; exact this);have KF2:=U (KB.u.trans (K1.u.mono KB.u.size));go_wp2;go_ret;exact (show K9 _ _ _ _ _ from ⟨_,_,rfl,KB.u.size,sq.u,KF2.u⟩)
end
section
open Go.RowKit
open Go.Proofs.Cm (Tr dc)
attribute [local irreducible] Go.Calls Go.wpList
theorem I9 (args:Array Value) (w:World):(callFunc 146 args).run Tryz.prog w=.ok (.enter 146 args) w:=by kernel_rfl
theorem Pr (args:Array Value) (w:World):(callFunc 164 args).run Tryz.prog w=.ok (.enter 164 args) w:=by kernel_rfl
theorem dx.mono {F F':Nat->Prop} {B:Nat} {W:World} {v:Value} {l:List (List Nat)} (h:dx F B W v l) (hF:∀ k,F k->F' k):dx F' B W v l:=by
 obtain ⟨us,h1,h2⟩:=h.own;exact ⟨h.size,us,h1,h2.mono hF⟩
theorem dV.rows {l:List (List Nat)} (h:dV F M W v l) (hl:l.length<=1000000000):Rg.Rows W v (l.map Ma.ah):=by
 obtain ⟨B,us,h0,h1,h2⟩:=h.own;have e:us.length=(l.map Ma.ah).length:=h2.1;exact Rg.Rows.dL h1 hl e fun i a b=>(h2.2 i a b).ints
def PP (n:Nat) (tr:Tr) (l:List (List Nat)) (i k m:Nat):Prop:=(∀ a b,a<i->b<i->p7 n tr l a b)/\(∀ b,b<k->p7 n tr l i b/\p7 n tr l b i)/\(0<m->p7 n tr l i k)/\(1<m->p7 n tr l k i)
theorem PP.start {tr:Tr} {l:List (List Nat)}:PP n tr l 0 0 0:=⟨fun _ _ h=>absurd h (Nat.not_lt_zero _),fun _ h=>absurd h (Nat.not_lt_zero _),fun h=>absurd h (Nat.lt_irrefl _),fun h=>absurd h (by decide)⟩
theorem PP.more {n:Nat} {tr tr':Tr} {l m':List (List Nat)} {i k m:Nat} (h:PP n tr l i k m) (hi:i<l.length) (hk:k<=i) (hm:∀ i p u,Cm.cE n tr i p=some u->Cm.cE n tr' i p=some u):PP n tr' (l++m') i k m :=
 ⟨fun a b ha hb=>(h.1 a b ha hb).more (by omega) (by omega) hm,fun b hb=>⟨(h.2.1 b hb).1.more hi (by omega) hm,(h.2.1 b hb).2.more (by omega) hi hm⟩,fun e=>(h.2.2.1 e).more hi (by omega) hm,fun e=>(h.2.2.2 e).more (by omega) hi hm⟩
theorem PP.Ps {tr:Tr} {l:List (List Nat)} {i k:Nat} (h:PP n tr l i k 0) (hp:p7 n tr l i k):PP n tr l i k 1:=⟨h.1,h.2.1,fun _=>hp,fun e=>absurd e (by decide)⟩
theorem PP.Pt {tr:Tr} {l:List (List Nat)} {i k:Nat} (h:PP n tr l i k 1) (hp:p7 n tr l k i):PP n tr l i k 2:=⟨h.1,h.2.1,fun _=>h.2.2.1 (by decide),fun _=>hp⟩
theorem PP.next {tr:Tr} {l:List (List Nat)} {i k:Nat} (h:PP n tr l i k 2):PP n tr l i (k+1) 0 :=
 ⟨h.1,fun b hb=>by
  by_cases e:b=k
  ·subst e; exact ⟨h.2.2.1 (by decide),h.2.2.2 (by decide)⟩
  ·exact h.2.1 b (by omega),fun e=>absurd e (by decide),fun e=>absurd e (by decide)⟩
theorem PP.row {tr:Tr} {l:List (List Nat)} {i:Nat} (h:PP n tr l i (i+1) 0):PP n tr l (i+1) 0 0 :=
 ⟨fun a b ha hb=>by
  by_cases e:a=i
  ·subst e; exact (h.2.1 b hb).1
  ·by_cases e2:b=i
   ·subst e2; exact (h.2.1 a ha).2
   ·exact h.1 a b (by omega) (by omega),fun _ e=>absurd e (by omega),fun e=>absurd e (by decide),fun e=>absurd e (by decide)⟩
theorem jI {l:List (List Nat)} {i:Nat} (h:i<l.length):l.getD i []=l[i]:=by rw [List.getD_eq_getElem?_getD,List.getElem?_eq_getElem h]; rfl
theorem tV (aX:n<=64) (tr:Tr):(dT n tr).length<=4096:=by
 have h1:=nJ n tr n 0;rw [qP] at h1;have h2:n*n<=64*64:=Nat.mul_le_mul aX aX;omega
theorem LE.le (aX:n<=64) {gs:List Nat->Prop} {tr:Tr} {l:List (List Nat)} (h:LE n gs tr l):l.length<=4096:=by
 have h1:=h.len;have h2:n*n<=64*64:=Nat.mul_le_mul aX aX;omega
def K_ (F0:Nat->Prop) (w:World) (tb tf n:Nat) (gs:List Nat->Prop) (Rb:Nat->Nat) (e:Ending) (w':World):Prop:=∃ F' V' tr',e=.returned (.tuple #[])/\KG F0 w F' w'/\cg F' tb tf n w' tr' Rb V'/\dc n gs tr'/\Cm.lJ n (Cm.Gr n gs) (Cm.cE n tr')
theorem Ff (aR:1<=n) (aX:n<=64) {w:World} {yh:Tr} {Rb:Nat->Nat} {V:Nat->Nat->Value} (hT:cg F0 tb tf n w yh Rb V) {gs:List Nat->Prop} (hg:∀ s,gs s->Cm.Gd n s) (Ax:dc n gs yh) (iX:∀ s,gs s->Cm.Sd n (Cm.cE n yh) n s) :
  Calls Tryz.prog 147 #[.slice (some ⟨tb,tf,none⟩) n tc] w (K_ F0 w tb tf n gs Rb):=by
 have HT:=U hT;have HG:=U hg;have jS:=U (LE.start Ax iX);have Wj:=U (show ∀ k,Av n Rb k->k<w.heap.size from fun k hk=>by obtain ⟨i,hi,rfl⟩:=hk; exact hT.lt hi);have K:=U (KG.refl hT.gI);clear hT hg Ax iX
 go_enter Tryz.func147,Tryz.ntmps147
 go_upto_region 0 with fail
 refine b6<|j7 rfl ?_;go_frame
 refine f3 9 (ax 163 _ _ rfl rfl (p8 _ _)) ?_;refine (eV aR aX HT.u (fun i p u e=>ik jS.u.ok e)).mono ?_;rintro e1 w1 ⟨av,rfl,kK,hb⟩;replace K:=U (K.u.yn (KF.aF hb));have RW:=U (kK.g (M:=Av n Rb) HT.u.gI Wj.u);clear kK;refine ⟨_,rfl,?_⟩;go_frame;replace HT:=U (HT.u.p hb);clear hb;refine j5 (av) rfl ?_;go_frame;have HP:=U (PP.start (n:=n) (tr:=yh) (l:=dT n yh));go_wp2
 go_loopw [2,3] (fun lv iv wr=>∃ (i:Nat) (l:List (List Nat)) (tr:Tr) (F1:Nat->Prop) (V:Nat->Nat->Value),iv=.int .i64 i/\i<=l.length/\Hid (dV F1 (Av n Rb) wr lv l)/\Hid (cg F1 tb tf n wr tr Rb V)/\Hid (KG F0 w F1 wr)/\Hid (LE n gs tr l)/\Hid (PP n tr l i 0 0)) (fun _ iv _=>4096 - (intOf iv).toNat)
 case atStart=>exact ⟨0,_,_,_,_,rfl,Nat.zero_le _,RW,HT,K,jS,HP⟩
 case round =>
  clear RW HT K jS HP;obtain ⟨i,l,tr,F,V,rfl,hi,RW,HT,K,jS,HP⟩:=hrel;obtain ⟨ra,rc,dz⟩:=RW.u.shape;subst dz;have q8:=jS.u.le aX
  by_cases aP:i<l.length
  ·have xC:(i:Int)<(l.length:Int):=by omega
   have hi4:i<4096:=by omega
   clear q8 hi;go_wp2
   go_loopw [2,4] (fun lv kv wr=>∃ (k:Nat) (l:List (List Nat)) (tr:Tr) (F1:Nat->Prop) (V:Nat->Nat->Value),kv=.int .i64 k/\k<=i+1/\i<l.length/\Hid (dV F1 (Av n Rb) wr lv l)/\Hid (cg F1 tb tf n wr tr Rb V)/\Hid (KG F0 w F1 wr)/\Hid (LE n gs tr l)/\Hid (PP n tr l i k 0)) (fun _ kv _=>i+1 - (intOf kv).toNat)
   case atStart=>exact ⟨0,_,_,_,_,rfl,Nat.zero_le _,aP,RW,HT,K,jS,HP⟩
   case round =>
    clear RW HT K jS HP aP xC;obtain ⟨k,l,tr,F,V,rfl,hk,aP,RW,HT,K,jS,HP⟩:=hrel;obtain ⟨ra,rc,dz⟩:=RW.u.shape;subst dz
    by_cases nr:k<=i
    ·have iC:(k:Int)<=(i:Int):=by omega
     go_wp2
     go_loopw [2,5] (fun lv mv wr=>∃ (m:Nat) (l:List (List Nat)) (tr:Tr) (F1:Nat->Prop) (V:Nat->Nat->Value),mv=.int .i64 m/\m<=2/\i<l.length/\Hid (dV F1 (Av n Rb) wr lv l)/\Hid (cg F1 tb tf n wr tr Rb V)/\Hid (KG F0 w F1 wr)/\Hid (LE n gs tr l)/\Hid (PP n tr l i k m)) (fun _ mv _=>2 - (intOf mv).toNat)
     case atStart=>exact ⟨0,_,_,_,_,rfl,by decide,aP,RW,HT,K,jS,HP⟩
     case round =>
      clear RW HT K jS HP aP;obtain ⟨m,l,tr,F,V,rfl,hm,aP,RW,HT,K,jS,HP⟩:=hrel;have q8:=jS.u.le aX;have bJ:=U aP;have sr:=U (show k<l.length by omega)
      by_cases tu:m<2
      ·have yy:(m:Int)<2:=by omega
       obtain ⟨g,c,ua,e1,e2,e3⟩:=RW.u.at bJ.u;subst e1;obtain ⟨g',c',ub,I_,Fg,Tl⟩:=RW.u.at sr.u;simp only [Value.slice.injEq,Option.some.injEq,Addr.mk.injEq,and_true,true_and] at I_;obtain ⟨e1a,e1b⟩:=I_;subst e1a e1b;have CA:=U e2;have UA:=U e3;have CB:=U Fg;have UB:=U Tl;have GA:=U (jS.u.gr (List.getElem_mem bJ.u));have GB:=U (jS.u.gr (List.getElem_mem sr.u));have ss:=U q8;clear e2 e3 Fg Tl q8 aP
       by_cases ZW:m=0
       ·subst ZW
        go_upto_region 10 with fail;have aj:Below wr.heap.size wr wr.drew:=(Below.refl _ _).drew;replace RW:=U (RW.u.up aj);replace HT:=U (HT.u.up aj);replace CA:=U (CA.u.up aj);replace CB:=U (CB.u.up aj);replace UA:=U (UA.u.up aj);replace UB:=U (UB.u.up aj);replace K:=U (K.u.up aj);generalize cB F wr wr.drew=F1 at *;clear aj;refine Rg.Any.begin (S:=Rg.aG 9 (fun _=>True) (fun W=>Below wr.drew.heap.size wr.drew W)) mix ?_;generalize wr.drew=w1 at *;have hS:∀ (l:Array Bool) W,Below w1.heap.size w1 W->Rg.aG 9 (fun _=>True) (fun W=>Below w1.heap.size w1 W) l W:=fun l W h=>⟨.inr trivial,h⟩;have hI:Below w1.heap.size w1 w1:=Below.refl _ _
        refine d8 0 9 (.slice (some ⟨g,0,none⟩) l.length c) 25 (hS _ _ hI)<|d8 1 9 (.int .i64 ((i:Nat):Int)) 26 (hS _ _ hI)<|d7 2 9 (.pointer (some ⟨g,0+i,none⟩)) 27 rfl rfl (Rg.ai aK _ _ rfl rfl g (0) (l.length) c (i) rfl rfl bJ.u) (hS _ _ hI)<|d7 3 9 (ua) 28 rfl rfl (i8 ⟨g,0+i,none⟩ (fun W hW=>Rg.ae _ _ Tryz.underlying27 ((Below.cell (p:=⟨g,0+i,none⟩) hW CA.u.lt).trans CA.u.cell))) (hS _ _ hI)<|d8 4 9 (.slice (some ⟨g,0,none⟩) l.length c) 29 (hS _ _ hI) ?_;go_frame
        refine d8 5 9 (.int .i64 ((k:Nat):Int)) 30 (hS _ _ hI)<|d7 6 9 (.pointer (some ⟨g,0+k,none⟩)) 31 rfl rfl (Rg.ai aK _ _ rfl rfl g (0) (l.length) c (k) rfl rfl sr.u) (hS _ _ hI)<|d7 7 9 (ub) 32 rfl rfl (i8 ⟨g,0+k,none⟩ (fun W hW=>Rg.ae _ _ Tryz.underlying27 ((Below.cell (p:=⟨g,0+k,none⟩) hW CB.u.lt).trans CB.u.cell))) (hS _ _ hI) ?_;go_frame
        refine Rg.Any.one (i:=8) (by kernel_rfl) (Rg.Any.ask (some 33) rfl rfl rfl _ _ (aC 34 _ _ _ rfl rfl rfl (sm _ _)) ?_);refine (qO UA.u UB.u GA.u.2 GB.u.2 aX).mono ?_;rintro e1 w2 ⟨mv,rfl,gJ,hb⟩;have jA:=Rg.acc hI hb;clear hI;replace RW:=U (RW.u.up hb);replace HT:=U (HT.u.up hb);replace CA:=U (CA.u.up hb);replace CB:=U (CB.u.up hb);replace UA:=U (UA.u.up hb);replace UB:=U (UB.u.up hb);replace K:=U (K.u.up hb);have XV:=U gJ;generalize cB F1 w1 w2=F2 at *;clear hb;refine ⟨_,rfl,(hS _ _ jA),?_⟩;go_frame;refine i7 9 6 rfl rfl (b5 (mv) _ rfl rfl) (hS _ _ jA) ?_;go_frame;refine Rg.Any.done (by kernel_rfl) ?_ _;clear hS jA;clear gJ;go_upto_region 11 with fail
        refine b6<|j6 rfl<|k5 (g8 (.bool false) .eql (h:=fa _ f8)) ?_;go_frame
        obtain ⟨x,hx⟩:∃ x,Hid (Ma.ak (l[i]'bJ.u) (l[k]'sr.u)=x):=⟨_,U rfl⟩;rw [hx.u] at XV
        have Fh:Cm.Gr n gs x:=by rw [<- hx.u]; exact .mul _ _ GA.u.1 GB.u.1
        have GX:=U (show Cm.Gd n x by rw [<- hx.u]; exact Cm.bf GA.u.2 GB.u.2);have lh:=tU HG.u jS.u.ok Fh;go_upto_region 13 with fail
        refine b6<|j7 rfl ?_;go_frame
        refine f3 46 (ax 163 _ _ rfl rfl (p8 _ _)) ?_;refine (eV aR aX HT.u (fun i p u e=>ik jS.u.ok e)).mono ?_;rintro e1 w3 ⟨av,rfl,kK,hb⟩;obtain ⟨aa,ac,rfl⟩:=kK.shape;clear kK;refine ⟨_,rfl,?_⟩;go_frame;replace RW:=U (RW.u.up hb);replace HT:=U (HT.u.up hb);replace CA:=U (CA.u.up hb);replace CB:=U (CB.u.up hb);replace UA:=U (UA.u.up hb);replace UB:=U (UB.u.up hb);replace XV:=U (XV.u.up hb);replace K:=U (K.u.up hb);generalize cB F2 w2 w3=F3 at *;clear hb
        refine k5 (g9 Tryz.underlying41)<|j6 rfl ?_;go_frame
        go_upto_region 14 with fail
        refine b6<|j7 rfl<|j5 (mv) rfl ?_;go_frame
        refine f3 50 (aC 146 _ _ _ rfl rfl rfl (I9 _ _)) ?_;refine (pZ aR aX HT.u jS.u.ok.rp XV.u GX.u).mono ?_;rintro e1 w4 ⟨F9,V9,rfl,nr,mi⟩;have ee:=nr.kg;have Fi:=RW.u.ki nr;refine ⟨_,rfl,?_⟩;go_frame;clear HT;clear CA;clear CB;clear UA;clear UB;replace RW:=U Fi;replace XV:=U (XV.u.kg ee);replace K:=U (K.u.trans ee);have HT:=U mi;clear ee Fi;clear nr mi;generalize lf n tr (Cm.dg n (Cm.cE n tr) n x)=p9 at *;have yR:=U lh.1;have Pu:=U lh.2.1;have Pv:=U lh.2.2.1;have Wk:=U lh.2.2.2;clear lh Fh;have HE1:=U (tV aX tr);have Aw:=U (tV aX p9)
        by_cases Mh:(dT n tr).length<(dT n p9).length
        ·have Pw:((dT n tr).length:Int)<((dT n p9).length:Int):=by omega
         go_upto_region 15 with fail
         refine b6<|j7 rfl ?_;go_frame
         refine f3 52 (ax 163 _ _ rfl rfl (p8 _ _)) ?_;refine (eV aR aX HT.u (fun i p u e=>ik yR.u e)).mono ?_;rintro e1 w5 ⟨av,rfl,kK,hb⟩;obtain ⟨Wl,Wm,rfl⟩:=kK.shape;clear kK;refine ⟨_,rfl,?_⟩;go_frame;replace RW:=U (RW.u.up hb);replace XV:=U (XV.u.up hb);replace HT:=U (HT.u.up hb);replace K:=U (K.u.up hb);generalize cB F9 w4 w5=F4 at *;clear hb
         refine k5 (g9 Tryz.underlying41)<|j6 rfl<|k5 (g8 (.bool true) .gtr (h:=bl _ f7)) ?_;go_frame
         go_upto_region 16 with fail
         refine b6<|j7 rfl<|j7 rfl<|j7 rfl ?_;go_frame
         refine f3 59 (aC 164 _ _ _ rfl rfl rfl (Pr _ _)) ?_;refine (yP aR aX HT.u (fun i p u e=>ik yR.u e) (RW.u.rows (by have:=ss.u; omega))).mono ?_;rintro e1 w6 ⟨fv,B9,rfl,Fj,eW,hb⟩;refine ⟨_,rfl,?_⟩;go_frame;replace RW:=U (RW.u.up hb);replace XV:=U (XV.u.up hb);replace HT:=U (HT.u.up hb);replace K:=U (K.u.up hb);have RF:=U (eW.mono (fun _ h=>Or.inl h):dx (cB F4 w5 w6) _ _ _ _);generalize cB F4 w5 w6=F5 at *;clear hb;clear eW;have tW:(jH n p9 l).length<=4096:=Nat.le_trans (List.length_filter_le _ _) Aw.u;obtain ⟨a9,c9,X9,r1,r2,r3⟩:=RW.u.app RF.u HT.u.gI (fun k hk=>by obtain ⟨i,hi,rfl⟩:=hk; exact HT.u.lt hi) (by have:=ss.u; omega) 41
         refine k5 (Rg.bw _ _ _ rfl rfl rfl r1)<|j7 rfl ?_;go_frame
         have Ja:=U (HT.u.kp r3 (fun k hF e=>(RW.u.off k e).1 hF) (fun i hi e=>(RW.u.off _ e).2 ⟨i,hi,rfl⟩));have K2:=U (K.u.yn (Rg.Kp.gO r3 (fun k e hF=>(RW.u.off k e).1 hF)));have Jb:=U r2;have Wn:=U (jS.u.more yR.u Pu.u)
         have Jc:=U ((HP.u.more (m':=jH n p9 l) bJ.u nr Pu.u).Ps (by
          unfold p7;rw [lC bJ.u,lC sr.u,jI bJ.u,jI sr.u,hx.u]
          exact Pv.u))
         have Px:=U (show i<(l++jH n p9 l).length by rw [List.length_append]; have:=bJ.u; omega);clear r1 r2 r3;go_wp2
         go_roundw
         case rel=>exact ⟨1,_,_,_,_,by go_num,by decide,Px.u,Jb,Ja,K2,Wn,Jc⟩
         case measure=>simp [intOf]
        ·have Pw:¬ ((dT n tr).length:Int)<((dT n p9).length:Int):=by omega
         have Py:=Wk.u (by omega);go_upto_region 15 with fail
         refine b6<|j7 rfl ?_;go_frame
         refine f3 52 (ax 163 _ _ rfl rfl (p8 _ _)) ?_;refine (eV aR aX HT.u (fun i p u e=>ik yR.u e)).mono ?_;rintro e1 w5 ⟨av,rfl,kK,hb⟩;obtain ⟨Wl,Wm,rfl⟩:=kK.shape;clear kK;refine ⟨_,rfl,?_⟩;go_frame;replace RW:=U (RW.u.up hb);replace XV:=U (XV.u.up hb);replace HT:=U (HT.u.up hb);replace K:=U (K.u.up hb);generalize cB F9 w4 w5=F4 at *;clear hb
         refine k5 (g9 Tryz.underlying41)<|j6 rfl<|k5 (g8 (.bool false) .gtr (h:=bl _ f8)) ?_;go_frame
         have Ja:=U (show cg F4 tb tf n w5 tr Rb _ by have:=HT.u; rw [Py] at this; exact this)
         have Jc:=U (HP.u.Ps (by
          unfold p7;rw [jI bJ.u,jI sr.u,hx.u,<- Py]
          exact Pv.u))
         go_wp2
         go_roundw
         case rel=>exact ⟨1,_,_,_,_,by go_num,by decide,bJ.u,RW,Ja,K,jS,Jc⟩
         case measure=>simp [intOf]
       ·obtain rfl:m=1:=by omega
        clear ZW;go_upto_region 10 with fail;have aj:Below wr.heap.size wr wr.drew:=(Below.refl _ _).drew;replace RW:=U (RW.u.up aj);replace HT:=U (HT.u.up aj);replace CA:=U (CA.u.up aj);replace CB:=U (CB.u.up aj);replace UA:=U (UA.u.up aj);replace UB:=U (UB.u.up aj);replace K:=U (K.u.up aj);generalize cB F wr wr.drew=F1 at *;clear aj;refine Rg.Any.begin (S:=Rg.aG 9 (fun _=>True) (fun W=>Below wr.drew.heap.size wr.drew W)) mix ?_;generalize wr.drew=w1 at *;have hS:∀ (l:Array Bool) W,Below w1.heap.size w1 W->Rg.aG 9 (fun _=>True) (fun W=>Below w1.heap.size w1 W) l W:=fun l W h=>⟨.inr trivial,h⟩;have hI:Below w1.heap.size w1 w1:=Below.refl _ _
        refine d8 0 9 (.slice (some ⟨g,0,none⟩) l.length c) 25 (hS _ _ hI)<|d8 1 9 (.int .i64 ((i:Nat):Int)) 26 (hS _ _ hI)<|d7 2 9 (.pointer (some ⟨g,0+i,none⟩)) 27 rfl rfl (Rg.ai aK _ _ rfl rfl g (0) (l.length) c (i) rfl rfl bJ.u) (hS _ _ hI)<|d7 3 9 (ua) 28 rfl rfl (i8 ⟨g,0+i,none⟩ (fun W hW=>Rg.ae _ _ Tryz.underlying27 ((Below.cell (p:=⟨g,0+i,none⟩) hW CA.u.lt).trans CA.u.cell))) (hS _ _ hI)<|d8 4 9 (.slice (some ⟨g,0,none⟩) l.length c) 29 (hS _ _ hI) ?_;go_frame
        refine d8 5 9 (.int .i64 ((k:Nat):Int)) 30 (hS _ _ hI)<|d7 6 9 (.pointer (some ⟨g,0+k,none⟩)) 31 rfl rfl (Rg.ai aK _ _ rfl rfl g (0) (l.length) c (k) rfl rfl sr.u) (hS _ _ hI)<|d7 7 9 (ub) 32 rfl rfl (i8 ⟨g,0+k,none⟩ (fun W hW=>Rg.ae _ _ Tryz.underlying27 ((Below.cell (p:=⟨g,0+k,none⟩) hW CB.u.lt).trans CB.u.cell))) (hS _ _ hI) ?_;go_frame
        refine Rg.Any.one (i:=8) (by kernel_rfl) (Rg.Any.ask (some 33) rfl rfl rfl _ _ (aC 34 _ _ _ rfl rfl rfl (sm _ _)) ?_);refine (qO UA.u UB.u GA.u.2 GB.u.2 aX).mono ?_;rintro e1 w2 ⟨mv,rfl,gJ,hb⟩;have r9:=Rg.acc hI hb;clear hI;replace RW:=U (RW.u.up hb);replace HT:=U (HT.u.up hb);replace CA:=U (CA.u.up hb);replace CB:=U (CB.u.up hb);replace UA:=U (UA.u.up hb);replace UB:=U (UB.u.up hb);replace K:=U (K.u.up hb);have XV:=U gJ;generalize cB F1 w1 w2=F2 at *;clear hb;refine ⟨_,rfl,(hS _ _ r9),?_⟩;go_frame;refine i7 9 6 rfl rfl (b5 (mv) _ rfl rfl) (hS _ _ r9) ?_;go_frame;refine Rg.Any.done (by kernel_rfl) ?_ _;clear hS r9;clear gJ;go_upto_region 11 with fail
        refine b6<|j6 rfl<|k5 (g8 (.bool true) .eql (h:=fa _ f7)) ?_;go_frame
        clear XV;go_upto_region 12 with fail;have aj:Below w2.heap.size w2 w2.drew:=(Below.refl _ _).drew;replace RW:=U (RW.u.up aj);replace HT:=U (HT.u.up aj);replace CA:=U (CA.u.up aj);replace CB:=U (CB.u.up aj);replace UA:=U (UA.u.up aj);replace UB:=U (UB.u.up aj);replace K:=U (K.u.up aj);generalize cB F2 w2 w2.drew=F3 at *;clear aj;refine Rg.Any.begin (S:=Rg.aG 9 (fun _=>True) (fun W=>Below w2.drew.heap.size w2.drew W)) mix ?_;generalize w2.drew=w3 at *;have hS:∀ (l:Array Bool) W,Below w3.heap.size w3 W->Rg.aG 9 (fun _=>True) (fun W=>Below w3.heap.size w3 W) l W:=fun l W h=>⟨.inr trivial,h⟩;have hI:Below w3.heap.size w3 w3:=Below.refl _ _
        refine d8 0 9 (.slice (some ⟨g,0,none⟩) l.length c) 36 (hS _ _ hI)<|d8 1 9 (.int .i64 ((k:Nat):Int)) 37 (hS _ _ hI)<|d7 2 9 (.pointer (some ⟨g,0+k,none⟩)) 38 rfl rfl (Rg.ai aK _ _ rfl rfl g (0) (l.length) c (k) rfl rfl sr.u) (hS _ _ hI)<|d7 3 9 (ub) 39 rfl rfl (i8 ⟨g,0+k,none⟩ (fun W hW=>Rg.ae _ _ Tryz.underlying27 ((Below.cell (p:=⟨g,0+k,none⟩) hW CB.u.lt).trans CB.u.cell))) (hS _ _ hI)<|d8 4 9 (.slice (some ⟨g,0,none⟩) l.length c) 40 (hS _ _ hI) ?_;go_frame
        refine d8 5 9 (.int .i64 ((i:Nat):Int)) 41 (hS _ _ hI)<|d7 6 9 (.pointer (some ⟨g,0+i,none⟩)) 42 rfl rfl (Rg.ai aK _ _ rfl rfl g (0) (l.length) c (i) rfl rfl bJ.u) (hS _ _ hI)<|d7 7 9 (ua) 43 rfl rfl (i8 ⟨g,0+i,none⟩ (fun W hW=>Rg.ae _ _ Tryz.underlying27 ((Below.cell (p:=⟨g,0+i,none⟩) hW CA.u.lt).trans CA.u.cell))) (hS _ _ hI) ?_;go_frame
        refine Rg.Any.one (i:=8) (by kernel_rfl) (Rg.Any.ask (some 44) rfl rfl rfl _ _ (aC 34 _ _ _ rfl rfl rfl (sm _ _)) ?_);refine (qO UB.u UA.u GB.u.2 GA.u.2 aX).mono ?_;rintro e1 w4 ⟨ZX,rfl,gJ,hb⟩;have Jd:=Rg.acc hI hb;clear hI;replace RW:=U (RW.u.up hb);replace HT:=U (HT.u.up hb);replace CA:=U (CA.u.up hb);replace CB:=U (CB.u.up hb);replace UA:=U (UA.u.up hb);replace UB:=U (UB.u.up hb);replace K:=U (K.u.up hb);have XV:=U gJ;generalize cB F3 w3 w4=F4 at *;clear hb;refine ⟨_,rfl,(hS _ _ Jd),?_⟩;go_frame;refine i7 9 6 rfl rfl (b5 (ZX) _ rfl rfl) (hS _ _ Jd) ?_;go_frame;refine Rg.Any.done (by kernel_rfl) ?_ _;clear hS Jd;clear gJ;obtain ⟨x,hx⟩:∃ x,Hid (Ma.ak (l[k]'sr.u) (l[i]'bJ.u)=x):=⟨_,U rfl⟩;rw [hx.u] at XV
        have Fh:Cm.Gr n gs x:=by rw [<- hx.u]; exact .mul _ _ GB.u.1 GA.u.1
        have GX:=U (show Cm.Gd n x by rw [<- hx.u]; exact Cm.bf GB.u.2 GA.u.2);have lh:=tU HG.u jS.u.ok Fh;go_upto_region 13 with fail
        refine b6<|j7 rfl ?_;go_frame
        refine f3 46 (ax 163 _ _ rfl rfl (p8 _ _)) ?_;refine (eV aR aX HT.u (fun i p u e=>ik jS.u.ok e)).mono ?_;rintro e1 w5 ⟨av,rfl,kK,hb⟩;obtain ⟨aa,ac,rfl⟩:=kK.shape;clear kK;refine ⟨_,rfl,?_⟩;go_frame;replace RW:=U (RW.u.up hb);replace HT:=U (HT.u.up hb);replace CA:=U (CA.u.up hb);replace CB:=U (CB.u.up hb);replace UA:=U (UA.u.up hb);replace UB:=U (UB.u.up hb);replace XV:=U (XV.u.up hb);replace K:=U (K.u.up hb);generalize cB F4 w4 w5=F5 at *;clear hb
        refine k5 (g9 Tryz.underlying41)<|j6 rfl ?_;go_frame
        go_upto_region 14 with fail
        refine b6<|j7 rfl<|j5 (ZX) rfl ?_;go_frame
        refine f3 50 (aC 146 _ _ _ rfl rfl rfl (I9 _ _)) ?_;refine (pZ aR aX HT.u jS.u.ok.rp XV.u GX.u).mono ?_;rintro e1 w6 ⟨F9,V9,rfl,nr,mi⟩;have ee:=nr.kg;have Fi:=RW.u.ki nr;refine ⟨_,rfl,?_⟩;go_frame;clear HT;clear CA;clear CB;clear UA;clear UB;replace RW:=U Fi;replace XV:=U (XV.u.kg ee);replace K:=U (K.u.trans ee);have HT:=U mi;clear ee Fi;clear nr mi;generalize lf n tr (Cm.dg n (Cm.cE n tr) n x)=p9 at *;have yR:=U lh.1;have Pu:=U lh.2.1;have Pv:=U lh.2.2.1;have Wk:=U lh.2.2.2;clear lh Fh;have HE1:=U (tV aX tr);have Aw:=U (tV aX p9)
        by_cases Mh:(dT n tr).length<(dT n p9).length
        ·have Pw:((dT n tr).length:Int)<((dT n p9).length:Int):=by omega
         go_upto_region 15 with fail
         refine b6<|j7 rfl ?_;go_frame
         refine f3 52 (ax 163 _ _ rfl rfl (p8 _ _)) ?_;refine (eV aR aX HT.u (fun i p u e=>ik yR.u e)).mono ?_;rintro e1 w7 ⟨av,rfl,kK,hb⟩;obtain ⟨Wl,Wm,rfl⟩:=kK.shape;clear kK;refine ⟨_,rfl,?_⟩;go_frame;replace RW:=U (RW.u.up hb);replace XV:=U (XV.u.up hb);replace HT:=U (HT.u.up hb);replace K:=U (K.u.up hb);generalize cB F9 w6 w7=F6 at *;clear hb
         refine k5 (g9 Tryz.underlying41)<|j6 rfl<|k5 (g8 (.bool true) .gtr (h:=bl _ f7)) ?_;go_frame
         go_upto_region 16 with fail
         refine b6<|j7 rfl<|j7 rfl<|j7 rfl ?_;go_frame
         refine f3 59 (aC 164 _ _ _ rfl rfl rfl (Pr _ _)) ?_;refine (yP aR aX HT.u (fun i p u e=>ik yR.u e) (RW.u.rows (by have:=ss.u; omega))).mono ?_;rintro e1 w8 ⟨fv,B9,rfl,Fj,eW,hb⟩;refine ⟨_,rfl,?_⟩;go_frame;replace RW:=U (RW.u.up hb);replace XV:=U (XV.u.up hb);replace HT:=U (HT.u.up hb);replace K:=U (K.u.up hb);have RF:=U (eW.mono (fun _ h=>Or.inl h):dx (cB F6 w7 w8) _ _ _ _);generalize cB F6 w7 w8=F7 at *;clear hb;clear eW;have tW:(jH n p9 l).length<=4096:=Nat.le_trans (List.length_filter_le _ _) Aw.u;obtain ⟨a9,c9,X9,r1,r2,r3⟩:=RW.u.app RF.u HT.u.gI (fun k hk=>by obtain ⟨i,hi,rfl⟩:=hk; exact HT.u.lt hi) (by have:=ss.u; omega) 41
         refine k5 (Rg.bw _ _ _ rfl rfl rfl r1)<|j7 rfl ?_;go_frame
         have Ja:=U (HT.u.kp r3 (fun k hF e=>(RW.u.off k e).1 hF) (fun i hi e=>(RW.u.off _ e).2 ⟨i,hi,rfl⟩));have K2:=U (K.u.yn (Rg.Kp.gO r3 (fun k e hF=>(RW.u.off k e).1 hF)));have Jb:=U r2;have Wn:=U (jS.u.more yR.u Pu.u)
         have Jc:=U ((HP.u.more (m':=jH n p9 l) bJ.u nr Pu.u).Pt (by
          unfold p7;rw [lC sr.u,lC bJ.u,jI sr.u,jI bJ.u,hx.u]
          exact Pv.u))
         have Px:=U (show i<(l++jH n p9 l).length by rw [List.length_append]; have:=bJ.u; omega);clear r1 r2 r3;go_wp2
         go_roundw
         case rel=>exact ⟨2,_,_,_,_,by go_num,by decide,Px.u,Jb,Ja,K2,Wn,Jc⟩
         case measure=>simp [intOf]
        ·have Pw:¬ ((dT n tr).length:Int)<((dT n p9).length:Int):=by omega
         have Py:=Wk.u (by omega);go_upto_region 15 with fail
         refine b6<|j7 rfl ?_;go_frame
         refine f3 52 (ax 163 _ _ rfl rfl (p8 _ _)) ?_;refine (eV aR aX HT.u (fun i p u e=>ik yR.u e)).mono ?_;rintro e1 w7 ⟨av,rfl,kK,hb⟩;obtain ⟨Wl,Wm,rfl⟩:=kK.shape;clear kK;refine ⟨_,rfl,?_⟩;go_frame;replace RW:=U (RW.u.up hb);replace XV:=U (XV.u.up hb);replace HT:=U (HT.u.up hb);replace K:=U (K.u.up hb);generalize cB F9 w6 w7=F6 at *;clear hb
         refine k5 (g9 Tryz.underlying41)<|j6 rfl<|k5 (g8 (.bool false) .gtr (h:=bl _ f8)) ?_;go_frame
         have Ja:=U (show cg F6 tb tf n w7 tr Rb _ by have:=HT.u; rw [Py] at this; exact this)
         have Jc:=U (HP.u.Pt (by
          unfold p7;rw [jI sr.u,jI bJ.u,hx.u,<- Py]
          exact Pv.u))
         go_wp2
         go_roundw
         case rel=>exact ⟨2,_,_,_,_,by go_num,by decide,bJ.u,RW,Ja,K,jS,Jc⟩
         case measure=>simp [intOf]
      ·obtain rfl:m=2:=by omega
       have yy:¬ ((2:Nat):Int)<2:=by omega
       have IU:=U HP.u.next;clear q8 hm tu;go_wp2
       go_roundw
       case rel=>exact ⟨k+1,_,_,_,_,by go_num,by omega,bJ.u,RW,HT,K,jS,IU⟩
       case measure=>simp [intOf]; omega
    ·obtain rfl:k=i+1:=by omega
     have iC:¬ ((i+1:Nat):Int)<=(i:Int):=by omega
     have IU:=U HP.u.row;go_wp2
     go_roundw
     case rel=>exact ⟨i+1,_,_,_,_,by go_num,aP,RW,HT,K,jS,IU⟩
     case measure=>simp [intOf]; omega
  ·obtain rfl:i=l.length:=by omega
   have xC:¬ (l.length:Int)<(l.length:Int):=by omega
   have px:=U (jS.u.done HG.u HP.u.1);go_wp2;exact bodyPost_ret (results_none rfl _ _ _) rfl (show K_ _ _ _ _ _ _ _ _ _ from ⟨_,_,_,rfl,K.u,HT.u,jS.u.ok,px.u⟩)

theorem gK.shape {l:List Int} (h:gK B W v l):∃ a c,v=.slice a l.length c:=Rg.cZ h.own
theorem gK.nil (B:Nat) (W:World):gK B W (.slice none 0 0) []:=⟨World.ownsRow_nil _ _ _ _⟩
theorem gK.push {l:List Int} (h:gK B W v l) (hB:B<=W.heap.size) (x:Int) (hn:l.length<1000000) (ty:TypeId) :
  ∃ a c X,(Builtin.append_ #[26,26] ty #[v,.slice (some ⟨W.heap.size,0,none⟩) 1 1]).run Tryz.prog (W.alloc (.cells #[.int .i64 x] 3))=.ok (.slice a (l.length+1) c) X/\gK B X (.slice a (l.length+1) c) (l++[x])/\(∀ {B':Nat} {W0:World},B'<=B->Below B' W0 W->Below B' W0 X):=by
 have hb:Below W.heap.size W (W.alloc (.cells #[.int .i64 x] 3)):=(Below.refl _ _).alloc (Nat.le_refl _) _;obtain ⟨v',X,r1,r2,r3,r4,a,c,rfl⟩:=fA (P:=Tryz.prog) aO ty (Rg.bV h.own hb) (Nat.le_trans hB hb.size) W.heap.size 1 (u:=.int .i64 x) (by rw [Rg.aT]; rfl) rfl hn;refine ⟨a,c,X,r1,⟨by rw [List.length_append,List.map_append]; exact r2⟩,fun {B' W0} IJ lI=>?_⟩;exact (lI.alloc (Nat.le_trans IJ hB) _).grown r3 (Nat.le_trans (Nat.le_trans IJ hB) hb.size) (fun j hj=>Nat.le_trans IJ ((Rg.bV h.own hb).lt j hj).1)
def dW (tr:Tr) (i p:Nat):List Nat:=(List.range p).filter fun q=>decide (i<=q) && (q == i || (tr i q).isSome)
def oZ (n:Nat) (tr:Tr) (i:Nat):List Nat:=dW tr i n
theorem wV (tr:Tr) (i:Nat):dW tr i i=[]:=by
 unfold dW;rw [List.filter_eq_nil_iff];intro q hq;have:=List.mem_range.1 hq;simp; omega
theorem Bu {tr:Tr} {i p:Nat} (hi:i<=p) (h:p=i∨(tr i p).isSome=true):dW tr i (p+1)=dW tr i p++[p]:=by
 unfold dW;rw [List.range_succ,List.filter_append]
 have:(decide (i<=p) && (p == i || (tr i p).isSome))=true:=by
  rcases h with h | h
  ·simp [h]
  ·simp [hi,h]
 simp [this]
theorem Pz {tr:Tr} {i p:Nat} (h:p≠i) (h2:tr i p=none):dW tr i (p+1)=dW tr i p:=by
 unfold dW;rw [List.range_succ,List.filter_append];simp [h,h2]
theorem qQ (tr:Tr) (i p:Nat):(dW tr i p).length<=p:=by
 unfold dW
 have:=List.length_filter_le (fun q=>decide (i<=q) && (q == i || (tr i q).isSome)) (List.range p)
 simpa using this
theorem MM {tr:Tr} {i p q:Nat}:q∈dW tr i p↔q<p/\i<=q/\(q=i∨(tr i q).isSome=true):=by
 unfold dW;rw [List.mem_filter,List.mem_range];simp
theorem MN (tr:Tr) (i p:Nat):(dW tr i p).Pairwise (· < ·):=List.Pairwise.filter _ List.pairwise_lt_range
theorem Bv (l:List Nat) (x:Nat):Ma.ah (l++[x])=Ma.ah l++[(x:Int)]:=by simp [Ma.ah]
def Fl (w:World) (l:List Nat) (e:Ending) (w':World):Prop:=∃ v,e=.returned v/\gK w.heap.size w' v (Ma.ah l)/\Below w.heap.size w w'
theorem sw (aR:1<=n) (aX:n<=64) {w:World} {tr:Tr} {Rb:Nat->Nat} {V:Nat->Nat->Value} (hT:cg F tb tf n w tr Rb V) (eA:∀ i p u,tr i p=some u->Cm.Gd n u) {i:Nat} (hi:i<n) :
  Calls Tryz.prog 165 #[.slice (some ⟨tb,tf,none⟩) n tc,.int .i64 ((i:Nat):Int)] w (Fl w (oZ n tr i)):=by
 have HT:=U hT;have HG:=U eA;have bJ:=U hi;have CO:=U (hT.u i hi);have K:=U (Below.refl w.heap.size w);have RO:=U (show gK w.heap.size w (.slice none 0 0) (Ma.ah (dW tr i i)) by rw [wV]; exact gK.nil _ _)
 have PA:(dW tr i i).length=0:=by rw [wV]; rfl
 clear hT eA
 go_enter Tryz.func165,Tryz.ntmps165
 go_wp2
 go_loopw [5,6] (fun tv qv wr=>∃ (q:Nat) (a:Option Addr) (c:Nat),qv=.int .i64 q/\tv=.slice a (dW tr i q).length c/\i<=q/\q<=n/\Hid (gK w.heap.size wr tv (Ma.ah (dW tr i q)))/\Hid (Below w.heap.size w wr)) (fun _ qv _=>n - (intOf qv).toNat)
 case atStart=>exact ⟨i,_,_,rfl,by rw [PA],Nat.le_refl _,Nat.le_of_lt bJ.u,RO,K⟩
 case round =>
  clear RO K PA;obtain ⟨q,ta,Tj,rfl,rfl,ZY,hq,RO,K⟩:=hrel
  by_cases fZ:q<n
  ·have Pj:(q:Int)<(n:Int):=by omega
   have kM:=U fZ;have CE:=U (CL.mk (show w.cell? ⟨Rb i,0+q,none⟩=some (V i q) by rw [Nat.zero_add]; exact HT.u.cell hi fZ) (HT.u.lt hi));have Fe:=U (show (Ma.ah (dW tr i q)).length<1000000 by rw [Ma.aB]; have:=qQ tr i q; omega);have ZZ:=U (Ma.aB (dW tr i q))
   by_cases tO:q=i
   ·have Z0:(q:Int)=(i:Int):=by omega
    have HE:=U (Bu (tr:=tr) ZY (.inl tO));go_upto_region 5 with fail
    refine b6<|j6 rfl<|j6 rfl<|k5 (g8 (.bool true) .eql (h:=fa _ f7))<|j9 rfl ?_;go_frame
    refine f9 18<|f9 19<|f9 20<|f9 21<|f9 22 ?_;go_frame
    refine f9 23<|f9 24<|f9 25<|k5 (i4 (.bool true)) ?_;go_frame
    go_upto_region 6 with fail
    refine b6<|j7 rfl<|j6 rfl<|k5 (Rg.aI _ _ _ rfl (.int .i64 ((q:Nat):Int)) rfl (lp wr _)) ?_;go_frame
    obtain ⟨a9,c9,X9,r1,r2,r3⟩:=RO.u.push K.u.size ((q:Nat):Int) Fe.u 26;rw [ZZ.u] at r1 r2
    refine k5 (Rg.bw _ _ _ rfl rfl rfl r1)<|j7 rfl ?_;go_frame
    have K2:=U (r3 (Nat.le_refl _) K.u);have sq:=U (show gK w.heap.size X9 (.slice a9 ((dW tr i q).length+1) c9) (Ma.ah (dW tr i (q+1))) by rw [HE.u,Bv]; exact r2);have Dg:=U (show (dW tr i (q+1)).length=(dW tr i q).length+1 by rw [HE.u,List.length_append]; rfl);clear r1 r2 r3;go_wp2
    go_roundw
    case rel=>exact ⟨q+1,_,_,by go_num,by rw [Dg.u],by omega,kM.u,sq,K2⟩
    case measure=>simp [intOf]; have:=kM.u; omega
   ·have Z0:¬ (q:Int)=(i:Int):=by omega
    cases dE:tr i q with
    | none =>
     have rH:=HT.u.none_ i q hi fZ dE;rw [rH] at CE;have HE:=U (Pz tO dE);clear rH dE;go_upto_region 5 with fail
     refine b6<|j6 rfl<|j6 rfl<|k5 (g8 (.bool false) .eql (h:=fa _ f8))<|j9 rfl ?_;go_frame
     refine j7 rfl<|j6 rfl<|k5 (ag fB _ _ rfl tb (tf) (n) tc (i) rfl rfl bJ.u)<|k5 (g7 (.slice (some ⟨(Rb i),0,none⟩) n n) ⟨tb,tf+i,none⟩ (Rg.ae _ _ Tryz.underlying41 ((Below.cell (p:=⟨tb,tf+i,none⟩) K.u CO.u.lt).trans CO.u.cell)))<|j6 rfl ?_;go_frame
     refine k5 (ag aK _ _ rfl (Rb i) (0) (n) n (q) rfl rfl kM.u)<|k5 (g7 (.slice none 0 0) ⟨(Rb i),0+q,none⟩ (Rg.ae _ _ Tryz.underlying27 ((Below.cell (p:=⟨(Rb i),0+q,none⟩) K.u CE.u.lt).trans CE.u.cell)))<|k5 (wU _ _ rfl rfl rfl)<|k5 (i3 (.bool false)) ?_;go_frame
     have sq:=U (show gK w.heap.size wr (.slice ta (dW tr i q).length Tj) (Ma.ah (dW tr i (q+1))) by rw [HE.u]; exact RO.u);have Dg:=U (show (dW tr i (q+1)).length=(dW tr i q).length by rw [HE.u]);go_wp2
     go_roundw
     case rel=>exact ⟨q+1,_,_,by go_num,by rw [Dg.u],by omega,kM.u,sq,K⟩
     case measure=>simp [intOf]; have:=kM.u; omega
    | some u =>
     have gu:=HG.u i q u dE;have rZ:=HT.u.some_ i q u hi fZ dE;obtain ⟨ub,uo,uc,vG⟩:=rZ.dp gu aR;rw [vG] at CE;have HE:=U (Bu (tr:=tr) ZY (.inr (by rw [dE]; rfl)));clear gu rZ vG dE;go_upto_region 5 with fail
     refine b6<|j6 rfl<|j6 rfl<|k5 (g8 (.bool false) .eql (h:=fa _ f8))<|j9 rfl ?_;go_frame
     refine j7 rfl<|j6 rfl<|k5 (ag fB _ _ rfl tb (tf) (n) tc (i) rfl rfl bJ.u)<|k5 (g7 (.slice (some ⟨(Rb i),0,none⟩) n n) ⟨tb,tf+i,none⟩ (Rg.ae _ _ Tryz.underlying41 ((Below.cell (p:=⟨tb,tf+i,none⟩) K.u CO.u.lt).trans CO.u.cell)))<|j6 rfl ?_;go_frame
     refine k5 (ag aK _ _ rfl (Rb i) (0) (n) n (q) rfl rfl kM.u)<|k5 (g7 (.slice (some ⟨ub,uo,none⟩) n uc) ⟨(Rb i),0+q,none⟩ (Rg.ae _ _ Tryz.underlying27 ((Below.cell (p:=⟨(Rb i),0+q,none⟩) K.u CE.u.lt).trans CE.u.cell)))<|k5 (wT _ _ rfl rfl rfl)<|k5 (i3 (.bool true)) ?_;go_frame
     go_upto_region 6 with fail
     refine b6<|j7 rfl<|j6 rfl<|k5 (Rg.aI _ _ _ rfl (.int .i64 ((q:Nat):Int)) rfl (lp wr _)) ?_;go_frame
     obtain ⟨a9,c9,X9,r1,r2,r3⟩:=RO.u.push K.u.size ((q:Nat):Int) Fe.u 26;rw [ZZ.u] at r1 r2
     refine k5 (Rg.bw _ _ _ rfl rfl rfl r1)<|j7 rfl ?_;go_frame
     have K2:=U (r3 (Nat.le_refl _) K.u);have sq:=U (show gK w.heap.size X9 (.slice a9 ((dW tr i q).length+1) c9) (Ma.ah (dW tr i (q+1))) by rw [HE.u,Bv]; exact r2);have Dg:=U (show (dW tr i (q+1)).length=(dW tr i q).length+1 by rw [HE.u,List.length_append]; rfl);clear r1 r2 r3;go_wp2
     go_roundw
     case rel=>exact ⟨q+1,_,_,by go_num,by rw [Dg.u],by omega,kM.u,sq,K2⟩
     case measure=>simp [intOf]; have:=kM.u; omega
  ·obtain rfl:q=n:=by omega
   have Pj:¬ (q:Int)<(q:Int):=by omega
   go_wp2;go_ret;exact (show Fl _ _ _ _ from ⟨_,rfl,RO.u,K.u⟩)
end
end Go.Proofs.YtpedbljnhnoohaaGreat
