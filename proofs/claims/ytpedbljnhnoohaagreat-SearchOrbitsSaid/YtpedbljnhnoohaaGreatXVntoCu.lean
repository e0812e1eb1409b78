/- Lemmas and contracts on the way to the statement; no condition of their own beyond those written. -/
import Derived.Test.YtpedbljnhnoohaaGreatXMatoCp
import Derived.RangeFuncBox
import Derived.RangeFuncLeaves
import Derived.Shelf.Abstract
import Derived.OwnWalkIn
import Derived.TacticsInMore
import Derived.LoopNIn
import Derived.LoopIn
import Derived.RangeFuncWrites
import Derived.RangeFuncNested
import Derived.Sort.CutIn
set_option linter.unusedVariables false
set_option linter.unusedSimpArgs false
set_option maxRecDepth 100000
set_option maxHeartbeats 8000000
variable {w W w' W' w0 X:Go.World} {n B N L j d D tc base n₀ cap bytes tk:Nat} {v rv ov u z v1 v2 xv u1 u2 yv u3:Go.Value} {F M F' Fk:Nat->Prop} {ll OO PS:List (List Int)} {O gs T A:List (List Nat)} {R:List (List (List Nat))} {RR:List (List (List Int))} {H:List Nat->Prop} {q:List Nat} {xs:List Go.Value} {ck:Int} {xl:List Int}
namespace Go.Proofs.YtpedbljnhnoohaaGreat
open Go.RowKit
open Go.Proofs
open Go.Proofs.Cm (Lv aY bJ)
attribute [local irreducible] Go.Calls
theorem Mj (args:Array Value) (w:World):(callFunc 118 args).run Tryz.prog w=.ok (.enter 118 args) w:=by kernel_rfl
theorem Mk (args:Array Value) (w:World):(callFunc 92 args).run Tryz.prog w=.ok (.enter 92 args) w:=by kernel_rfl
theorem kV {e:TypeId} (h:w.ownsRow B e 1 v n xs) {k:Nat} (hk:k<n):∃ g c u,v=.slice (some ⟨g,0,none⟩) n c/\w.cell? ⟨g,0+k,none⟩=some u/\xs[k]?=some u/\g<w.heap.size:=by
 have hh:=h;obtain ⟨h1,h2⟩:=h
 rcases h2 with ⟨_,h0⟩ | ⟨g,cap,cur,rfl,hg,hc,h3,h4,h5,h6⟩
 ·omega
 ·have hx:k<xs.length:=by omega
  refine ⟨g,cap,xs[k],rfl,?_,List.getElem?_eq_getElem hx,(Array.getElem?_eq_some_iff.1 hc).1⟩;have:=hh.cells (g:=g) rfl k xs[k] (List.getElem?_eq_getElem hx);rw [Nat.zero_add];unfold Addr.add at this
  split at this
  ·rename_i h0; subst h0; exact this
  ·simpa using this
theorem aR.Sf {T:aY} {V:Nat->LV} (h:aR F L n w T V) {i k:Nat} (hi:i<n) (hk:k<(T i).orb.length):∃ g c,(V i).o=.slice (some ⟨g,0,none⟩) (T i).orb.length c/\w.cell? ⟨g,0+k,none⟩=some (.int .i64 (((T i).orb[k]:Nat):Int))/\g<w.heap.size:=by
 obtain ⟨g,c,u,e,h1,h2,h3⟩:=kV (h.lv i hi).pO hk;refine ⟨g,c,e,?_,h3⟩;rw [h1,<- h2];simp [Ma.ag,List.getElem?_eq_getElem hk]
theorem aR.Dm {T:aY} {V:Nat->LV} (h:aR F L n w T V) {i:Nat} (hi:i<n):∃ a c,(V i).o=.slice a (T i).orb.length c:=Rg.cn (h.lv i hi).pO
theorem aR.Sg {T:aY} {V:Nat->LV} (h:aR F L n w T V) {i:Nat} (hi:i<n):∃ a c,(V i).g=.slice a (T i).gens.length c:=Rg.cn (h.lv i hi).pN
theorem aR.WR {T:aY} {V:Nat->LV} (h:aR F L n w T V) {i k:Nat} (hi:i<n) (hk:k<(T i).gens.length):∃ g c u,(V i).g=.slice (some ⟨g,0,none⟩) (T i).gens.length c/\w.cell? ⟨g,0+k,none⟩=some u/\FP F w u (T i).gens[k]/\g<w.heap.size:=by
 obtain ⟨g,c,u,e,h1,h2,h3⟩:=kV (h.lv i hi).pN hk;refine ⟨g,c,u,e,h1,?_,h3⟩;have wK:=(h.lv i hi).Di;obtain ⟨Z9,rfl⟩:=List.getElem?_eq_some_iff.1 h2;have:=wK.2 k Z9 (by simpa using hk);simp only [List.getElem_map] at this;exact this
structure CL (w:World) (b o:Nat) (v:Value):Prop where
 cell:w.cell? ⟨b,o,none⟩=some v
 lt:b<w.heap.size
theorem CL.up {b o:Nat} (h:CL w b o v) (hb:Below w.heap.size w w'):CL w' b o v:=⟨(hb.cell (p:=⟨b,o,none⟩) h.lt).trans h.cell,Nat.lt_of_lt_of_le h.lt hb.size⟩
theorem kT.next {T:aY} {i k q:Nat} (h:Cm.kT T i k) (hq:∃ h:k<(T i).orb.length,(T i).orb[k]=q) (ht:(T i).tried q=(T i).gens.length):Cm.kT T i (k+1):=fun m hm gB=>by
 by_cases e:m=k
 ·subst e
  obtain ⟨_,e⟩:=hq;rw [e]; exact ht
 ·exact h m hm (by omega)
open Go.Proofs.Cm in
def vG (n i:Nat):Prop:=∀ (F:Nat->Prop) (L tb:Nat) (w:World) (T:aY) (V:Nat->LV),aR F L n w T V->CF F w tb 0 (.int .i64 ((n:Nat):Int))->CF F w tb 1 (.slice (some ⟨L,0,none⟩) n n)->(∀ j,i<j->j<n->Full n T j)->eF n T i->(T i).gens.length<=5000 ->
 Calls Tryz.prog 121 #[.pointer (some ⟨tb,0,none⟩),.int .i64 ((i:Nat):Int)] w fun e w'=>∃ F' T' V',e=.returned (.tuple #[])/\KG F w F' w'/\aR F' L n w' T' V'/\iU n i T T'/\yK T' i
open Go.Proofs.Cm in
def Ml (n i:Nat):Prop:=∀ (F:Nat->Prop) (L tb:Nat) (w:World) (T:aY) (V:Nat->LV) (xv:Value) (x:List Nat),aR F L n w T V->CF F w tb 0 (.int .i64 ((n:Nat):Int))->CF F w tb 1 (.slice (some ⟨L,0,none⟩) n n)->FP F w xv x->Gd n x->Fx i x->(∀ j,i<=j->j<n->Full n T j) ->
 Calls Tryz.prog 92 #[.pointer (some ⟨tb,0,none⟩),xv,.int .i64 ((i:Nat):Int)] w fun e w'=>∃ F' T' V',e=.returned (.tuple #[])/\KG F w F' w'/\aR F' L n w' T' V'/\s6 n i T T' x
open Go.Proofs.Cm in
theorem F_ {i:Nat} (bQ:1<=n) (cC:n<=64) (bF:i<n) (Sh:i+1<n->Ml n (i+1)):vG n i:=by
 intro F L tb w T V hT dK cJ WS Tt gD;have K:=U (KG.refl hT.jD);have HT:=U hT;have C0:=U dK;have C1:=U cJ;have HI:=U (iU.refl Tt WS);have HD:=U (show kT T i 0 from fun m _ h=>absurd h (Nat.not_lt_zero _));have Mm:=U Sh;have HG:=U gD;have Ga:=U (lN Tt);clear hT dK cJ WS Tt Sh gD
 go_enter Tryz.func121,Tryz.ntmps121
 go_upto_region 0 with (fail);refine d3 ?_;refine d5 10 (.pointer (some ⟨tb,0,none⟩)) ?_;go_frame;refine d4 11 (aK _ rfl rfl) ?_;go_frame;refine d4 12 (af _ rfl rfl (ji _ _)) ?_;go_frame;refine d4 13 (g8 (.slice (some ⟨L,0,none⟩) n n) ⟨tb,1,none⟩ (Rg.ae _ _ Tryz.underlying135 C1.p.cell)) ?_;go_frame;refine d5 14 (.int .i64 ((i:Nat):Int)) ?_;go_frame;refine d4 15 (bD _ _ rfl Tryz.underlying135 fE L (n) (n) (i) rfl rfl bF) ?_;go_frame;refine d6 4 (.pointer (some ⟨L,i*194,none⟩)) ?_;go_frame;have lx:=HT.p.Dm bF;obtain ⟨Z_,oc0,lx⟩:=lx
 have Gb:w.cell? ⟨L,i*194+1,none⟩=some (.slice Z_ (T i).orb.length oc0):=by rw [ur HT.p bF (by omega),lx]
 have Qe:((T i).orb.length:Int)<=64:=by have:=Ga.p; omega
 clear lx;go_wp2
 go_loopw [5] (fun kv wr=>∃ (k:Nat) (F1:Nat->Prop) (T1:aY) (V1:Nat->LV),kv=.int .i64 k/\k<=(T1 i).orb.length/\Hid (aR F1 L n wr T1 V1)/\Hid (CF F1 wr tb 0 (.int .i64 ((n:Nat):Int)))/\Hid (CF F1 wr tb 1 (.slice (some ⟨L,0,none⟩) n n))/\Hid (KG F w F1 wr)/\Hid (iU n i T T1)/\Hid (kT T1 i k)) (fun kv _=>n - (intOf kv).toNat)
 case atStart=>exact ⟨0,F,T,V,rfl,Nat.zero_le _,HT,C0,C1,K,HI,HD⟩
 case round =>
  clear HT C0 C1 K HI HD Gb Qe;obtain ⟨k,F1,T1,V,rfl,hk,HT,C0,C1,K,HI,HD⟩:=hrel;have jT:=lN HI.p.lvl
  have Qe:((T1 i).orb.length:Int)<=64:=by omega
  by_cases cg:k<(T1 i).orb.length
  ·obtain ⟨ob,oc,lx,Kd,AV⟩:=HT.p.Sf bF cg
   have Gb:wr.cell? ⟨L,i*194+1,none⟩=some (.slice (some ⟨ob,0,none⟩) (T1 i).orb.length oc):=by rw [ur HT.p bF (by omega),lx]
   have ly:(k:Int)<((T1 i).orb.length:Int):=by omega
   obtain ⟨q,hq⟩:∃ q:Nat,Hid (q=(T1 i).orb[k]):=⟨_,U rfl⟩;have bC:=U cg;have Si:=U (show wr.cell? ⟨ob,0+k,none⟩=some (.int .i64 ((q:Nat):Int)) by rw [hq.p]; exact Kd);have qb:=U Gb;clear lx Kd AV;go_upto_region 4 with (fail);refine d3 ?_;refine d5 25 (.pointer (some ⟨L,i*194,none⟩)) ?_;go_frame;refine d4 26 (aK _ rfl rfl) ?_;go_frame;refine d4 27 (af _ rfl rfl (zS _ _ _)) ?_;go_frame;refine d4 28 (g8 (.slice (some ⟨ob,0,none⟩) (T1 i).orb.length oc) ⟨L,i*194+1,none⟩ (Rg.ae _ _ Tryz.underlying26 qb.p)) ?_;go_frame;refine d5 29 (.int .i64 ((k:Nat):Int)) ?_;go_frame;refine d4 30 (aB bK _ _ rfl ob (0) ((T1 i).orb.length) oc (k) rfl rfl bC.p) ?_;go_frame;refine d4 31 (g8 (.int .i64 ((q:Nat):Int)) ⟨ob,0+k,none⟩ (ah Si.p)) ?_;go_frame;refine d6 6 (.int .i64 ((q:Nat):Int)) ?_;go_frame
   have Mn:=U (show q∈(T1 i).orb by rw [hq.p]; exact List.getElem_mem bC.p);obtain ⟨uq,jS⟩:=(HI.p.lvl.orb q).1 Mn.p;have yL:q<n:=HI.p.lvl.AL q uq jS;have HUQ:=U jS;have Dn:=U (show ∃ h:k<(T1 i).orb.length,(T1 i).orb[k]=q from ⟨bC.p,hq.p.symm⟩);have Gc:=U (Ext.refl T1);have hle:=HI.p.lvl.le q;have wL:=U (show ((T1 i).gens.length - (T1 i).tried q)+(T1 i).tried q=(T1 i).gens.length by omega);clear jS Gb hle Si hq Mn ly jT Qe qb
   have iT:q<64:=by omega
   go_wp2;simp only [Nat.zero_add]
   go_loopg [] ((T1 i).gens.length - (T1 i).tried q) (fun g wr=>∃ (F2:Nat->Prop) (T2:aY) (V2:Nat->LV),Hid (g+(T2 i).tried q=(T2 i).gens.length)/\Hid (aR F2 L n wr T2 V2)/\Hid (CF F2 wr tb 0 (.int .i64 ((n:Nat):Int)))/\Hid (CF F2 wr tb 1 (.slice (some ⟨L,0,none⟩) n n))/\Hid (KG F w F2 wr)/\Hid (iU n i T T2)/\Hid (kT T2 i k)/\Hid (∃ h:k<(T2 i).orb.length,(T2 i).orb[k]=q)/\Hid (Ext T1 T2))
   case atStart=>exact ⟨F1,T1,V,wL,HT,C0,C1,K,HI,HD,Dn,Gc⟩
   case round =>
    clear HT C0 C1 K HI HD Dn Gc wL bC;obtain ⟨F2,T2,V2,HN,HT,C0,C1,K,HI,HD,Dn,Gc⟩:=hrel;obtain ⟨tr,jk⟩:∃ tr:Nat,Hid (tr=(T2 i).tried q):=⟨_,U rfl⟩;obtain ⟨gn,uW⟩:∃ gn:Nat,Hid (gn=(T2 i).gens.length):=⟨_,U rfl⟩
    have WT:gk+tr=gn:=by rw [jk.p,uW.p]; exact HN.p
    have aab:gn<=5000:=by rw [uW.p,HI.p.gens]; exact HG.p
    have CT:=U (CL.mk (show wr.cell? ⟨L,i*194+130+q,none⟩=some (.int .i64 ((tr:Nat):Int)) by rw [Kb HT.p bF iT (by omega),<- jk.p]) HT.p.lt);obtain ⟨ga,gc,Dp⟩:=HT.p.Sg bF;have CG:=U (CL.mk (show wr.cell? ⟨L,i*194,none⟩=some (.slice ga gn gc) by rw [Mc HT.p bF rfl,Dp,uW.p]) HT.p.lt);have jT:=lN HI.p.lvl
    by_cases uT:gk=0
    ·clear Dp
     go_upto_region 5 with (fail);have aq:Below wr.heap.size wr wr.drew:=(Below.refl _ _).drew;replace HT:=U (HT.p.up aq);replace C0:=U (C0.p.up aq);replace C1:=U (C1.p.up aq);replace CT:=U (CT.p.up aq);replace CG:=U (CG.p.up aq);replace K:=U (K.p.up aq);generalize c_ F2 wr wr.drew=F1 at *;clear aq;refine Rg.Any.begin (S:=Rg.aG 11 (fun _=>True) (fun W=>Below wr.drew.heap.size wr.drew W)) mix ?_;generalize wr.drew=cW at *;have hS:∀ (l:Array Bool) W,Below cW.heap.size cW W->Rg.aG 11 (fun _=>True) (fun W=>Below cW.heap.size cW W) l W:=fun l W h=>⟨.inr trivial,h⟩;have hI:Below cW.heap.size cW cW:=Below.refl _ _;refine d8 0 11 (.pointer (some ⟨L,i*194,none⟩)) 32 (hS _ _ hI) ?_;go_frame;refine d8 1 11 (.int .i64 ((q:Nat):Int)) 33 (hS _ _ hI) ?_;go_frame;refine d7 2 11 (.pointer (some ⟨L,i*194,none⟩)) 34 rfl rfl (.inl ⟨rfl,fun w _=>aK _ rfl rfl⟩) (hS _ _ hI) ?_;go_frame
     refine d7 3 11 (.pointer (some ⟨L,i*194+130,none⟩)) 35 rfl rfl (.inl ⟨rfl,fun w _=>af _ rfl rfl (Dk _ _ _)⟩) (hS _ _ hI) ?_;go_frame;refine d7 4 11 (.pointer (some ⟨L,i*194+130+q,none⟩)) 36 rfl rfl (.inl ⟨rfl,fun w _=>bj _ _ rfl Tryz.underlying143 L2 L (i*194+130) (q) rfl rfl iT⟩) (hS _ _ hI) ?_;go_frame;refine d7 5 11 (.int .i64 ((tr:Nat):Int)) 37 rfl rfl (i9 ⟨L,i*194+130+q,none⟩ (fun W hW=>ah ((Below.cell (p:=⟨L,i*194+130+q,none⟩) hW CT.p.lt).trans CT.p.cell))) (hS _ _ hI) ?_;go_frame;refine d8 6 11 (.pointer (some ⟨L,i*194,none⟩)) 38 (hS _ _ hI) ?_;go_frame;refine d7 7 11 (.pointer (some ⟨L,i*194,none⟩)) 39 rfl rfl (.inl ⟨rfl,fun w _=>aK _ rfl rfl⟩) (hS _ _ hI) ?_;go_frame;refine d7 8 11 (.pointer (some ⟨L,i*194,none⟩)) 40 rfl rfl (.inl ⟨rfl,fun w _=>af _ rfl rfl (Dj _ _ _)⟩) (hS _ _ hI) ?_;go_frame
     refine d7 9 11 (.slice ga gn gc) 41 rfl rfl (i9 ⟨L,i*194,none⟩ (fun W hW=>Rg.ae _ _ Tryz.underlying41 ((Below.cell (p:=⟨L,i*194,none⟩) hW CG.p.lt).trans CG.p.cell))) (hS _ _ hI) ?_;go_frame;refine d7 10 11 (.int .i64 ((gn:Nat):Int)) 42 rfl rfl (.inl ⟨rfl,fun w _=>kc _ _ _ rfl Tryz.underlying41 _ _ _ rfl⟩) (hS _ _ hI) ?_;go_frame;refine i8 11 43 rfl rfl (g9 (.bool false) .lss (h:=aP _ f9)) (hS _ _ hI) ?_;go_frame;refine Rg.Any.done (by kernel_rfl) ?_ _;clear hS hI;have Tu:=U (kT.next HD.p Dn.p (by rw [<- jk.p,<- uW.p]; omega));obtain ⟨WU,zU⟩:=Dn.p;go_wp2
     go_roundw
     case rel=>exact ⟨k+1,_,T2,V2,by go_num,WU,HT,C0,C1,K,HI,Tu⟩
     case measure=>simp [intOf]; omega
    ·obtain ⟨gb,gc',u,Sj,Dq,Qf,gD⟩:=HT.p.WR bF (k:=tr) (by have:=uW.p; omega)
     rw [Dp,<- uW.p] at Sj
     injection Sj with e1 _ e2
     subst e1 e2;have Mo:=U (show tr<gn by omega);obtain ⟨s,hs⟩:∃ s,Hid (∃ h:tr<(T2 i).gens.length,(T2 i).gens[tr]=s):=⟨_,U ⟨by rw [<- uW.p]; omega,rfl⟩⟩;obtain ⟨mq,iD⟩:=hs.p;have J6:=U (show s∈(T2 i).gens by rw [<- iD]; exact List.getElem_mem mq);have GS:=U (HI.p.lvl.yJ s J6.p);rw [iD] at Qf;obtain ⟨sb,so,sc,rfl⟩:=Qf.dQ GS.p bQ;have SP:=U Qf;have CS:=U (CL.mk Dq gD);have Qg:=Gc.p.rep i q uq HUQ.p;have Mp:=U Qg;have GU:=U (HI.p.lvl.wu q uq Qg)
     have Sk:Cm.ap (Ma.aj uq s) i=Cm.ap s q:=by rw [Cm.br GU.p bF,HI.p.lvl.AK q uq Qg]
     have GY:=U (Cm.aV GU.p GS.p);obtain ⟨p,hp⟩:∃ p,Hid (p=Cm.ap s q):=⟨_,U rfl⟩;have WV:=U (show Cm.ap (Ma.aj uq s) i=p by rw [hp.p]; exact Sk)
     have Qh:p<n:=by rw [<- WV.p]; exact Cm.cy GY.p bF
     have iV:p<64:=by omega
     have HGT:=U WT;have Ke:=U uT;clear Dp Dq Qf gD mq iD Qg Sk WT uT
     have hkT:(tr:Int)<(gn:Int):=by have:=Mo.p; omega
     go_upto_region 5 with (fail);have aq:Below wr.heap.size wr wr.drew:=(Below.refl _ _).drew;replace HT:=U (HT.p.up aq);replace C0:=U (C0.p.up aq);replace C1:=U (C1.p.up aq);replace CT:=U (CT.p.up aq);replace CG:=U (CG.p.up aq);replace CS:=U (CS.p.up aq);replace SP:=U (SP.p.up aq);replace K:=U (K.p.up aq);generalize c_ F2 wr wr.drew=F1 at *;clear aq;refine Rg.Any.begin (S:=Rg.aG 11 (fun _=>True) (fun W=>Below wr.drew.heap.size wr.drew W)) mix ?_;generalize wr.drew=cW at *;have hS:∀ (l:Array Bool) W,Below cW.heap.size cW W->Rg.aG 11 (fun _=>True) (fun W=>Below cW.heap.size cW W) l W:=fun l W h=>⟨.inr trivial,h⟩;have hI:Below cW.heap.size cW cW:=Below.refl _ _;refine d8 0 11 (.pointer (some ⟨L,i*194,none⟩)) 32 (hS _ _ hI) ?_;go_frame;refine d8 1 11 (.int .i64 ((q:Nat):Int)) 33 (hS _ _ hI) ?_;go_frame
     refine d7 2 11 (.pointer (some ⟨L,i*194,none⟩)) 34 rfl rfl (.inl ⟨rfl,fun w _=>aK _ rfl rfl⟩) (hS _ _ hI) ?_;go_frame;refine d7 3 11 (.pointer (some ⟨L,i*194+130,none⟩)) 35 rfl rfl (.inl ⟨rfl,fun w _=>af _ rfl rfl (Dk _ _ _)⟩) (hS _ _ hI) ?_;go_frame;refine d7 4 11 (.pointer (some ⟨L,i*194+130+q,none⟩)) 36 rfl rfl (.inl ⟨rfl,fun w _=>bj _ _ rfl Tryz.underlying143 L2 L (i*194+130) (q) rfl rfl iT⟩) (hS _ _ hI) ?_;go_frame;refine d7 5 11 (.int .i64 ((tr:Nat):Int)) 37 rfl rfl (i9 ⟨L,i*194+130+q,none⟩ (fun W hW=>ah ((Below.cell (p:=⟨L,i*194+130+q,none⟩) hW CT.p.lt).trans CT.p.cell))) (hS _ _ hI) ?_;go_frame;refine d8 6 11 (.pointer (some ⟨L,i*194,none⟩)) 38 (hS _ _ hI) ?_;go_frame;refine d7 7 11 (.pointer (some ⟨L,i*194,none⟩)) 39 rfl rfl (.inl ⟨rfl,fun w _=>aK _ rfl rfl⟩) (hS _ _ hI) ?_;go_frame
     refine d7 8 11 (.pointer (some ⟨L,i*194,none⟩)) 40 rfl rfl (.inl ⟨rfl,fun w _=>af _ rfl rfl (Dj _ _ _)⟩) (hS _ _ hI) ?_;go_frame;refine d7 9 11 (.slice (some ⟨gb,0,none⟩) gn gc) 41 rfl rfl (i9 ⟨L,i*194,none⟩ (fun W hW=>Rg.ae _ _ Tryz.underlying41 ((Below.cell (p:=⟨L,i*194,none⟩) hW CG.p.lt).trans CG.p.cell))) (hS _ _ hI) ?_;go_frame;refine d7 10 11 (.int .i64 ((gn:Nat):Int)) 42 rfl rfl (.inl ⟨rfl,fun w _=>kc _ _ _ rfl Tryz.underlying41 _ _ _ rfl⟩) (hS _ _ hI) ?_;go_frame;refine i8 11 43 rfl rfl (g9 (.bool true) .lss (h:=aP _ f8)) (hS _ _ hI) ?_;go_frame;refine Rg.Any.done (by kernel_rfl) ?_ _;clear hS hI;go_upto_region 6 with (fail);have aq:Below cW.heap.size cW cW.drew:=(Below.refl _ _).drew;replace HT:=U (HT.p.up aq);replace C0:=U (C0.p.up aq);replace C1:=U (C1.p.up aq);replace CT:=U (CT.p.up aq)
     replace CG:=U (CG.p.up aq);replace CS:=U (CS.p.up aq);replace SP:=U (SP.p.up aq);replace K:=U (K.p.up aq);generalize c_ F1 cW cW.drew=F2 at *;clear aq;refine Rg.Any.begin (S:=Rg.aG 12 (fun _=>True) (fun W=>Below cW.drew.heap.size cW.drew W)) mix ?_;generalize cW.drew=eY at *;have hS:∀ (l:Array Bool) W,Below eY.heap.size eY W->Rg.aG 12 (fun _=>True) (fun W=>Below eY.heap.size eY W) l W:=fun l W h=>⟨.inr trivial,h⟩;have hI:Below eY.heap.size eY eY:=Below.refl _ _;refine d8 0 12 (.pointer (some ⟨L,i*194,none⟩)) 44 (hS _ _ hI) ?_;go_frame;refine d7 1 12 (.pointer (some ⟨L,i*194,none⟩)) 45 rfl rfl (.inl ⟨rfl,fun w _=>aK _ rfl rfl⟩) (hS _ _ hI) ?_;go_frame;refine d7 2 12 (.pointer (some ⟨L,i*194,none⟩)) 46 rfl rfl (.inl ⟨rfl,fun w _=>af _ rfl rfl (Dj _ _ _)⟩) (hS _ _ hI) ?_;go_frame
     refine d7 3 12 (.slice (some ⟨gb,0,none⟩) gn gc) 47 rfl rfl (i9 ⟨L,i*194,none⟩ (fun W hW=>Rg.ae _ _ Tryz.underlying41 ((Below.cell (p:=⟨L,i*194,none⟩) hW CG.p.lt).trans CG.p.cell))) (hS _ _ hI) ?_;go_frame;refine d8 4 12 (.pointer (some ⟨L,i*194,none⟩)) 48 (hS _ _ hI) ?_;go_frame;refine d8 5 12 (.int .i64 ((q:Nat):Int)) 49 (hS _ _ hI) ?_;go_frame;refine d7 6 12 (.pointer (some ⟨L,i*194,none⟩)) 50 rfl rfl (.inl ⟨rfl,fun w _=>aK _ rfl rfl⟩) (hS _ _ hI) ?_;go_frame;refine d7 7 12 (.pointer (some ⟨L,i*194+130,none⟩)) 51 rfl rfl (.inl ⟨rfl,fun w _=>af _ rfl rfl (Dk _ _ _)⟩) (hS _ _ hI) ?_;go_frame;refine d7 8 12 (.pointer (some ⟨L,i*194+130+q,none⟩)) 52 rfl rfl (.inl ⟨rfl,fun w _=>bj _ _ rfl Tryz.underlying143 L2 L (i*194+130) (q) rfl rfl iT⟩) (hS _ _ hI) ?_;go_frame;refine d7 9 12 (.int .i64 ((tr:Nat):Int)) 53 rfl rfl (i9 ⟨L,i*194+130+q,none⟩ (fun W hW=>ah ((Below.cell (p:=⟨L,i*194+130+q,none⟩) hW CT.p.lt).trans CT.p.cell))) (hS _ _ hI) ?_;go_frame
     refine d7 10 12 (.pointer (some ⟨gb,0+tr,none⟩)) 54 rfl rfl (Rg.aA bP _ _ rfl rfl gb (0) (gn) gc (tr) rfl rfl Mo.p) (hS _ _ hI) ?_;go_frame;refine d7 11 12 (.slice (some ⟨sb,so,none⟩) n sc) 55 rfl rfl (i9 ⟨gb,0+tr,none⟩ (fun W hW=>Rg.ae _ _ Tryz.underlying27 ((Below.cell (p:=⟨gb,0+tr,none⟩) hW CS.p.lt).trans CS.p.cell))) (hS _ _ hI) ?_;go_frame;refine i8 12 7 rfl rfl (c6 (.slice (some ⟨sb,so,none⟩) n sc) _ rfl rfl) (hS _ _ hI) ?_;go_frame;refine Rg.Any.done (by kernel_rfl) ?_ _;clear hS hI;go_upto_region 7 with (fail);have aq:Below eY.heap.size eY eY.drew:=(Below.refl _ _).drew;replace HT:=U (HT.p.up aq);replace C0:=U (C0.p.up aq);replace C1:=U (C1.p.up aq);replace CT:=U (CT.p.up aq);replace CG:=U (CG.p.up aq);replace CS:=U (CS.p.up aq);replace SP:=U (SP.p.up aq);replace K:=U (K.p.up aq)
     generalize c_ F2 eY eY.drew=F3 at *;clear aq;refine Rg.Any.begin (S:=Rg.aG 10 (fun W=>Below eY.drew.heap.size eY.drew W) (fun _=>True)) mix ?_;generalize eY.drew=nz at *;have hS:∀ (l:Array Bool) W,Below nz.heap.size nz W->Rg.aG 10 (fun W=>Below nz.heap.size nz W) (fun _=>True) l W:=fun l W h=>⟨.inr h,trivial⟩;have bW:∀ (l:Array Bool) W,l.getD 10 false=true->Rg.aG 10 (fun W=>Below nz.heap.size nz W) (fun _=>True) l W:=fun l W h=>⟨.inl h,trivial⟩;have hI:Below nz.heap.size nz nz:=Below.refl _ _;refine d8 0 10 (.pointer (some ⟨L,i*194,none⟩)) 56 (hS _ _ hI) ?_;go_frame;refine d8 1 10 (.int .i64 ((q:Nat):Int)) 57 (hS _ _ hI) ?_;go_frame;refine d7 2 10 (.pointer (some ⟨L,i*194,none⟩)) 58 rfl rfl (.inl ⟨rfl,fun w _=>aK _ rfl rfl⟩) (hS _ _ hI) ?_;go_frame;refine d7 3 10 (.pointer (some ⟨L,i*194+130,none⟩)) 59 rfl rfl (.inl ⟨rfl,fun w _=>af _ rfl rfl (Dk _ _ _)⟩) (hS _ _ hI) ?_;go_frame
     refine d7 4 10 (.pointer (some ⟨L,i*194+130+q,none⟩)) 60 rfl rfl (.inl ⟨rfl,fun w _=>bj _ _ rfl Tryz.underlying143 L2 L (i*194+130) (q) rfl rfl iT⟩) (hS _ _ hI) ?_;go_frame;refine i7 5 10 (.int .i64 ((tr:Nat):Int)) 61 rfl rfl (i9 ⟨L,i*194+130+q,none⟩ (fun W hW=>ah ((Below.cell (p:=⟨L,i*194+130+q,none⟩) hW CT.p.lt).trans CT.p.cell))) (hS _ _ hI) ?_;go_frame;refine d7 6 10 (.int .i64 (((tr+1):Nat):Int)) 62 rfl rfl (.inl ⟨rfl,fun w _=>aT (R:=.int .i64 (((tr+1):Nat):Int)) .add _ _ _ rfl rfl rfl (bA _ (by omega) (by omega))⟩) (hS _ _ hI) ?_;go_frame;refine d7 7 10 (.pointer (some ⟨L,i*194,none⟩)) 63 rfl rfl (.inl ⟨rfl,fun w _=>aK _ rfl rfl⟩) (hS _ _ hI) ?_;go_frame;refine d7 8 10 (.pointer (some ⟨L,i*194+130,none⟩)) 64 rfl rfl (.inl ⟨rfl,fun w _=>af _ rfl rfl (Dk _ _ _)⟩) (hS _ _ hI) ?_;go_frame
     refine d7 9 10 (.pointer (some ⟨L,i*194+130+q,none⟩)) 65 rfl rfl (.inl ⟨rfl,fun w _=>bj _ _ rfl Tryz.underlying143 L2 L (i*194+130) (q) rfl rfl iT⟩) (hS _ _ hI) ?_;go_frame;refine Rg.Any.one (i:=10) (by kernel_rfl) (Rg.Any.cA none rfl rfl rfl (Rg.ai _ _ _ rfl _ rfl _ rfl (bI _ CT.p.cell (HT.p.frozen _))) (bW _ _ rfl) ?_);go_frame;have fT:=HT.p.tick bF iT (o:=i*194+130+q) (by omega);rw [<- jk.p] at fT;refine Rg.Any.done (by kernel_rfl) ?_ _;clear bW;clear hS hI;obtain ⟨Mq,iu⟩:=fT;have fF:=KG.Dh (KG.refl HT.p.jD) iu;generalize nz.setCell ⟨L,i*194+130+q,none⟩ (.int .i64 ((tr+1:Nat):Int))=Qi at *;replace HT:=U Mq;replace C0:=U (C0.p.kg fF);replace C1:=U (C1.p.kg fF);replace SP:=U (SP.p.kg fF);replace K:=U (K.p.trans fF);clear fF iu Mq CT CG CS
     have Sl:Cm.bJ (Cm.tick T2 i q) i q=some uq:=by show (Cm.tick T2 i q i).rep q=some uq; rw [Cm.dy]; exact Mp.p
     obtain ⟨ub,uo,uc,Dr,Ds⟩:=HT.p.Qa bF iT Sl GU.p bQ;have UP:=U Ds;have CU:=U (CL.mk (show Qi.cell? ⟨L,i*194+2+q,none⟩=some (.slice (some ⟨ub,uo,none⟩) n uc) by rw [p_ HT.p bF iT (by omega),Dr]) HT.p.lt);clear Sl Dr Ds;go_upto_region 8 with (fail);refine d3 ?_;refine d5 66 (.pointer (some ⟨L,i*194,none⟩)) ?_;go_frame;refine d5 67 (.int .i64 ((q:Nat):Int)) ?_;go_frame;refine d4 68 (aK _ rfl rfl) ?_;go_frame;refine d4 69 (af _ rfl rfl (uw _ _ _)) ?_;go_frame;refine d4 70 (bj _ _ rfl Tryz.underlying142 qW L (i*194+2) (q) rfl rfl iT) ?_;go_frame;refine d4 71 (g8 (.slice (some ⟨ub,uo,none⟩) n uc) ⟨L,i*194+2+q,none⟩ (Rg.ae _ _ Tryz.underlying27 CU.p.cell)) ?_;go_frame;refine d5 72 (.slice (some ⟨sb,so,none⟩) n sc) ?_;go_frame;refine f7 73 (aw 117 _ _ _ rfl rfl rfl (wI _ _)) ?_
     refine (q6 UP.p SP.p GU.p GS.p bQ cC).mono ?_;rintro e1 fG ⟨yv,rfl,Ge,hb⟩;obtain ⟨yb,yo,yc,rfl⟩:=Ge.dQ GY.p bQ;refine ⟨_,rfl,?_⟩;go_frame;replace HT:=U (HT.p.up hb);replace C0:=U (C0.p.up hb);replace C1:=U (C1.p.up hb);replace SP:=U (SP.p.up hb);replace UP:=U (UP.p.up hb);replace CU:=U (CU.p.up hb);replace K:=U (K.p.up hb);have YF:=U Ge;have CY:=U (show CF _ _ yb (yo+i) (.int .i64 ((p:Nat):Int)) by rw [<- WV.p]; exact Ge.ap GY.p bF);generalize c_ F3 Qi fG=F4 at *;clear hb;refine d6 8 (.slice (some ⟨yb,yo,none⟩) n yc) ?_;go_frame;clear Ge;go_upto_region 9 with (fail);refine d3 ?_;refine d5 74 (.slice (some ⟨yb,yo,none⟩) n yc) ?_;go_frame;refine d5 75 (.int .i64 ((i:Nat):Int)) ?_;go_frame;refine d4 76 (aB cj _ _ rfl yb (yo) (n) yc (i) rfl rfl bF) ?_;go_frame;refine d4 77 (g8 (.int .i64 ((p:Nat):Int)) ⟨yb,yo+i,none⟩ (ah CY.p.cell)) ?_;go_frame
     refine d6 9 (.int .i64 ((p:Nat):Int)) ?_;go_frame
     cases yM:(T2 i).rep p with
     | none =>
      have uS:(Cm.tick T2 i q i).rep p=none:=by rw [Cm.dy]; exact yM
      have WW:=((HT.p.lv i bF).none_ p iV uS).1;have CP:=U (CL.mk (show fG.cell? ⟨L,i*194+2+p,none⟩=some (.slice none 0 0) by rw [p_ HT.p bF iV (by omega),WW]) HT.p.lt);have Dt:=U yM;clear uS WW yM CU SP UP;go_upto_region 10 with (fail);refine d3 ?_;refine d5 78 (.pointer (some ⟨L,i*194,none⟩)) ?_;go_frame;refine d5 79 (.int .i64 ((p:Nat):Int)) ?_;go_frame;refine d4 80 (aK _ rfl rfl) ?_;go_frame;refine d4 81 (af _ rfl rfl (uw _ _ _)) ?_;go_frame;refine d4 82 (bj _ _ rfl Tryz.underlying142 qW L (i*194+2) (p) rfl rfl iV) ?_;go_frame;refine d4 83 (g8 (.slice none 0 0) ⟨L,i*194+2+p,none⟩ (Rg.ae _ _ Tryz.underlying27 CP.p.cell)) ?_;go_frame;refine d4 84 (wJ _ _ rfl rfl rfl) ?_;go_frame;clear CP;go_upto_region 11 with (fail);have aq:Below fG.heap.size fG fG.drew:=(Below.refl _ _).drew
      replace HT:=U (HT.p.up aq);replace C0:=U (C0.p.up aq);replace C1:=U (C1.p.up aq);replace YF:=U (YF.p.up aq);replace K:=U (K.p.up aq);generalize c_ F4 fG fG.drew=F5 at *;clear aq;refine Rg.Any.begin (S:=Rg.aG 10 (fun W=>Below fG.drew.heap.size fG.drew W) (fun _=>True)) mix ?_;generalize fG.drew=fU at *;have hS:∀ (l:Array Bool) W,Below fU.heap.size fU W->Rg.aG 10 (fun W=>Below fU.heap.size fU W) (fun _=>True) l W:=fun l W h=>⟨.inr h,trivial⟩;have bW:∀ (l:Array Bool) W,l.getD 10 false=true->Rg.aG 10 (fun W=>Below fU.heap.size fU W) (fun _=>True) l W:=fun l W h=>⟨.inl h,trivial⟩;have hI:Below fU.heap.size fU fU:=Below.refl _ _;refine d8 0 10 (.pointer (some ⟨L,i*194,none⟩)) 85 (hS _ _ hI) ?_;go_frame;refine d8 1 10 (.int .i64 ((p:Nat):Int)) 86 (hS _ _ hI) ?_;go_frame;refine d8 2 10 (.pointer (some ⟨L,i*194,none⟩)) 87 (hS _ _ hI) ?_;go_frame
      refine d8 3 10 (.int .i64 ((p:Nat):Int)) 88 (hS _ _ hI) ?_;go_frame;refine d8 4 10 (.slice (some ⟨yb,yo,none⟩) n yc) 89 (hS _ _ hI) ?_;go_frame;refine d8 5 10 (.slice (some ⟨yb,yo,none⟩) n yc) 90 (hS _ _ hI) ?_;go_frame;refine d7 7 10 (.pointer (some ⟨L,i*194,none⟩)) 92 rfl rfl (.inl ⟨rfl,fun w _=>aK _ rfl rfl⟩) (hS _ _ hI) ?_;go_frame;refine d7 8 10 (.pointer (some ⟨L,i*194+2,none⟩)) 93 rfl rfl (.inl ⟨rfl,fun w _=>af _ rfl rfl (uw _ _ _)⟩) (hS _ _ hI) ?_;go_frame;refine d7 11 10 (.pointer (some ⟨L,i*194,none⟩)) 95 rfl rfl (.inl ⟨rfl,fun w _=>aK _ rfl rfl⟩) (hS _ _ hI) ?_;go_frame;refine d7 12 10 (.pointer (some ⟨L,i*194+66,none⟩)) 96 rfl rfl (.inl ⟨rfl,fun w _=>af _ rfl rfl (zT _ _ _)⟩) (hS _ _ hI) ?_;go_frame;refine Rg.Any.one (i:=6) (by kernel_rfl) (Rg.Any.ask (some 91) rfl rfl rfl _ _ (aF 118 _ _ rfl rfl (Mj _ _)) ?_)
      refine (Me YF.p GY.p bQ cC).mono ?_;rintro e1 qd ⟨iv,rfl,nA,hb⟩;obtain ⟨jb,jo,jc,rfl⟩:=nA.dQ (Cm.aN GY.p) bQ;have gZ:=Rg.acc hI hb;clear hI;replace HT:=U (HT.p.up hb);replace C0:=U (C0.p.up hb);replace C1:=U (C1.p.up hb);replace YF:=U (YF.p.up hb);replace K:=U (K.p.up hb);have IF:=U nA;generalize c_ F5 fU qd=F6 at *;clear hb;refine ⟨_,rfl,(hS _ _ gZ),?_⟩;go_frame;refine d7 9 10 (.pointer (some ⟨L,i*194+2+p,none⟩)) 94 rfl rfl (.inl ⟨rfl,fun w _=>bj _ _ rfl Tryz.underlying142 qW L (i*194+2) (p) rfl rfl iV⟩) (hS _ _ gZ) ?_;go_frame;refine Rg.Any.one (i:=10) (by kernel_rfl) (Rg.Any.cA none rfl rfl rfl (Rg.ai _ _ _ rfl _ rfl _ rfl (Rg.bn _ cU (p_ HT.p bF iV (by omega)) (HT.p.frozen _))) (bW _ _ rfl) ?_);go_frame;refine d7 13 10 (.pointer (some ⟨L,i*194+66+p,none⟩)) 97 rfl rfl (.inl ⟨rfl,fun w _=>bj _ _ rfl Tryz.underlying142 qW L (i*194+66) (p) rfl rfl iV⟩) (bW _ _ rfl) ?_;go_frame
      have cY:=HT.p.row.set (i*194+2+p) (.slice (some ⟨yb,yo,none⟩) n yc);refine Rg.Any.one (i:=14) (by kernel_rfl) (Rg.Any.cA none rfl rfl rfl (Rg.ai _ _ _ rfl _ rfl _ rfl (Rg.bn _ cU (cY.cell (by omega)) (cY.frozen _))) (bW _ _ rfl) ?_);go_frame;clear cY;refine Rg.Any.done (by kernel_rfl) ?_ _;clear bW;clear hS gZ;obtain ⟨V4,Gf,Mr⟩:=HT.p.iC bF iV (o1:=i*194+2+p) (o2:=i*194+66+p) (by omega) (by omega) YF.p IF.p;have fF:=KG.Dh (KG.refl HT.p.jD) Mr;generalize (qd.setCell ⟨L,i*194+2+p,none⟩ (.slice (some ⟨yb,yo,none⟩) n yc)).setCell ⟨L,i*194+66+p,none⟩ (.slice (some ⟨jb,jo,none⟩) n jc)=Tv at *;replace C0:=U (C0.p.kg fF);replace C1:=U (C1.p.kg fF);replace K:=U (K.p.trans fF);clear fF Mr;obtain ⟨T4,Tw⟩:∃ T4,Hid (T4=iC (Cm.tick T2 i q) i p (Ma.aj uq s)):=⟨_,U rfl⟩
      rw [<- Tw.p] at Gf;replace HT:=U Gf
      have ho4:(T4 i).orb.length<=n:=by
       have e:(T4 i).orb=(T2 i).orb:=by rw [Tw.p]; simp [iC,Cm.dy]
       rw [e]; exact jT
      obtain ⟨oa,oc,lx⟩:=HT.p.Dm bF;have CO:=U (CL.mk (show Tv.cell? ⟨L,i*194+1,none⟩=some (.slice oa (T4 i).orb.length oc) by rw [ur HT.p bF rfl,lx]) HT.p.lt);obtain ⟨a9,c9,X9,r1,r2,r3,V5,r4,r5⟩:=HT.p.WH bF (o:=i*194+1) rfl p (by omega) 26;rw [lx] at r1 r2;clear Gf lx IF YF;go_upto_region 12 with (fail);refine d3 ?_;refine d5 98 (.pointer (some ⟨L,i*194,none⟩)) ?_;go_frame;refine d5 99 (.pointer (some ⟨L,i*194,none⟩)) ?_;go_frame;refine d4 100 (aK _ rfl rfl) ?_;go_frame;refine d4 101 (af _ rfl rfl (zS _ _ _)) ?_;go_frame;refine d4 102 (g8 (.slice oa (T4 i).orb.length oc) ⟨L,i*194+1,none⟩ (Rg.ae _ _ Tryz.underlying26 CO.p.cell)) ?_;go_frame;refine d5 103 (.int .i64 ((p:Nat):Int)) ?_;go_frame;refine d4 104 (Rg.aC _ _ _ rfl (.int .i64 ((p:Nat):Int)) rfl (j8 Tv _)) ?_;go_frame
      refine d4 105 (Rg.bu _ _ _ rfl rfl rfl r1) ?_;go_frame;refine d4 106 (aK _ rfl rfl) ?_;go_frame;refine d4 107 (af _ rfl rfl (zS _ _ _)) ?_;go_frame;refine Rg.aD none rfl rfl (Rg.ai _ _ _ rfl _ rfl _ rfl (Rg.bn _ o7 r2 r3)) ?_;go_frame;clear CO r1 r2 r3;have fF:=KG.Dh (KG.refl HT.p.jD) r5;generalize X9.setCell ⟨L,i*194+1,none⟩ (.slice a9 ((T4 i).orb.length+1) c9)=w70 at *;replace C0:=U (C0.p.kg fF);replace C1:=U (C1.p.kg fF);replace K:=U (K.p.trans fF);rw [Tw.p,<- find_eq] at r4;have hf:=iU.found HI.p HD.p bF (q:=q) (s:=s) (uq:=uq) (by rw [<- jk.p,<- uW.p]; exact Mo.p) (by obtain ⟨a,b⟩:=hs.p; simp only [<- jk.p]; exact b) Mp.p (by rw [<- hp.p]; exact Dt.p) Dn.p;have hx:=Gc.p.trans ((Cm.jh T2 i q).trans (Cm.sY (T:=Cm.tick T2 i q) (p:=p) (y:=Ma.aj uq s) (by rw [Cm.dy]; exact Dt.p)))
      rw [<- hp.p] at hf;obtain ⟨nx,AW,Du,Dv,Dw⟩:=hf;replace HT:=U r4;have Dx:=U nx;have Gg:=U AW;have Ms:=U Dw;have HX:=U hx;have Mt:=U (show (gk - 1)+(Cm.find (Cm.tick T2 i q) i p (Ma.aj uq s) i).tried q=(Cm.find (Cm.tick T2 i q) i p (Ma.aj uq s) i).gens.length by have h1:=HN.p; have h2:=Ke.p; rw [Du,Dv]; omega);clear nx AW Du Dv Dw hx fF r4 r5;go_wp2
      go_roundg (gk - 1)
      case rel=>exact ⟨_,_,V5,Mt,HT,C0,C1,K,Dx,Gg,Ms,HX⟩
      case measure=>have:=Ke.p; omega
     | some v =>
      have uS:bJ (Cm.tick T2 i q) i p=some v:=by show (Cm.tick T2 i q i).rep p=some v; rw [Cm.dy]; exact yM
      obtain ⟨hsa,GV,_,GX,FX,RX⟩:=Mh HI.p.lvl bF J6.p Mp.p (show (T2 i).rep (Cm.ap s q)=some v by rw [<- hp.p]; exact yM);replace GV:=U GV;replace GX:=U GX;replace FX:=U FX;replace RX:=U RX;obtain ⟨vb,vo,vc,WX,_⟩:=HT.p.Qa bF iV uS GV.p bQ;obtain ⟨zb,zo,zc,WY,WZ⟩:=HT.p.WI bF iV uS GV.p bQ;have CP:=U (CL.mk (show fG.cell? ⟨L,i*194+2+p,none⟩=some (.slice (some ⟨vb,vo,none⟩) n vc) by rw [p_ HT.p bF iV (by omega),WX]) HT.p.lt);have CB:=U (CL.mk (show fG.cell? ⟨L,i*194+66+p,none⟩=some (.slice (some ⟨zb,zo,none⟩) n zc) by rw [FW HT.p bF iV (by omega),WY]) HT.p.lt);have BP:=U WZ;have Dt:=U yM;clear uS WX WY WZ hsa yM CU SP UP
      by_cases yF:i+1<n
      ·have wM:=U (show ∀ j,i+1<=j->j<n->Full n (Cm.tick T2 i q) j from fun j h1 h2=>(HI.p.up j (by omega) h2).ext (Cm.jh T2 i q) (Cm.gM (by omega)) (fun _=>Cm.gM (by omega)))
       have pA:=U yF
       have Qc:((i+1:Nat):Int)<(n:Int):=by omega
       go_upto_region 10 with (fail);refine d3 ?_;refine d5 78 (.pointer (some ⟨L,i*194,none⟩)) ?_;go_frame;refine d5 79 (.int .i64 ((p:Nat):Int)) ?_;go_frame;refine d4 80 (aK _ rfl rfl) ?_;go_frame;refine d4 81 (af _ rfl rfl (uw _ _ _)) ?_;go_frame;refine d4 82 (bj _ _ rfl Tryz.underlying142 qW L (i*194+2) (p) rfl rfl iV) ?_;go_frame;refine d4 83 (g8 (.slice (some ⟨vb,vo,none⟩) n vc) ⟨L,i*194+2+p,none⟩ (Rg.ae _ _ Tryz.underlying27 CP.p.cell)) ?_;go_frame;refine d4 84 (ky _ _ rfl rfl rfl) ?_;go_frame;go_upto_region 13 with (fail);refine d3 ?_;refine d5 108 (.int .i64 ((i:Nat):Int)) ?_;go_frame;refine d4 109 (g9 (.int .i64 (((i+1):Nat):Int)) .add (h:=bA _ (by omega) (by omega))) ?_;go_frame;refine d5 110 (.pointer (some ⟨tb,0,none⟩)) ?_;go_frame;refine d4 111 (aK _ rfl rfl) ?_;go_frame
       refine d4 112 (af _ rfl rfl (wH _ _)) ?_;go_frame;refine d4 113 (g8 (.int .i64 ((n:Nat):Int)) ⟨tb,0,none⟩ (ah C0.p.cell)) ?_;go_frame;refine d4 114 (g9 (.bool true) .lss (h:=aP _ f8)) ?_;go_frame;go_upto_region 14 with (fail);refine d3 ?_;refine d5 115 (.pointer (some ⟨tb,0,none⟩)) ?_;go_frame;refine d5 116 (.slice (some ⟨yb,yo,none⟩) n yc) ?_;go_frame;refine d5 117 (.pointer (some ⟨L,i*194,none⟩)) ?_;go_frame;refine d5 118 (.int .i64 ((p:Nat):Int)) ?_;go_frame;refine d4 119 (aK _ rfl rfl) ?_;go_frame;refine d4 120 (af _ rfl rfl (zT _ _ _)) ?_;go_frame;refine d4 121 (bj _ _ rfl Tryz.underlying142 qW L (i*194+66) (p) rfl rfl iV) ?_;go_frame;refine d4 122 (g8 (.slice (some ⟨zb,zo,none⟩) n zc) ⟨L,i*194+66+p,none⟩ (Rg.ae _ _ Tryz.underlying27 CB.p.cell)) ?_;go_frame
       refine f7 123 (aw 117 _ _ _ rfl rfl rfl (wI _ _)) ?_;refine (q6 YF.p BP.p GY.p (Cm.aN GV.p) bQ cC).mono ?_;rintro e1 fU ⟨mv,rfl,kM,hb⟩;refine ⟨_,rfl,?_⟩;go_frame;replace HT:=U (HT.p.up hb);replace C0:=U (C0.p.up hb);replace C1:=U (C1.p.up hb);replace YF:=U (YF.p.up hb);replace CY:=U (CY.p.up hb);replace CP:=U (CP.p.up hb);replace CB:=U (CB.p.up hb);replace BP:=U (BP.p.up hb);replace K:=U (K.p.up hb);have MV:=U kM;generalize c_ F4 fG fU=F5 at *;clear hb;refine d5 124 (.int .i64 ((i:Nat):Int)) ?_;go_frame;refine d4 125 (g9 (.int .i64 (((i+1):Nat):Int)) .add (h:=bA _ (by omega) (by omega))) ?_;go_frame;refine f7 126 (dH 92 _ _ _ _ rfl rfl rfl rfl (Mk _ _)) ?_;refine (Mm.p pA.p _ L tb _ _ _ _ _ HT.p C0.p C1.p MV.p GX.p FX.p wM.p).mono ?_;rintro e1 qd ⟨F9,T9,V9,rfl,j9,Dy,Mu⟩
       have HA:=U Mu;clear Mu;refine ⟨_,rfl,?_⟩;go_frame;clear CP;clear CB;clear CY;clear YF;clear BP;replace HT:=U Dy;replace C0:=U (C0.p.kg j9);replace C1:=U (C1.p.kg j9);replace MV:=U (MV.p.kg j9);replace K:=U (K.p.trans j9);clear j9 Dy;have hf:=iU.IZ HI.p HD.p (q:=q) (s:=s) (uq:=uq) (v:=v) (by rw [<- jk.p,<- uW.p]; exact Mo.p) (by obtain ⟨a,b⟩:=hs.p; simp only [<- jk.p]; exact b) Mp.p (by rw [<- hp.p]; exact Dt.p) Dn.p HA.p.ext HA.p.low (fun j h1 h2=>HA.p.full j h1 h2) (fun h0=>HA.p.gens _ (Gr.dC HI.p.lvl.yJ) (fun s hs=>HI.p.lvl.low h0 s (by rwa [Cm.gM (by omega)] at hs)) RX.p) HA.p.sd;have hx:=Gc.p.trans ((Cm.jh T2 i q).trans HA.p.ext);obtain ⟨nx,AW,Du,Dv,Dw⟩:=hf;have Dx:=U nx;have Gg:=U AW;have Ms:=U Dw;have HX:=U hx;have Mt:=U (show (gk - 1)+(T9 i).tried q=(T9 i).gens.length by have h1:=HN.p; have h2:=Ke.p; rw [Du,Dv]; omega)
       clear nx AW Du Dv Dw hx;go_wp2
       go_roundg (gk - 1)
       case rel=>exact ⟨_,_,_,Mt,HT,C0,C1,K,Dx,Gg,Ms,HX⟩
       case measure=>have:=Ke.p; omega
      ·have Qc:¬ ((i+1:Nat):Int)<(n:Int):=by omega
       go_upto_region 10 with (fail);refine d3 ?_;refine d5 78 (.pointer (some ⟨L,i*194,none⟩)) ?_;go_frame;refine d5 79 (.int .i64 ((p:Nat):Int)) ?_;go_frame;refine d4 80 (aK _ rfl rfl) ?_;go_frame;refine d4 81 (af _ rfl rfl (uw _ _ _)) ?_;go_frame;refine d4 82 (bj _ _ rfl Tryz.underlying142 qW L (i*194+2) (p) rfl rfl iV) ?_;go_frame;refine d4 83 (g8 (.slice (some ⟨vb,vo,none⟩) n vc) ⟨L,i*194+2+p,none⟩ (Rg.ae _ _ Tryz.underlying27 CP.p.cell)) ?_;go_frame;refine d4 84 (ky _ _ rfl rfl rfl) ?_;go_frame;go_upto_region 13 with (fail);refine d3 ?_;refine d5 108 (.int .i64 ((i:Nat):Int)) ?_;go_frame;refine d4 109 (g9 (.int .i64 (((i+1):Nat):Int)) .add (h:=bA _ (by omega) (by omega))) ?_;go_frame;refine d5 110 (.pointer (some ⟨tb,0,none⟩)) ?_;go_frame;refine d4 111 (aK _ rfl rfl) ?_;go_frame
       refine d4 112 (af _ rfl rfl (wH _ _)) ?_;go_frame;refine d4 113 (g8 (.int .i64 ((n:Nat):Int)) ⟨tb,0,none⟩ (ah C0.p.cell)) ?_;go_frame;refine d4 114 (g9 (.bool false) .lss (h:=aP _ f9)) ?_;go_frame;have hf:=iU.IZ (T4:=Cm.tick T2 i q) HI.p HD.p (q:=q) (s:=s) (uq:=uq) (v:=v) (by rw [<- jk.p,<- uW.p]; exact Mo.p) (by obtain ⟨a,b⟩:=hs.p; simp only [<- jk.p]; exact b) Mp.p (by rw [<- hp.p]; exact Dt.p) Dn.p (Ext.refl _) (fun _ _=>rfl) (fun j h1 h2=>absurd h2 (by omega)) (fun h0=>absurd h0 yF) (by rw [show n - (i+1)=0 by omega]; exact Cm.Fx.all GX.p (by have:=FX.p; rwa [show i+1=n by omega] at this));have hx:=Gc.p.trans (Cm.jh T2 i q);obtain ⟨nx,AW,Du,Dv,Dw⟩:=hf;have Dx:=U nx;have Gg:=U AW;have Ms:=U Dw;have HX:=U hx;have Mt:=U (show (gk - 1)+((Cm.tick T2 i q) i).tried q=((Cm.tick T2 i q) i).gens.length by have h1:=HN.p; have h2:=Ke.p; rw [Du,Dv]; omega)
       clear nx AW Du Dv Dw hx;go_wp2
       go_roundg (gk - 1)
       case rel=>exact ⟨_,_,_,Mt,HT,C0,C1,K,Dx,Gg,Ms,HX⟩
       case measure=>have:=Ke.p; omega
  ·have HE:k=(T1 i).orb.length:=by omega
   obtain ⟨oa,oc,lx⟩:=HT.p.Dm bF
   have Gb:wr.cell? ⟨L,i*194+1,none⟩=some (.slice oa (T1 i).orb.length oc):=by rw [ur HT.p bF (by omega),lx]
   have ly:¬ (k:Int)<((T1 i).orb.length:Int):=by omega
   have Tu:=U (kT.cmp (by rw [<- HE]; exact HD.p) HI.p.lvl);clear lx HE;go_wp2
   go_end0
   exact ⟨rfl,F1,K.p,T1,⟨V,HT.p⟩,HI.p,Tu.p⟩

theorem Tx (args:Array Value) (w:World):(callFunc 120 args).run Tryz.prog w=.ok (.enter 120 args) w:=by kernel_rfl
theorem Ty (args:Array Value) (w:World):(callFunc 121 args).run Tryz.prog w=.ok (.enter 121 args) w:=by kernel_rfl
theorem dF:(Tryz.prog.info? 41).map (fun i=>(i.zero,i.size,i.bytes))=some (some (.slice none 0 0),1,24):=by kernel_rfl
def n8 (T:aY) (i j:Nat) (r:List Nat):aY:=fun k=>if i<=k/\k<j then { T k with gens:=(T k).gens++[r] } else T k
theorem Gh (T:aY) (i:Nat) (r:List Nat):n8 T i i r=T:=by
 funext k; unfold n8; rw [if_neg (by omega)]
theorem q7 (T:aY) (i j:Nat) (r:List Nat):n8 T i j r j=T j:=by
 unfold n8; rw [if_neg (by omega)]
theorem Gi (T:aY) (i j:Nat) (r:List Nat) (h:i<=j):s4 (n8 T i j r) j r=n8 T i (j+1) r:=by
 funext k
 unfold s4
 by_cases e:k=j
 ·subst e
  rw [if_pos rfl,q7]; unfold n8; rw [if_pos (by omega)]
 ·rw [if_neg e]; unfold n8
  by_cases h2:i<=k/\k<j
  ·rw [if_pos h2,if_pos (by omega)]
  ·rw [if_neg h2,if_neg (by omega)]
theorem Kf (T:aY) (i a:Nat) (r:List Nat):n8 T i (a+1) r=Cm.fB T i a r:=by
 funext k
 unfold n8 Cm.fB
 by_cases h:i<=k/\k<=a
 ·rw [if_pos (by omega),if_pos h]
 ·rw [if_neg (by omega),if_neg h]
open Go.Proofs.Cm in
theorem Mv {i:Nat} (bQ:1<=n) (cC:n<=64) (bF:i<n) (pB:∀ k,i<=k->k<n->vG n k):Ml n i:=by
 intro F L tb w T V xv x hT dK cJ hx gx fx mz;have K:=U (KG.refl hT.jD);have HT:=U hT;have C0:=U dK;have C1:=U cJ;have X:=U hx;have GX:=U gx;have FX:=U fx;have wM:=U mz;have HCL:=U pB;have HR:=U (eF.rp fun j a b=>(mz j a b).1);obtain ⟨j_,r,hA⟩:∃ a r,Hid (dS n (bJ T) (n - i) x=(a,r)):=⟨_,_,U rfl⟩;obtain ⟨mr,lS,gr,fr,iN⟩:=nY HR.p (d:=n - i) (x:=x) (by omega) (by omega) gx (by rw [show n - (n - i)=i by omega]; exact fx);rw [hA.p] at mr lS gr fr iN;have GR:=U gr;have FR:=U fr;have uX:=U iN;replace mr:j_<=n:=mr
 replace lS:i<=j_:=by have:n - (n - i)<=j_:=lS; omega
 clear hT dK cJ hx gx fx mz pB gr fr iN
 go_enter Tryz.func92,Tryz.ntmps92
 go_upto_region 0 with (fail);refine d3 ?_;refine d5 11 (.pointer (some ⟨tb,0,none⟩)) ?_;go_frame;refine d5 12 (xv) ?_;go_frame;refine d5 13 (.int .i64 ((i:Nat):Int)) ?_;go_frame;have hsc:=Kc HT.p C0.p C1.p bQ cC X.p GX.p (by omega) FX.p HR.p;rw [hA.p] at hsc
 dsimp only at hsc
 refine f7 14 (dH 120 _ _ _ _ rfl rfl rfl rfl (Tx _ _)) ?_;refine (hsc).mono ?_;rintro e1 w1 ⟨F1,rv,rfl,ir,n_,cY,cX⟩;clear hsc cX;refine ⟨_,rfl,?_⟩;go_frame;replace HT:=U n_;replace C0:=U (C0.p.kg ir);replace C1:=U (C1.p.kg ir);replace X:=U (X.p.kg ir);replace K:=U (K.p.trans ir);have R:=U cY;clear ir n_;refine d5 10 (.tuple #[.int .i64 ((j_:Nat):Int),rv]) ?_;go_frame;refine d4 15 (i6 (.int .i64 ((j_:Nat):Int))) ?_;go_frame;refine d4 16 (i6 (rv)) ?_;go_frame;refine d6 6 (.int .i64 ((j_:Nat):Int)) ?_;go_frame;refine d6 7 (rv) ?_;go_frame;clear cY X
 by_cases han:j_=n
 ·have hae:(j_:Int)=(n:Int):=by omega
  go_upto_region 1 with (fail);refine d3 ?_;refine d5 17 (.int .i64 ((j_:Nat):Int)) ?_;go_frame;refine d5 18 (.pointer (some ⟨tb,0,none⟩)) ?_;go_frame;refine d4 19 (aK _ rfl rfl) ?_;go_frame;refine d4 20 (af _ rfl rfl (wH _ _)) ?_;go_frame;refine d4 21 (g8 (.int .i64 ((n:Nat):Int)) ⟨tb,0,none⟩ (ah C0.p.cell)) ?_;go_frame;refine d4 22 (g9 (.bool true) .eql (h:=fA _ f8)) ?_;go_frame;have HA:=U (s6.same wM.p bF GX.p FX.p (by rw [hA.p]; exact han));go_wp2
  first
  | go_end0
  | refine bodyPost_ret (results_none rfl _ _ _) rfl ?_
  exact ⟨rfl,_,K.p,T,⟨V,HT.p⟩,HA.p⟩
 ·have hae:¬ (j_:Int)=(n:Int):=by omega
  have I2:j_<n:=by omega
  go_upto_region 1 with (fail);refine d3 ?_;refine d5 17 (.int .i64 ((j_:Nat):Int)) ?_;go_frame;refine d5 18 (.pointer (some ⟨tb,0,none⟩)) ?_;go_frame;refine d4 19 (aK _ rfl rfl) ?_;go_frame;refine d4 20 (af _ rfl rfl (wH _ _)) ?_;go_frame;refine d4 21 (g8 (.int .i64 ((n:Nat):Int)) ⟨tb,0,none⟩ (ah C0.p.cell)) ?_;go_frame;refine d4 22 (g9 (.bool false) .eql (h:=fA _ f9)) ?_;go_frame;have ny:=C0.p.cell;go_upto_region 2 with (fail);go_wp2
  go_loopw [8] (fun iv wr=>∃ (j:Nat) (F2:Nat->Prop) (V2:Nat->LV),iv=.int .i64 j/\i<=j/\j<=j_+1/\Hid (aR F2 L n wr (n8 T i j r) V2)/\Hid (CF F2 wr tb 0 (.int .i64 ((n:Nat):Int)))/\Hid (CF F2 wr tb 1 (.slice (some ⟨L,0,none⟩) n n))/\Hid (KG F w F2 wr)/\Hid (FP F2 wr rv r)) (fun iv _=>j_+1 - (intOf iv).toNat)
  case atStart=>exact ⟨i,_,V,rfl,Nat.le_refl _,by omega,U (by rw [Gh]; exact HT.p),C0,C1,K,R⟩
  case round =>
   clear HT C0 C1 K R ny;obtain ⟨j,F2,V2,rfl,Dz,CA,HT,C0,C1,K,R⟩:=hrel
   by_cases hja:j<=j_
   ·have Gj:(j:Int)<=(j_:Int):=by omega
    have pC:j<n:=by omega
    obtain ⟨rb,ro,rc,rfl⟩:=R.p.dQ GR.p bQ;have gD:=HT.p.Sg pC;rw [q7] at gD;obtain ⟨ga,gc,Dp⟩:=gD;have CG:=U (CL.mk (show wr.cell? ⟨L,j*194,none⟩=some (.slice ga (T j).gens.length gc) by rw [Mc HT.p pC rfl,Dp]) HT.p.lt);have iO:(T j).gens.length<=4096:=Nat.le_trans (wM.p j Dz pC).2.2 (IX (fun j a b=>(wM.p j a b).1) Dz cC);go_upto_region 5 with (fail);have aq:Below wr.heap.size wr wr.drew:=(Below.refl _ _).drew;replace HT:=U (HT.p.up aq);replace C0:=U (C0.p.up aq);replace C1:=U (C1.p.up aq);replace R:=U (R.p.up aq);replace CG:=U (CG.p.up aq);replace K:=U (K.p.up aq);generalize c_ F2 wr wr.drew=F1 at *;clear aq;refine Rg.Any.begin (S:=Rg.aG 16 (fun W:World=>W.cell? ⟨tb,1,none⟩=some (.slice (some ⟨L,0,none⟩) n n)/\W.cell? ⟨L,j*194,none⟩=some (.slice ga (T j).gens.length gc)) (fun _=>True)) mix ?_
    generalize wr.drew=cW at *;have hS:∀ (l:Array Bool) W,(fun W:World=>W.cell? ⟨tb,1,none⟩=some (.slice (some ⟨L,0,none⟩) n n)/\W.cell? ⟨L,j*194,none⟩=some (.slice ga (T j).gens.length gc)) W->Rg.aG 16 (fun W:World=>W.cell? ⟨tb,1,none⟩=some (.slice (some ⟨L,0,none⟩) n n)/\W.cell? ⟨L,j*194,none⟩=some (.slice ga (T j).gens.length gc)) (fun _=>True) l W:=fun l W h=>⟨.inr h,trivial⟩;have bW:∀ (l:Array Bool) W,l.getD 16 false=true->Rg.aG 16 (fun W:World=>W.cell? ⟨tb,1,none⟩=some (.slice (some ⟨L,0,none⟩) n n)/\W.cell? ⟨L,j*194,none⟩=some (.slice ga (T j).gens.length gc)) (fun _=>True) l W:=fun l W h=>⟨.inl h,trivial⟩;have hI:(fun W:World=>W.cell? ⟨tb,1,none⟩=some (.slice (some ⟨L,0,none⟩) n n)/\W.cell? ⟨L,j*194,none⟩=some (.slice ga (T j).gens.length gc)) cW:=⟨C1.p.cell,CG.p.cell⟩
    refine d8 0 16 (.pointer (some ⟨tb,0,none⟩)) 29 (hS _ _ hI) ?_;go_frame;refine d7 1 16 (.pointer (some ⟨tb,0,none⟩)) 30 rfl rfl (.inl ⟨rfl,fun w _=>aK _ rfl rfl⟩) (hS _ _ hI) ?_;go_frame;refine d7 2 16 (.pointer (some ⟨tb,1,none⟩)) 31 rfl rfl (.inl ⟨rfl,fun w _=>af _ rfl rfl (ji _ _)⟩) (hS _ _ hI) ?_;go_frame;refine i7 3 16 (.slice (some ⟨L,0,none⟩) n n) 32 rfl rfl (i9 ⟨tb,1,none⟩ (fun W hW=>Rg.ae _ _ Tryz.underlying135 hW.1)) (hS _ _ hI) ?_;go_frame;refine d8 4 16 (.int .i64 ((j:Nat):Int)) 33 (hS _ _ hI) ?_;go_frame;refine d8 5 16 (.pointer (some ⟨tb,0,none⟩)) 34 (hS _ _ hI) ?_;go_frame;refine d7 6 16 (.pointer (some ⟨tb,0,none⟩)) 35 rfl rfl (.inl ⟨rfl,fun w _=>aK _ rfl rfl⟩) (hS _ _ hI) ?_;go_frame;refine d7 7 16 (.pointer (some ⟨tb,1,none⟩)) 36 rfl rfl (.inl ⟨rfl,fun w _=>af _ rfl rfl (ji _ _)⟩) (hS _ _ hI) ?_;go_frame
    refine i7 8 16 (.slice (some ⟨L,0,none⟩) n n) 37 rfl rfl (i9 ⟨tb,1,none⟩ (fun W hW=>Rg.ae _ _ Tryz.underlying135 hW.1)) (hS _ _ hI) ?_;go_frame;refine d8 9 16 (.int .i64 ((j:Nat):Int)) 38 (hS _ _ hI) ?_;go_frame;refine d7 10 16 (.pointer (some ⟨L,j*194,none⟩)) 39 rfl rfl (.inl ⟨rfl,fun w _=>bD _ _ rfl Tryz.underlying135 fE L (n) (n) (j) rfl rfl pC⟩) (hS _ _ hI) ?_;go_frame;refine d7 11 16 (.pointer (some ⟨L,j*194,none⟩)) 40 rfl rfl (.inl ⟨rfl,fun w _=>af _ rfl rfl (Dj _ _ _)⟩) (hS _ _ hI) ?_;go_frame;refine i7 12 16 (.slice ga (T j).gens.length gc) 41 rfl rfl (i9 ⟨L,j*194,none⟩ (fun W hW=>Rg.ae _ _ Tryz.underlying41 hW.2)) (hS _ _ hI) ?_;go_frame;refine d8 13 16 (.slice (some ⟨rb,ro,none⟩) n rc) 42 (hS _ _ hI) ?_;go_frame;have yN:=(Below.refl cW.heap.size cW).alloc (Nat.le_refl _) (.cells #[.slice (some ⟨rb,ro,none⟩) n rc] 27)
    have AX:=(show _/\_ from ⟨(Below.cell (p:=⟨tb,1,none⟩) yN C1.p.lt).trans C1.p.cell,(Below.cell (p:=⟨L,j*194,none⟩) yN CG.p.lt).trans CG.p.cell⟩);refine i8 14 43 rfl rfl (Rg.aC _ _ _ rfl (.slice (some ⟨rb,ro,none⟩) n rc) rfl (cG cW _ ⟨_,_,_,rfl⟩)) (hS _ _ AX) ?_;go_frame;obtain ⟨a9,c9,X9,r1,r2,r3,V5,r4,r5⟩:=HT.p.WG pC (o:=j*194) rfl R.p ⟨_,_,_,rfl⟩ (by rw [q7]; omega) 41;rw [Gi _ _ _ _ Dz] at r4;rw [q7] at r1 r4 r5;rw [Dp] at r1 r2;have Mw:=r5.cell (b:=tb) (o:=1) C1.p.J_ C1.p.lt
    rw [World.cell?_setCell_other (h:=by intro e; injection e with e1 _; exact HT.p.LF (e1▸C1.p.J_)),C1.p.cell] at Mw
    have mA:=(show _/\_ from ⟨Mw,r2⟩);refine i8 15 44 rfl rfl (Rg.bu _ _ _ rfl rfl rfl r1) (hS _ _ mA) ?_;go_frame;refine i8 16 45 rfl rfl (bD _ _ rfl Tryz.underlying135 fE L (n) (n) (j) rfl rfl pC) (bW _ _ rfl) ?_;go_frame;refine d7 17 16 (.pointer (some ⟨L,j*194,none⟩)) 46 rfl rfl (.inl ⟨rfl,fun w _=>af _ rfl rfl (Dj _ _ _)⟩) (bW _ _ rfl) ?_;go_frame;refine Rg.Any.one (i:=18) (by kernel_rfl) (Rg.Any.cA none rfl rfl rfl (Rg.ai _ _ _ rfl _ rfl _ rfl (Rg.bn _ dF r2 r3)) (bW _ _ rfl) ?_);go_frame;refine Rg.Any.done (by kernel_rfl) ?_ _;clear bW;clear hS mA;have fF:=KG.Dh (KG.refl HT.p.jD) r5;generalize X9.setCell ⟨L,j*194,none⟩ (.slice a9 ((T j).gens.length+1) c9)=Qi at *;replace C0:=U (C0.p.kg fF);replace C1:=U (C1.p.kg fF);replace R:=U (R.p.kg fF);replace K:=U (K.p.trans fF)
    replace HT:=U r4;clear fF r1 r2 r3 r4 r5 CG Dp;go_wp2
    go_roundw
    case rel=>exact ⟨j+1,_,V5,by go_num,by omega,by omega,HT,C0,C1,K,R⟩
    case measure=>simp [intOf]; omega
   ·have Gj:¬ (j:Int)<=(j_:Int):=by omega
    obtain rfl:j=j_+1:=by omega
    replace HT:=U (by have:=HT.p; rwa [Kf] at this);have HI:=U (kU.start (r:=r) wM.p lS);go_wp2;simp only [show ((j_:Nat):Int)=(((j_+1:Nat):Int) - 1) by omega]
    go_loopw [9] (fun kv wr=>∃ (k:Nat) (F3:Nat->Prop) (T3:aY) (V3:Nat->LV),kv=.int .i64 (((k:Nat):Int) - 1)/\i<=k/\k<=j_+1/\Hid (aR F3 L n wr T3 V3)/\Hid (CF F3 wr tb 0 (.int .i64 ((n:Nat):Int)))/\Hid (CF F3 wr tb 1 (.slice (some ⟨L,0,none⟩) n n))/\Hid (KG F w F3 wr)/\Hid (kU n i j_ k T T3 r)) (fun kv _=>(intOf kv+1).toNat - i)
    case atStart=>exact ⟨j_+1,F2,_,V2,rfl,by omega,Nat.le_refl _,HT,C0,C1,K,HI⟩
    case round =>
     clear HT C0 C1 K R HI Gj Dz CA hja;obtain ⟨k0,F3,T3,V3,rfl,ir,cO,HT,C0,C1,K,HI⟩:=hrel
     by_cases AD:i<k0
     ·obtain ⟨m,rfl⟩:∃ m,k0=m+1:=⟨k0 - 1,by omega⟩
      simp only [show (((m+1:Nat):Int) - 1)=(m:Int) by omega]
      have hmi:(i:Int)<=(m:Int):=by omega
      have Tz:m<n:=by omega
      have HLV:=U (HI.p.lvl wM.p (by omega) (by omega) I2 GR.p FR.p);have HUP:=U HI.p.up
      have yO:=U (show (T3 m).gens.length<=5000 by
       have h1:=(wM.p m (by omega) Tz).2.2;have h2:AM n T m<=4096:=IX (fun j a b=>(wM.p j a b).1) (by omega) cC;rw [HI.p.put m (by omega) (by omega),gJ ⟨by omega,by omega⟩]
       simp; omega)
      have W5:=U (show i<=m by omega);have HMN:=U Tz;have HMA:=U (show m<=j_ by omega);go_upto_region 9 with (fail);refine d3 ?_;refine d5 53 (.pointer (some ⟨tb,0,none⟩)) ?_;go_frame;refine d5 54 (.int .i64 ((m:Nat):Int)) ?_;go_frame;refine f7 55 (aw 121 _ _ _ rfl rfl rfl (Ty _ _)) ?_;refine (HCL.p m W5.p HMN.p _ L tb _ _ _ HT.p C0.p C1.p HUP.p HLV.p yO.p).mono ?_;rintro e1 iE ⟨F9,T9,V9,rfl,j9,Dy,Mw,W6⟩;have Mx:=U (HI.p.step wM.p W5.p HMA.p I2 (uX.p I2) Mw W6);clear Mw W6;refine ⟨_,rfl,?_⟩;go_frame;replace HT:=U Dy;replace C0:=U (C0.p.kg j9);replace C1:=U (C1.p.kg j9);replace K:=U (K.p.trans j9);clear j9 Dy;go_wp2
      go_roundw
      case rel=>exact ⟨m,_,T9,V9,by go_num,by omega,by omega,HT,C0,C1,K,Mx⟩
      case measure=>simp [intOf]; omega
     ·obtain rfl:k0=i:=by omega
      have hmi:¬ (k0:Int)<=((k0:Int) - 1):=by omega
      have mB:=U (kU.added (i:=k0) wM.p bF GX.p FX.p (by rw [hA.p]; exact HI.p) (by rw [hA.p]; exact I2));go_wp2
      go_end0
      exact ⟨rfl,F3,K.p,T3,⟨V3,HT.p⟩,mB.p⟩
end Go.Proofs.YtpedbljnhnoohaaGreat
namespace Go.Proofs.Cm
open Go.Proofs
def My:Lv:={ gens:=[],orb:=[],rep:=fun _=>none,tried:=fun _=>0 }
def Mz (n j:Nat):Lv:={ gens:=[],orb:=[j],rep:=fun z=>if z=j then some (Ma.bh n) else none,tried:=fun _=>0 }
def kW (n k:Nat):aY:=fun j=>if j<k then Mz n j else My
theorem Gk (hj:j<n):Full n (kW n n) j:=by
 have e:kW n n j=Mz n j:=if_pos hj
 have hr:∀ p u,(Mz n j).rep p=some u->p=j/\u=Ma.bh n:=fun p u h=>by
  have h:(if p=j then some (Ma.bh n) else none)=some u:=h
  by_cases e:p=j
  ·rw [if_pos e] at h; injection h with h; exact ⟨e,h.symm⟩
  ·rw [if_neg e] at h; cases h
 refine ⟨⟨?_,?_,?_,?_,?_,?_,?_,?_,?_,?_,?_,?_,?_,?_⟩,?_,?_⟩ <;> (try rw [e])
 ·intro s hs; cases hs
 ·intro s hs; cases hs
 ·intro h0 s hs
  have e2:kW n n (j+1)=Mz n (j+1):=if_pos h0;rw [e2] at hs; cases hs
 ·exact if_pos rfl
 ·intro p u h; obtain ⟨_,rfl⟩:=hr p u h; exact eL n
 ·intro p u h; obtain ⟨_,rfl⟩:=hr p u h; exact Fx.one (by omega)
 ·intro p u h; obtain ⟨rfl,rfl⟩:=hr p u h; exact cF hj
 ·intro p u h; obtain ⟨rfl,_⟩:=hr p u h; exact hj
 ·intro p u h; obtain ⟨_,rfl⟩:=hr p u h; exact .one
 ·exact List.nodup_cons.2 ⟨by simp,List.nodup_nil⟩
 ·intro p
  constructor
  ·intro h
   have h:p∈[j]:=h;rw [List.mem_singleton] at h; subst h;exact ⟨_,if_pos rfl⟩
  ·rintro ⟨u,h⟩
   obtain ⟨rfl,_⟩:=hr p u h;exact List.mem_singleton.2 rfl
 ·intro q; exact Nat.le_refl _
 ·intro p _; rfl
 ·intro q u k hk; exact absurd hk (Nat.not_lt_zero _)
 ·intro q u h; rw [e]; rfl
 ·exact Nat.zero_le _
structure jU (n:Nat) (gs:List Nat->Prop) (T:aY):Prop where
 full:∀ j,j<n->Full n T j
 sub:∀ s∈(T 0).gens,Gr n gs s
 all:∀ s,gs s->Sd n (bJ T) n s
theorem jU.new:jU n (fun _=>False) (kW n n):=by
 refine ⟨fun j hj=>Gk hj,fun s hs=>?_,fun s h=>absurd h id⟩;unfold kW at hs
 by_cases h:0<n
 ·rw [if_pos h] at hs; cases hs
 ·rw [if_neg h] at hs; cases hs
theorem jU.add {gs gs':List Nat->Prop} {T T':aY} {x:List Nat} (h:jU n gs T) (hg:∀ s,gs' s↔gs s∨s=x) (eJ:∀ s,gs' s->Gd n s) (ha:s6 n 0 T T' x):jU n gs' T':=by
 have hG:bT n (Gr n gs'):=Gr.dC eJ;refine ⟨fun j hj=>ha.full j (Nat.zero_le _) hj,ha.gens _ hG (fun s hs=>Gr.sub hG (fun z hz=>.gen _ ((hg z).2 (.inl hz))) (h.sub s hs)) (.gen _ ((hg x).2 (.inr rfl))),fun s hs=>?_⟩
 rcases (hg s).1 hs with hs | rfl
 ·exact Sd.mono (fun j p u _ e=>ha.ext.rep j p u e) (h.all s hs)
 ·exact by have:=ha.sd; rwa [Nat.sub_zero] at this
theorem jU.Db {n:Nat} {gs:List Nat->Prop} {T:aY} (h:jU n gs T) (hn:0<n) (eJ:∀ s,gs s->Gd n s):pL n (Gr n gs) (bJ T):=by
 have hT:sU n 0 (fun i s=>s∈(T i).gens) (bJ T):=eF.Tn fun j _ b=>⟨(h.full j b).1,(h.full j b).2.1⟩;have h1:=hT.Db hn;have g0:∀ s,s∈(T 0).gens->Gd n s:=(h.full 0 hn).1.yJ
 have e:∀ x,Gr n gs x↔Gr n (fun s=>s∈(T 0).gens) x:=fun x=>by
  constructor
  ·intro hx
   refine Gr.sub (Gr.dC g0) (fun s hs=>?_) hx;exact hT.gr (i:=0) (Nat.le_refl _) hn (d:=n) (by omega) (eJ s hs) (h.all s hs) (by omega)
  ·intro hx
   exact Gr.sub (Gr.dC eJ) h.sub hx
 exact ⟨h1.rp,fun i p u hi hu=>(e u).2 (h1.mem i p u hi hu),fun i x hi hx=>h1.all i x hi ⟨(e x).1 hx.1,hx.2⟩⟩
end Go.Proofs.Cm
namespace Go.Proofs.YtpedbljnhnoohaaGreat
open Go.RowKit
open Go.Proofs
section
open Go.Proofs.Cm (Lv aY bJ)
attribute [local irreducible] Go.Calls
theorem DA {n:Nat} (bQ:1<=n) (cC:n<=64):∀ d i,n - i<=d->i<n->Ml n i/\∀ k,i<=k->k<n->vG n k
 | 0,i,hd,hi=>by omega
 | d+1,i,hd,hi=>by
  have ih:=DA bQ cC d
  have hc:∀ k,i<=k->k<n->vG n k:=fun k h1 h2=>by
   by_cases e:k=i
   ·subst e
    exact F_ bQ cC h2 fun h=>(ih (k+1) (by omega) h).1
   ·exact (ih (i+1) (by omega) (by omega)).2 k (by omega) h2
  exact ⟨Mv bQ cC hi hc,hc⟩
def s9:Array Value:=(Array.range 194).map (fun m=>if m<130 then Value.slice none 0 0 else .int .i64 0)
theorem Gl:(Tryz.prog.info? 145).map (fun i=>(i.zero.map Value.cells,i.size,i.bytes))=some (some s9,194,3632):=by kernel_rfl
theorem Qj {m:Nat} (hm:m<194):s9[m]! = if m<130 then Value.slice none 0 0 else .int .i64 0:=by
 unfold s9;simp [hm]
theorem Kg (n:Nat) (hn:n<=1000000) (w:World):(Instr.makeSlice 135 (.int .i64 (n:Int)) (.int .i64 (n:Int))).run Tryz.prog w=.ok (.slice (some ⟨w.heap.size,0,none⟩) n n) (w.alloc (.cells (madeCells s9 (n*194)) 145)):=by
 obtain ⟨i,hi,hz⟩:=Option.map_eq_some_iff.1 Gl;simp only [Prod.mk.injEq] at hz;obtain ⟨h1,h2,h3⟩:=hz;obtain ⟨z,hz,h1⟩:=Option.map_eq_some_iff.1 h1;have hr:=run_make (P:=Tryz.prog) w 135 145 i z Tryz.underlying135 hi hz .i64 .i64 (n:Int) (n:Int) (by omega) (Int.le_refl _) (by rw [h3]; omega) (by omega);rw [hr,h2,h1];simp
def pP:LV:={ g:=.slice none 0 0,us:=[],o:=.slice none 0 0,t:=fun _=>.slice none 0 0,b:=fun _=>.slice none 0 0 }
theorem aR.start (n:Nat) (w:World) (hF:∀ k,F k->k<w.heap.size):aR F w.heap.size n (w.alloc (.cells (madeCells s9 (n*194)) 145)) (Cm.kW n 0) (fun _=>pP):=by
 have hN:∀ j,Cm.kW n 0 j=Cm.My:=fun j=>if_neg (Nat.not_lt_zero _);refine ⟨fun k hk=>by have:=hF k hk; simp; omega,fun h=>by have:=hF _ h; omega,?_,fun i hi=>?_,fun i j hi hj hne k h1 h2=>?_⟩
 ·have h:=World.rowIs_alloc w (madeCells s9 (n*194)) 145 (fun j=>cont (Cm.kW n 0 (j / 194)) pP (j % 194)) (fun j hj=>?_)
  ·rwa [size_madeCells] at h
  ·have hs:s9.size=194:=by unfold s9; simp
   rw [size_madeCells] at hj;have hm:j % 194<194:=Nat.mod_lt _ (by decide);rw [hN]
   have e:(madeCells s9 (n*194))[j]?=some (s9[j % 194]!):=by
    unfold madeCells;simp [hj,hs]
   rw [e,Qj hm];unfold cont
   congr 1
   by_cases h0:j % 194=0
   ·simp [h0,pP]
   by_cases h1:j % 194=1
   ·simp [h1,pP]
   by_cases h2:j % 194<66
   ·simp [h0,h1,h2,pP]; omega
   by_cases h3:j % 194<130
   ·simp [h0,h1,h2,h3,pP]
   ·simp [h0,h1,h2,h3,Cm.My]
 ·rw [hN]
  refine ⟨?_,⟨rfl,fun i h=>absurd h (Nat.not_lt_zero _)⟩,?_,fun k h=>by simp [pP,Value.ownBlock] at h,fun k h=>by simp [pP,Value.ownBlock] at h,fun k h=>by simp [pP,Value.ownBlock] at h,fun p x _ h=>by simp [Cm.My] at h,fun p _ _=>⟨rfl,rfl⟩⟩
  ·exact World.ownsRow_nil ..
  ·exact World.ownsRow_nil ..
 ·rcases h1 with h1 | h1 <;> simp [pP,Value.ownBlock] at h1
def zV (T:aY) (i p:Nat):aY:=fun j=>if j=i then { T j with orb:=[p] } else T j
theorem Gm (n k:Nat):iC (zV (Cm.kW n k) k k) k k (Ma.bh n)=Cm.kW n (k+1):=by
 funext j
 unfold iC zV Cm.kW
 by_cases e:j=k
 ·subst e
  simp [Cm.My,Cm.Mz]
 ·by_cases h:j<k
  ·rw [if_neg e,if_neg e,if_pos h,if_pos (by omega)]
  ·rw [if_neg e,if_neg e,if_neg h,if_neg (by omega)]
theorem aR.W7 {T:aY} {V:Nat->LV} (h:aR F L n w T V) {i o:Nat} (hi:i<n) (ho:o=i*194+1) (p:Nat) :
  (∃ u,(w.alloc (.cells #[.int .i64 ((p:Nat):Int)] 3)).cell? ⟨L,o,none⟩=some u)/\(w.alloc (.cells #[.int .i64 ((p:Nat):Int)] 3)).frozen? ⟨L,o,none⟩=false /\
  ∃ V',aR F L n ((w.alloc (.cells #[.int .i64 ((p:Nat):Int)] 3)).setCell ⟨L,o,none⟩ (.slice (some ⟨w.heap.size,0,none⟩) 1 1)) (zV T i p) V'/\KF F w ((w.alloc (.cells #[.int .i64 ((p:Nat):Int)] 3)).setCell ⟨L,o,none⟩ (.slice (some ⟨w.heap.size,0,none⟩) 1 1)):=by
 subst ho;have hv:=h.lv i hi;have hb:Below w.heap.size w (w.alloc (.cells #[.int .i64 ((p:Nat):Int)] 3)):=(Below.refl _ _).alloc (Nat.le_refl _) _;have ir:Rg.Kp (fun _=>False) w (w.alloc (.cells #[.int .i64 ((p:Nat):Int)] 3)):=Rg.Kp.az hb
 have dR:(w.alloc (.cells #[.int .i64 ((p:Nat):Int)] 3)).heap.size=w.heap.size+1:=by simp
 have cr:=lQ h.row ir id;have bY:=World.ownsRow_lit (base:=0) (e:=3) (size:=1) w #[.int .i64 ((p:Nat):Int)] 1 (Nat.zero_le _) (by unfold maxLen; omega) rfl;generalize (w.alloc (.cells #[.int .i64 ((p:Nat):Int)] 3))=X at *
 refine ⟨⟨_,(hb.cell (p:=⟨L,i*194+1,none⟩) h.lt).trans (ur h hi rfl)⟩,cr.frozen _,fun j=>if j=i then { V i with o:=.slice (some ⟨w.heap.size,0,none⟩) 1 1 } else V j,?_⟩
 have uu:=IY (T:=T) (T':=zV T i p) (V:=V) (V':=fun j=>if j=i then { V i with o:=.slice (some ⟨w.heap.size,0,none⟩) 1 1 } else V j) (x:=.slice (some ⟨w.heap.size,0,none⟩) 1 1)
  (fun k hk=>by have:=h.jD k hk; omega) h.LF cr (fun j hj hne=>(h.lv j hj).kp ir (fun _ _=>id) (fun _ _=>id))
  (fun a b ha hb eX _ _=>h.jE a b ha hb eX) hi (m:=1) (by omega) rfl (fun j hj=>⟨if_neg hj,if_neg hj⟩) ?_ ?_ ?_
 ·exact ⟨uu.1,Rg.Kp.trans (Rg.Kp.az hb) uu.2 (fun _ _ e=>e)⟩
 ·intro m' qZ
  simp only [if_true,zV];unfold cont
  by_cases h0:m'=0
  ·simp [h0]
  by_cases h1:m'=1
  ·simp [h1]
  ·simp [h0,h1]
 ·simp only [if_true,zV]
  have uU:=hv.kp ir (fun _ _=>id) (fun _ _=>id);have aE:=hv.lt;refine ⟨uU.pN,uU.Di,bY,uU.gF,?_,?_,uU.some_,uU.none_⟩
  ·intro k e
   have e:w.heap.size=k:=by simpa [Value.ownBlock] using e
   subst e;exact ⟨fun hf=>by have:=h.jD _ hf; omega,by have:=h.lt; omega⟩
  ·intro k e e2
   have e2:w.heap.size=k:=by simpa [Value.ownBlock] using e2
   have:=aE k (.inl e); omega
 ·intro j k hj hne e
  simp only [if_true] at e
  rcases e with e | e
  ·exact h.jE i j hi hj (Ne.symm hne) k (.inl e)
  ·have e:w.heap.size=k:=by simpa [Value.ownBlock] using e
   intro e2; have:=(h.lv j hj).lt k e2; omega

theorem MA (args:Array Value) (w:World):(callFunc 119 args).run Tryz.prog w=.ok (.enter 119 args) w:=by kernel_rfl
theorem yP {o:Oper} {a:Act} {n:Int} {ad:Option Addr} {m c:Nat} (x y:Operand) (ho:o.op=.build 137 #[(0,x),(1,y)]) (hx:a.eval x=.int .i64 n) (hy:a.eval y=.slice ad m c) :
  (execOp a.eval o).run Tryz.prog w=.ok (.value (.agg #[.int .i64 n,.slice ad m c])) w:=by
 unfold execOp;simp only [ho,Sem.run_bind,Sem.run_pure];simp only [List.map_toArray,List.map_cons,List.map_nil,hx,hy]
 have h:(Instr.build 137 #[(0,.int .i64 n),(1,.slice ad m c)]).run Tryz.prog w=.ok (.agg #[.int .i64 n,.slice ad m c]) w:=by kernel_rfl
 first | (rw [h]; rfl) | (erw [h]; rfl)
theorem s_ {o:Oper} {a:Act} (t:TypeId) (x y:Operand) (ho:o.op=.makeSlice t x y) (n m:Value) (hx:a.eval x=n) (hy:a.eval y=m) (hr:(Instr.makeSlice t n m).run Tryz.prog w=.ok v w'):(execOp a.eval o).run Tryz.prog w=.ok (.value v) w':=by
 unfold execOp;simp [ho,hx,hy,hr,Result.andThen]
theorem yQ (bQ:1<=n) (cC:n<=64) (w:World) :
  Calls Tryz.prog 91 #[.int .i64 ((n:Nat):Int)] w fun e w'=>∃ (tb L:Nat) (F':Nat->Prop) (V':Nat->LV),e=.returned (.pointer (some ⟨tb,0,none⟩))/\KG (fun k=>k<w.heap.size) w F' w'/\aR F' L n w' (Cm.kW n n) V'/\CF F' w' tb 0 (.int .i64 ((n:Nat):Int))/\CF F' w' tb 1 (.slice (some ⟨L,0,none⟩) n n):=by
 have AY:=aR.start (F:=fun k=>k<w.heap.size) n w (fun _ h=>h);have kq:Below w.heap.size w (w.alloc (.cells (madeCells s9 (n*194)) 145)):=(Below.refl _ _).alloc (Nat.le_refl _) _
 have cN:(w.alloc (.cells (madeCells s9 (n*194)) 145)).heap.size=w.heap.size+1:=by simp
 have gB:=Kg n (by omega) w
 go_enter Tryz.func91,Tryz.ntmps91
 go_upto_region 1 with (fail);refine d3 ?_;refine d5 6 (.int .i64 ((n:Nat):Int)) ?_;go_frame;refine d5 7 (.int .i64 ((n:Nat):Int)) ?_;go_frame;refine d4 8 (s_ _ _ _ rfl _ _ rfl rfl gB) ?_;go_frame;generalize w.alloc (.cells (madeCells s9 (n*194)) 145)=w1 at *;refine d4 9 (yP _ _ rfl rfl rfl) ?_;go_frame;clear gB;have cX:Below w1.heap.size w1 (w1.alloc (.cells #[.int .i64 ((n:Nat):Int),.slice (some ⟨w.heap.size,0,none⟩) n n] 137)):=(Below.refl _ _).alloc (Nat.le_refl _) _
 have bs:(w1.alloc (.cells #[.int .i64 ((n:Nat):Int),.slice (some ⟨w.heap.size,0,none⟩) n n] 137)).heap.size=w1.heap.size+1:=by simp
 have TA:∀ o,(w1.alloc (.cells #[.int .i64 ((n:Nat):Int),.slice (some ⟨w.heap.size,0,none⟩) n n] 137)).cell? ⟨w1.heap.size,o,none⟩=(#[.int .i64 ((n:Nat):Int),.slice (some ⟨w.heap.size,0,none⟩) n n]:Array Value)[o]?:=fun o=>Rg.aI ..;refine d4 10 (Rg.bq _ _ rfl rfl) ?_;go_frame;generalize w1.alloc (.cells #[.int .i64 ((n:Nat):Int),.slice (some ⟨w.heap.size,0,none⟩) n n] 137)=w2 at *;refine d6 3 (.pointer (some ⟨w1.heap.size,0,none⟩)) ?_;go_frame;have HT:=U (AY.up cX);have TB:c_ (fun k=>k<w.heap.size) w1 w2 w1.heap.size:=.inr ⟨Nat.le_refl _,by omega⟩;have C0:=U (show CF _ _ w1.heap.size 0 (.int .i64 ((n:Nat):Int)) from ⟨TA 0,TB,by omega⟩);have C1:=U (show CF _ _ w1.heap.size 1 (.slice (some ⟨w.heap.size,0,none⟩) n n) from ⟨TA 1,TB,by omega⟩)
 have K:=U (show KG (fun k=>k<w.heap.size) w (c_ (fun k=>k<w.heap.size) w1 w2) w2 from ⟨fun k hk=>.inl hk,fun k hk=>by rcases hk with hk | hk <;> omega,KF.az (kq.trans ⟨cX.1,cX.2,cX.3,cX.4,fun k hk=>cX.5 k (by omega)⟩)⟩)
 generalize c_ (fun k=>k<w.heap.size) w1 w2=F0 at HT C0 C1 K;clear TB;generalize w1.heap.size=tb at *;obtain ⟨L,hL⟩:∃ L,w.heap.size=L:=⟨_,rfl⟩;rw [hL] at HT C1 ⊢;clear AY kq cN cX bs TA;go_upto_region 2 with (fail);refine d3 ?_;refine d5 11 (.pointer (some ⟨tb,0,none⟩)) ?_;go_frame;refine d4 12 (aK _ rfl rfl) ?_;go_frame;refine d4 13 (af _ rfl rfl (ji _ _)) ?_;go_frame;refine d4 14 (g8 (.slice (some ⟨L,0,none⟩) n n) ⟨tb,1,none⟩ (Rg.ae _ _ Tryz.underlying135 C1.p.cell)) ?_;go_frame;refine d4 15 (i3 Tryz.underlying135) ?_;go_frame;refine d5 16 (.int .i64 ((0:Nat):Int)) ?_;go_frame;go_wp2
 go_loopw [16] (fun kv wr=>∃ (k:Nat) (F1:Nat->Prop) (V1:Nat->LV),kv=.int .i64 k/\k<=n/\Hid (aR F1 L n wr (Cm.kW n k) V1)/\Hid (CF F1 wr tb 0 (.int .i64 ((n:Nat):Int)))/\Hid (CF F1 wr tb 1 (.slice (some ⟨L,0,none⟩) n n))/\Hid (KG (fun k=>k<w.heap.size) w F1 wr)) (fun kv _=>n - (intOf kv).toNat)
 case atStart=>exact ⟨0,F0,_,rfl,Nat.zero_le _,HT,C0,C1,K⟩
 case round =>
  clear HT C0 C1 K;obtain ⟨k,F0,V1,rfl,hk,HT,C0,C1,K⟩:=hrel
  by_cases cg:k<n
  ·have ly:(k:Int)<(n:Int):=by omega
   have I3:k<64:=by omega
   go_upto_region 5 with (fail);refine d3 ?_;refine d5 19 (.pointer (some ⟨tb,0,none⟩)) ?_;go_frame;refine d4 20 (aK _ rfl rfl) ?_;go_frame;refine d4 21 (af _ rfl rfl (ji _ _)) ?_;go_frame;refine d4 22 (g8 (.slice (some ⟨L,0,none⟩) n n) ⟨tb,1,none⟩ (Rg.ae _ _ Tryz.underlying135 C1.p.cell)) ?_;go_frame;refine d5 23 (.int .i64 ((k:Nat):Int)) ?_;go_frame;refine d4 24 (bD _ _ rfl Tryz.underlying135 fE L (n) (n) (k) rfl rfl cg) ?_;go_frame;refine d6 5 (.pointer (some ⟨L,k*194,none⟩)) ?_;go_frame;go_upto_region 6 with (fail);refine d3 ?_;refine d5 25 (.pointer (some ⟨L,k*194,none⟩)) ?_;go_frame;refine d5 26 (.int .i64 ((k:Nat):Int)) ?_;go_frame;refine d4 27 (Rg.aC _ _ _ rfl (.int .i64 ((k:Nat):Int)) rfl (j8 wr _)) ?_;go_frame;obtain ⟨⟨u5,r2⟩,r3,V5,r4,r5⟩:=HT.p.W7 cg (o:=k*194+1) rfl k
   refine d4 28 (aK _ rfl rfl) ?_;go_frame;refine d4 29 (af _ rfl rfl (zS _ _ _)) ?_;go_frame;refine Rg.aD none rfl rfl (Rg.ai _ _ _ rfl _ rfl _ rfl (Rg.bn _ o7 r2 r3)) ?_;go_frame;clear r2 r3;have fF:=KG.Dh (KG.refl HT.p.jD) r5;generalize (wr.alloc (.cells #[.int .i64 ((k:Nat):Int)] 3)).setCell ⟨L,k*194+1,none⟩ (.slice (some ⟨wr.heap.size,0,none⟩) 1 1)=uY at *;replace C0:=U (C0.p.kg fF);replace C1:=U (C1.p.kg fF);replace K:=U (K.p.trans fF);replace HT:=U r4;clear fF r4 r5;go_upto_region 7 with (fail);have aq:Below uY.heap.size uY uY.drew:=(Below.refl _ _).drew;replace HT:=U (HT.p.up aq);replace C0:=U (C0.p.up aq);replace C1:=U (C1.p.up aq);replace K:=U (K.p.up aq);generalize c_ F0 uY uY.drew=F1 at *;clear aq;refine Rg.Any.begin (S:=Rg.aG 11 (fun W=>Below uY.drew.heap.size uY.drew W) (fun _=>True)) mix ?_
   generalize uY.drew=cW at *;have hS:∀ (l:Array Bool) W,Below cW.heap.size cW W->Rg.aG 11 (fun W=>Below cW.heap.size cW W) (fun _=>True) l W:=fun l W h=>⟨.inr h,trivial⟩;have bW:∀ (l:Array Bool) W,l.getD 11 false=true->Rg.aG 11 (fun W=>Below cW.heap.size cW W) (fun _=>True) l W:=fun l W h=>⟨.inl h,trivial⟩;have hI:Below cW.heap.size cW cW:=Below.refl _ _;refine d8 0 11 (.pointer (some ⟨L,k*194,none⟩)) 30 (hS _ _ hI) ?_;go_frame;refine d8 1 11 (.int .i64 ((k:Nat):Int)) 31 (hS _ _ hI) ?_;go_frame;refine d8 2 11 (.pointer (some ⟨L,k*194,none⟩)) 32 (hS _ _ hI) ?_;go_frame;refine d8 3 11 (.int .i64 ((k:Nat):Int)) 33 (hS _ _ hI) ?_;go_frame;refine d8 4 11 (.int .i64 ((n:Nat):Int)) 34 (hS _ _ hI) ?_;go_frame;refine d8 6 11 (.int .i64 ((n:Nat):Int)) 36 (hS _ _ hI) ?_;go_frame;refine d7 8 11 (.pointer (some ⟨L,k*194,none⟩)) 38 rfl rfl (.inl ⟨rfl,fun w _=>aK _ rfl rfl⟩) (hS _ _ hI) ?_;go_frame
   refine d7 9 11 (.pointer (some ⟨L,k*194+2,none⟩)) 39 rfl rfl (.inl ⟨rfl,fun w _=>af _ rfl rfl (uw _ _ _)⟩) (hS _ _ hI) ?_;go_frame;refine d7 12 11 (.pointer (some ⟨L,k*194,none⟩)) 41 rfl rfl (.inl ⟨rfl,fun w _=>aK _ rfl rfl⟩) (hS _ _ hI) ?_;go_frame;refine d7 13 11 (.pointer (some ⟨L,k*194+66,none⟩)) 42 rfl rfl (.inl ⟨rfl,fun w _=>af _ rfl rfl (zT _ _ _)⟩) (hS _ _ hI) ?_;go_frame;refine Rg.Any.one (i:=5) (by kernel_rfl) (Rg.Any.ask (some 35) rfl rfl rfl _ _ (aF 119 _ _ rfl rfl (MA _ _)) ?_);refine (Dl (F:=F1) n cW cC).mono ?_;rintro e1 eY ⟨av,rfl,W8,hb⟩;obtain ⟨ab,ao,ac,rfl⟩:=W8.dQ (Cm.eL n) bQ;have gZ:=Rg.acc hI hb;clear hI;replace HT:=U (HT.p.up hb);replace C0:=U (C0.p.up hb);replace C1:=U (C1.p.up hb);replace K:=U (K.p.up hb);have AF:=U W8;generalize c_ F1 cW eY=F2 at *
   clear hb;refine ⟨_,rfl,(hS _ _ gZ),?_⟩;go_frame;refine Rg.Any.one (i:=7) (by kernel_rfl) (Rg.Any.ask (some 37) rfl rfl rfl _ _ (aF 119 _ _ rfl rfl (MA _ _)) ?_);refine (Dl (F:=F2) n eY cC).mono ?_;rintro e1 nz ⟨bv,rfl,Mf,hb⟩;obtain ⟨bb,bo,bc,rfl⟩:=Mf.dQ (Cm.eL n) bQ;have Gn:=Rg.acc gZ hb;clear gZ;replace HT:=U (HT.p.up hb);replace C0:=U (C0.p.up hb);replace C1:=U (C1.p.up hb);replace AF:=U (AF.p.up hb);replace K:=U (K.p.up hb);have BF:=U Mf;generalize c_ F2 eY nz=F3 at *;clear hb;refine ⟨_,rfl,(hS _ _ Gn),?_⟩;go_frame;refine d7 10 11 (.pointer (some ⟨L,k*194+2+k,none⟩)) 40 rfl rfl (.inl ⟨rfl,fun w _=>bj _ _ rfl Tryz.underlying142 qW L (k*194+2) (k) rfl rfl I3⟩) (hS _ _ Gn) ?_;go_frame;refine Rg.Any.one (i:=11) (by kernel_rfl) (Rg.Any.cA none rfl rfl rfl (Rg.ai _ _ _ rfl _ rfl _ rfl (Rg.bn _ cU (p_ HT.p cg I3 (by omega)) (HT.p.frozen _))) (bW _ _ rfl) ?_)
   go_frame;refine d7 14 11 (.pointer (some ⟨L,k*194+66+k,none⟩)) 43 rfl rfl (.inl ⟨rfl,fun w _=>bj _ _ rfl Tryz.underlying142 qW L (k*194+66) (k) rfl rfl I3⟩) (bW _ _ rfl) ?_;go_frame;have cY:=HT.p.row.set (k*194+2+k) (.slice (some ⟨ab,ao,none⟩) n ac);refine Rg.Any.one (i:=15) (by kernel_rfl) (Rg.Any.cA none rfl rfl rfl (Rg.ai _ _ _ rfl _ rfl _ rfl (Rg.bn _ cU (cY.cell (by omega)) (cY.frozen _))) (bW _ _ rfl) ?_);go_frame;clear cY;refine Rg.Any.done (by kernel_rfl) ?_ _;clear bW;clear hS Gn;obtain ⟨V4,Gf,Mr⟩:=HT.p.iC cg I3 (o1:=k*194+2+k) (o2:=k*194+66+k) (by omega) (by omega) AF.p (by rw [Cm.inv_one]; exact BF.p);rw [Gm] at Gf;have fF:=KG.Dh (KG.refl HT.p.jD) Mr;generalize (nz.setCell ⟨L,k*194+2+k,none⟩ (.slice (some ⟨ab,ao,none⟩) n ac)).setCell ⟨L,k*194+66+k,none⟩ (.slice (some ⟨bb,bo,none⟩) n bc)=Tv at *
   replace C0:=U (C0.p.kg fF);replace C1:=U (C1.p.kg fF);replace K:=U (K.p.trans fF);replace HT:=U Gf;clear fF Mr Gf AF BF;go_wp2
   go_roundw
   case rel=>exact ⟨k+1,_,V4,by go_num,by omega,HT,C0,C1,K⟩
   case measure=>simp [intOf]; omega
  ·obtain rfl:k=n:=by omega
   have ly:¬ (k:Int)<(k:Int):=by omega
   go_wp2;go_ret;exact ⟨tb,rfl,L,F0,by rw [<- hL]; exact K.p,⟨V1,HT.p⟩,C0.p,C1.p⟩

theorem TD (args:Array Value) (w:World):(callFunc 91 args).run Tryz.prog w=.ok (.enter 91 args) w:=by kernel_rfl
def GS (F:Nat->Prop) (w:World) (v:Value) (gs:List (List Nat)):Prop:=∃ a c,v=.slice a gs.length c/\(0<gs.length->∃ b o,a=some ⟨b,o,none⟩/\∀ k (hk:k<gs.length),∃ u,CF F w b (o+k) u/\FP F w u gs[k])
theorem FP.tj {x:List Nat} (h:Rg.NP w v x):FP (fun k=>k<w.heap.size) w v x:=by
 obtain ⟨a,cap,h1,h2,h3,h4,h5⟩:=h;refine ⟨a,cap,h1,h2,h3,h4,fun h0=>?_⟩;obtain ⟨b,o,e1,e2,e3⟩:=h5 h0;exact ⟨b,o,e1,e2,e2,e3⟩
theorem GS.MC (h:Rg.Rows w v (gs.map Ma.ag)):GS (fun k=>k<w.heap.size) w v gs:=by
 obtain ⟨a,cap,e,h2,h3,h4,h5⟩:=h.shape;rw [List.length_map] at e;refine ⟨a,cap,e,fun h0=>?_⟩;obtain ⟨b,o,e1,e2,e3⟩:=h5 (by rw [List.length_map]; exact h0);refine ⟨b,o,e1,fun k hk=>?_⟩;obtain ⟨u,hu,hi⟩:=e3 k (by rw [List.length_map]; exact hk);rw [List.getElem_map] at hi;exact ⟨u,⟨hu,e2,e2⟩,FP.tj hi⟩
theorem Gp (bQ:1<=n) (cC:n<=64) (hv:GS (fun k=>k<w.heap.size) w v gs) (hg:∀ s∈gs,Cm.Gd n s) (gD:gs.length<=1000000) :
  Calls Tryz.prog 69 #[.int .i64 ((n:Nat):Int),v] w fun e w'=>∃ (tb L:Nat) (F':Nat->Prop) (T':aY) (V':Nat->LV),e=.returned (.pointer (some ⟨tb,0,none⟩))/\KG (fun k=>k<w.heap.size) w F' w'/\aR F' L n w' T' V'/\CF F' w' tb 0 (.int .i64 ((n:Nat):Int))/\CF F' w' tb 1 (.slice (some ⟨L,0,none⟩) n n)/\Cm.jU n (·∈gs) T':=by
 obtain ⟨ga,gc,rfl,iO⟩:=hv;have tq:=U iO;have HG:=U hg;have Mm:=U ((DA bQ cC n 0 (by omega) (by omega)).1);clear iO hg
 go_enter Tryz.func69,Tryz.ntmps69
 go_upto_region 1 with (fail);refine d3 ?_;refine d5 8 (.int .i64 ((n:Nat):Int)) ?_;go_frame;refine f7 9 (aF 91 _ _ rfl rfl (TD _ _)) ?_;refine (yQ bQ cC w).mono ?_;rintro e1 w1 ⟨tb,L,F1,V1,rfl,ir,n_,od,oh⟩;refine ⟨_,rfl,?_⟩;go_frame;have HT:=U n_;have C0:=U od;have C1:=U oh;have K:=U ir;clear ir;refine d6 5 (.pointer (some ⟨tb,0,none⟩)) ?_;go_frame;clear n_ od oh;have HB:=U (show Cm.jU n (·∈gs.take 0) (Cm.kW n n) by have:=Cm.jU.new (n:=n); simpa using this);go_wp2
 go_loopw [12] (fun kv wr=>∃ (k:Nat) (F1:Nat->Prop) (T1:aY) (V1:Nat->LV),kv=.int .i64 k/\k<=gs.length/\Hid (aR F1 L n wr T1 V1)/\Hid (CF F1 wr tb 0 (.int .i64 ((n:Nat):Int)))/\Hid (CF F1 wr tb 1 (.slice (some ⟨L,0,none⟩) n n))/\Hid (KG (fun k=>k<w.heap.size) w F1 wr)/\Hid (Cm.jU n (·∈gs.take k) T1)) (fun kv _=>gs.length - (intOf kv).toNat)
 case atStart=>exact ⟨0,F1,_,V1,rfl,Nat.zero_le _,HT,C0,C1,K,HB⟩
 case round =>
  clear HT C0 C1 K HB;obtain ⟨k,F1,T1,V1,rfl,hk,HT,C0,C1,K,HB⟩:=hrel
  by_cases cg:k<gs.length
  ·have ly:(k:Int)<(gs.length:Int):=by omega
   have iO:=tq.p;obtain ⟨gb,go,rfl,MD⟩:=iO (by omega);obtain ⟨u,wN,AZ⟩:=MD k cg;have GX:=U (HG.p _ (List.getElem_mem cg));obtain ⟨x,hx⟩:∃ x,Hid (gs[k]=x):=⟨_,U rfl⟩;rw [hx.p] at AZ GX;obtain ⟨ub,uo,uc,rfl⟩:=AZ.dQ GX.p bQ;have CU:=U (wN.kg K.p);have X:=U (AZ.kg K.p);have bC:=U cg;clear iO MD wN AZ;go_upto_region 4 with (fail);refine d3 ?_;refine d4 14 (aB bP _ _ rfl gb (go) (gs.length) gc (k) rfl rfl bC.p) ?_;go_frame;refine d4 15 (g8 (.slice (some ⟨ub,uo,none⟩) n uc) ⟨gb,go+k,none⟩ (Rg.ae _ _ Tryz.underlying27 CU.p.cell)) ?_;go_frame;refine d6 7 (.slice (some ⟨ub,uo,none⟩) n uc) ?_;go_frame;go_upto_region 5 with (fail);refine d3 ?_;refine d5 16 (.pointer (some ⟨tb,0,none⟩)) ?_;go_frame;refine d5 17 (.slice (some ⟨ub,uo,none⟩) n uc) ?_;go_frame;refine f7 18 (dH 92 _ _ _ _ rfl rfl rfl rfl (Mk _ _)) ?_
   refine (Mm.p _ L tb _ _ _ _ _ HT.p C0.p C1.p X.p GX.p (fun j h=>absurd h (Nat.not_lt_zero _)) (fun j _ h=>HB.p.full j h)).mono ?_;rintro e1 nB ⟨F9,T9,V9,rfl,j9,Dy,Mu⟩;have q8:=U (HB.p.add (gs':=(·∈gs.take (k+1))) (fun s=>by rw [List.take_succ_eq_append_getElem bC.p,hx.p]; simp) (fun s hs=>HG.p s (List.mem_of_mem_take hs)) Mu);clear Mu;refine ⟨_,rfl,?_⟩;go_frame;replace HT:=U Dy;replace C0:=U (C0.p.kg j9);replace C1:=U (C1.p.kg j9);replace CU:=U (CU.p.kg j9);replace X:=U (X.p.kg j9);replace K:=U (K.p.trans j9);clear j9 Dy;go_wp2
   go_roundw
   case rel=>exact ⟨k+1,F9,T9,V9,by go_num,bC.p,HT,C0,C1,K,q8⟩
   case measure=>simp [intOf]; have:=bC.p; omega
  ·obtain rfl:k=gs.length:=by omega
   have ly:¬ (gs.length:Int)<(gs.length:Int):=by omega
   have q8:=U (by have:=HB.p; rwa [List.take_length] at this);go_wp2;go_ret;exact ⟨tb,rfl,L,F1,K.p,T1,⟨V1,HT.p⟩,C0.p,C1.p,q8.p⟩
end
section
open Go.Proofs.Cm (Lv aY bJ)
attribute [local irreducible] Go.Calls Go.wpList
theorem Gs (bQ:1<=n) (cC:n<=64) {F0:Nat->Prop} {tb:Nat} {T:aY} {V:Nat->LV} (hT:aR F0 L n w T V) (dK:CF F0 w tb 0 (.int .i64 ((n:Nat):Int))) (cJ:CF F0 w tb 1 (.slice (some ⟨L,0,none⟩) n n)) (hH:Cm.bT n H) (jk:Cm.pL n H (bJ T)) (hl:∀ j,j<n->Cm.eF n T j) {x:List Nat} {i:Nat} (hx:FP F0 w xv x) (gx:Cm.Gd n x) (hi:i<n) :
  Calls Tryz.prog 95 #[.pointer (some ⟨tb,0,none⟩),xv,.int .i64 ((i:Nat):Int)] w fun e w'=>∃ F' yv y,e=.returned yv/\KG F0 w F' w'/\aR F' L n w' T V/\FP F' w' yv y/\Cm.LI H i n x y/\Cm.Gd n y/\Below w.heap.size w w':=by
 have K:=U (KG.refl hT.jD);have HT:=U hT;have C0:=U dK;have C1:=U cJ;have X:=U hx;have HH:=U hH;have tx:=U jk;have HL:=U hl;have GX:=U gx;have KB:=U (Below.refl w.heap.size w);have Gt:=U (Cm.LI.start hH hi gx);have ny:=dK.cell;clear hT dK cJ hx hH jk hl gx
 go_enter Tryz.func95,Tryz.ntmps95
 go_wp2
 go_loopw [7,1] (fun kv yv wr=>∃ (k:Nat) (y:List Nat) (F1:Nat->Prop),kv=.int .i64 k/\i<k/\k<=n/\Hid (FP F1 wr yv y)/\Hid (aR F1 L n wr T V)/\Hid (CF F1 wr tb 0 (.int .i64 ((n:Nat):Int)))/\Hid (CF F1 wr tb 1 (.slice (some ⟨L,0,none⟩) n n))/\Hid (KG F0 w F1 wr)/\Hid (Below w.heap.size w wr)/\Hid (Cm.Gd n y)/\Hid (Cm.LI H i k x y)) (fun kv _ _=>n - (intOf kv).toNat)
 case atStart=>exact ⟨i+1,x,F0,by go_num,by omega,by omega,X,HT,C0,C1,K,KB,GX,Gt⟩
 case round =>
  clear X HT C0 C1 K KB ny Gt;obtain ⟨k,y,F,rfl,ir,cO,X,HT,C0,C1,K,KB,GY,Gt⟩:=hrel;have ny:=C0.p.cell
  by_cases cg:k<n
  ·have ly:(k:Int)<(n:Int):=by omega
   obtain ⟨yb,yo,yc,rfl⟩:=X.p.dQ GY.p bQ;have uZ:=HL.p k cg;obtain ⟨oa,oc,lx⟩:=HT.p.Dm cg;have CO:=U (CL.mk (show wr.cell? ⟨L,k*194+1,none⟩=some (.slice oa (T k).orb.length oc) by rw [ur HT.p cg rfl,lx]) HT.p.lt);have Gu:=U (show ∀ m (h:m<(T k).orb.length),m<0->Cm.ap y k<=Cm.ap y (T k).orb[m] from fun m _ h=>absurd h (Nat.not_lt_zero _));have Kh:=U (show ∃ u,bJ T k k=some u from ⟨_,uZ.self⟩);have bC:=U cg;clear uZ;go_upto_region 5 with (fail);refine d3 ?_;refine d5 22 (.pointer (some ⟨tb,0,none⟩)) ?_;go_frame;refine d4 23 (aK _ rfl rfl) ?_;go_frame;refine d4 24 (af _ rfl rfl (ji _ _)) ?_;go_frame;refine d4 25 (g8 (.slice (some ⟨L,0,none⟩) n n) ⟨tb,1,none⟩ (Rg.ae _ _ Tryz.underlying135 C1.p.cell)) ?_;go_frame;refine d5 26 (.int .i64 ((k:Nat):Int)) ?_;go_frame
   refine d4 27 (bD _ _ rfl Tryz.underlying135 fE L (n) (n) (k) rfl rfl bC.p) ?_;go_frame;refine d4 28 (af _ rfl rfl (zS _ _ _)) ?_;go_frame;refine d4 29 (g8 (.slice oa (T k).orb.length oc) ⟨L,k*194+1,none⟩ (Rg.ae _ _ Tryz.underlying26 CO.p.cell)) ?_;go_frame;refine d4 30 (i3 Tryz.underlying26) ?_;go_frame;refine d5 31 (.int .i64 ((0:Nat):Int)) ?_;go_frame;clear CO ny;go_wp2
   go_loopw [8,31] (fun bv iv wr=>∃ (b m:Nat) (F1:Nat->Prop),bv=.int .i64 b/\iv=.int .i64 m/\m<=(T k).orb.length/\b<n/\Hid (FP F1 wr (.slice (some ⟨yb,yo,none⟩) n yc) y)/\Hid (aR F1 L n wr T V)/\Hid (CF F1 wr tb 0 (.int .i64 ((n:Nat):Int)))/\Hid (CF F1 wr tb 1 (.slice (some ⟨L,0,none⟩) n n))/\Hid (KG F0 w F1 wr)/\Hid (Below w.heap.size w wr)/\Hid (∃ u,bJ T k b=some u)/\Hid (∀ m' (h:m' < (T k).orb.length),m' < m->Cm.ap y b<=Cm.ap y (T k).orb[m'])) (fun _ iv _=>(T k).orb.length - (intOf iv).toNat)
   case atStart=>exact ⟨k,0,F,rfl,rfl,Nat.zero_le _,cg,X,HT,C0,C1,K,KB,Kh,Gu⟩
   case round =>
    clear X HT C0 C1 K KB Kh Gu;obtain ⟨b,m,F,rfl,rfl,hm,Qk,X,HT,C0,C1,K,KB,Kh,Gu⟩:=hrel;have TE:=Cm.lN (HL.p k cg)
    have Qe:((T k).orb.length:Int)<=64:=by omega
    by_cases fV:m<(T k).orb.length
    ·have TF:(m:Int)<((T k).orb.length:Int):=by omega
     obtain ⟨og,DB,Sm,aO,qe⟩:=HT.p.Sf cg fV;rw [lx] at Sm
     injection Sm with e1 _ e2
     subst e1 e2;obtain ⟨q,hq⟩:∃ q:Nat,Hid (q=(T k).orb[m]):=⟨_,U rfl⟩;rw [<- hq.p] at aO;have CQ:=U (CL.mk aO qe);have u_:=U fV;have TG:=((HL.p k cg).orb q).1 (by rw [hq.p]; exact List.getElem_mem fV);have ME:=U (show ∃ u,bJ T k q=some u from TG)
     have yL:q<n:=by obtain ⟨u,hu⟩:=TG; exact (HL.p k cg).AL q u hu
     have A3:=U (X.p.ap GY.p yL);have A4:=U (X.p.ap GY.p Qk);obtain ⟨yq,TI⟩:∃ z:Nat,Hid (z=Cm.ap y q):=⟨_,U rfl⟩;obtain ⟨MG,TJ⟩:∃ z:Nat,Hid (z=Cm.ap y b):=⟨_,U rfl⟩;rw [<- TI.p] at A3;rw [<- TJ.p] at A4;clear aO qe TG
     by_cases aE:yq<MG
     ·have W9:(yq:Int)<(MG:Int):=by omega
      go_upto_region 7 with (fail);refine d3 ?_;refine d4 33 (aB bK _ _ rfl og (0) ((T k).orb.length) oc (m) rfl rfl u_.p) ?_;go_frame;refine d4 34 (g8 (.int .i64 ((q:Nat):Int)) ⟨og,0+m,none⟩ (ah CQ.p.cell)) ?_;go_frame;refine d6 10 (.int .i64 ((q:Nat):Int)) ?_;go_frame;go_upto_region 8 with (fail);have dr:Below wr.heap.size wr wr.drew:=(Below.refl _ _).drew;replace KB:=U (Rg.acc KB.p dr);clear dr;have aq:Below wr.heap.size wr wr.drew:=(Below.refl _ _).drew;replace HT:=U (HT.p.up aq);replace C0:=U (C0.p.up aq);replace C1:=U (C1.p.up aq);replace X:=U (X.p.up aq);replace CQ:=U (CQ.p.up aq);replace A3:=U (A3.p.up aq);replace A4:=U (A4.p.up aq);replace K:=U (K.p.up aq);generalize c_ F wr wr.drew=F1 at *;clear aq;refine Rg.Any.begin (S:=Rg.aG 8 (fun _=>True) (fun W=>Below wr.drew.heap.size wr.drew W)) mix ?_
      generalize wr.drew=w1 at *;have hS:∀ (l:Array Bool) W,Below w1.heap.size w1 W->Rg.aG 8 (fun _=>True) (fun W=>Below w1.heap.size w1 W) l W:=fun l W h=>⟨.inr trivial,h⟩;have hI:Below w1.heap.size w1 w1:=Below.refl _ _;refine d8 0 8 (.slice (some ⟨yb,yo,none⟩) n yc) 35 (hS _ _ hI) ?_;go_frame;refine d8 1 8 (.int .i64 ((q:Nat):Int)) 36 (hS _ _ hI) ?_;go_frame;refine d7 2 8 (.pointer (some ⟨yb,yo+q,none⟩)) 37 rfl rfl (Rg.aA cj _ _ rfl rfl yb (yo) (n) yc (q) rfl rfl yL) (hS _ _ hI) ?_;go_frame;refine d7 3 8 (.int .i64 ((yq:Nat):Int)) 38 rfl rfl (i9 ⟨yb,yo+q,none⟩ (fun W hW=>ah ((Below.cell (p:=⟨yb,yo+q,none⟩) hW A3.p.lt).trans A3.p.cell))) (hS _ _ hI) ?_;go_frame;refine d8 4 8 (.slice (some ⟨yb,yo,none⟩) n yc) 39 (hS _ _ hI) ?_;go_frame;refine d8 5 8 (.int .i64 ((b:Nat):Int)) 40 (hS _ _ hI) ?_;go_frame
      refine d7 6 8 (.pointer (some ⟨yb,yo+b,none⟩)) 41 rfl rfl (Rg.aA cj _ _ rfl rfl yb (yo) (n) yc (b) rfl rfl Qk) (hS _ _ hI) ?_;go_frame;refine d7 7 8 (.int .i64 ((MG:Nat):Int)) 42 rfl rfl (i9 ⟨yb,yo+b,none⟩ (fun W hW=>ah ((Below.cell (p:=⟨yb,yo+b,none⟩) hW A4.p.lt).trans A4.p.cell))) (hS _ _ hI) ?_;go_frame;refine i8 8 43 rfl rfl (g9 (.bool true) .lss (h:=aP _ f8)) (hS _ _ hI) ?_;go_frame;refine Rg.Any.done (by kernel_rfl) ?_ _;clear hS hI
      have tz:=U (show ∀ m' (h:m' < (T k).orb.length),m' < m+1->Cm.ap y q<=Cm.ap y (T k).orb[m'] from fun m' h h2=>by
       have a1:=TI.p;have a2:=TJ.p
       by_cases e:m'=m
       ·subst e
        rw [<- hq.p]; omega
       ·have:=Gu.p m' h (by omega)
        omega)
      simp only [Nat.zero_add];go_wp2
      go_roundw
      case rel=>exact ⟨q,m+1,_,rfl,by go_num,u_.p,yL,X,HT,C0,C1,K,KB,ME,tz⟩
      case measure=>simp [intOf]; have:=u_.p; omega
     ·have W9:¬ (yq:Int)<(MG:Int):=by omega
      go_upto_region 7 with (fail);refine d3 ?_;refine d4 33 (aB bK _ _ rfl og (0) ((T k).orb.length) oc (m) rfl rfl u_.p) ?_;go_frame;refine d4 34 (g8 (.int .i64 ((q:Nat):Int)) ⟨og,0+m,none⟩ (ah CQ.p.cell)) ?_;go_frame;refine d6 10 (.int .i64 ((q:Nat):Int)) ?_;go_frame;go_upto_region 8 with (fail);have dr:Below wr.heap.size wr wr.drew:=(Below.refl _ _).drew;replace KB:=U (Rg.acc KB.p dr);clear dr;have aq:Below wr.heap.size wr wr.drew:=(Below.refl _ _).drew;replace HT:=U (HT.p.up aq);replace C0:=U (C0.p.up aq);replace C1:=U (C1.p.up aq);replace X:=U (X.p.up aq);replace CQ:=U (CQ.p.up aq);replace A3:=U (A3.p.up aq);replace A4:=U (A4.p.up aq);replace K:=U (K.p.up aq);generalize c_ F wr wr.drew=F1 at *;clear aq;refine Rg.Any.begin (S:=Rg.aG 8 (fun _=>True) (fun W=>Below wr.drew.heap.size wr.drew W)) mix ?_
      generalize wr.drew=w2 at *;have hS:∀ (l:Array Bool) W,Below w2.heap.size w2 W->Rg.aG 8 (fun _=>True) (fun W=>Below w2.heap.size w2 W) l W:=fun l W h=>⟨.inr trivial,h⟩;have hI:Below w2.heap.size w2 w2:=Below.refl _ _;refine d8 0 8 (.slice (some ⟨yb,yo,none⟩) n yc) 35 (hS _ _ hI) ?_;go_frame;refine d8 1 8 (.int .i64 ((q:Nat):Int)) 36 (hS _ _ hI) ?_;go_frame;refine d7 2 8 (.pointer (some ⟨yb,yo+q,none⟩)) 37 rfl rfl (Rg.aA cj _ _ rfl rfl yb (yo) (n) yc (q) rfl rfl yL) (hS _ _ hI) ?_;go_frame;refine d7 3 8 (.int .i64 ((yq:Nat):Int)) 38 rfl rfl (i9 ⟨yb,yo+q,none⟩ (fun W hW=>ah ((Below.cell (p:=⟨yb,yo+q,none⟩) hW A3.p.lt).trans A3.p.cell))) (hS _ _ hI) ?_;go_frame;refine d8 4 8 (.slice (some ⟨yb,yo,none⟩) n yc) 39 (hS _ _ hI) ?_;go_frame;refine d8 5 8 (.int .i64 ((b:Nat):Int)) 40 (hS _ _ hI) ?_;go_frame
      refine d7 6 8 (.pointer (some ⟨yb,yo+b,none⟩)) 41 rfl rfl (Rg.aA cj _ _ rfl rfl yb (yo) (n) yc (b) rfl rfl Qk) (hS _ _ hI) ?_;go_frame;refine d7 7 8 (.int .i64 ((MG:Nat):Int)) 42 rfl rfl (i9 ⟨yb,yo+b,none⟩ (fun W hW=>ah ((Below.cell (p:=⟨yb,yo+b,none⟩) hW A4.p.lt).trans A4.p.cell))) (hS _ _ hI) ?_;go_frame;refine i8 8 43 rfl rfl (g9 (.bool false) .lss (h:=aP _ f9)) (hS _ _ hI) ?_;go_frame;refine Rg.Any.done (by kernel_rfl) ?_ _;clear hS hI
      have tz:=U (show ∀ m' (h:m' < (T k).orb.length),m' < m+1->Cm.ap y b<=Cm.ap y (T k).orb[m'] from fun m' h h2=>by
       have a1:=TI.p;have a2:=TJ.p
       by_cases e:m'=m
       ·subst e
        rw [<- hq.p]; omega
       ·have:=Gu.p m' h (by omega)
        omega)
      simp only [Nat.zero_add];go_wp2
      go_roundw
      case rel=>exact ⟨b,m+1,_,rfl,by go_num,u_.p,Qk,X,HT,C0,C1,K,KB,Kh,tz⟩
      case measure=>simp [intOf]; have:=u_.p; omega
    ·obtain rfl:m=(T k).orb.length:=by omega
     have TF:¬ ((T k).orb.length:Int)<((T k).orb.length:Int):=by omega
     have Sn:=U (show ∀ q',bJ T k q'≠none->Cm.ap y b<=Cm.ap y q' from fun q' J3=>by
      obtain ⟨u,hu⟩:=Option.ne_none_iff_exists'.1 J3;obtain ⟨m',qZ,rfl⟩:=List.getElem_of_mem (((HL.p k cg).orb q').2 ⟨u,hu⟩)
      exact Gu.p m' qZ qZ)
     obtain ⟨u,hu⟩:=Kh.p;have W_:=U (Cm.LI.step HH.p tx.p GX.p ir cg Gt.p hu Sn.p);have GU:=U ((HL.p k cg).wu b u hu);have GM:=U (Cm.aV GU.p GY.p)
     have MH:b<64:=by omega
     clear Sn Gu Kh
     by_cases DC:b=k
     ·have hbN:(b:Int)=(k:Int):=by omega
      have HE:=U (show Ma.aj u y=y by
       subst DC;have:=(HL.p b cg).self;have e:some u=some (Ma.bh n):=hu.symm.trans this
       injection e with e
       rw [e,Cm.one_mul GY.p])
      clear DC hu;go_upto_region 11 with (fail);refine d3 ?_;refine d5 46 (.int .i64 ((b:Nat):Int)) ?_;go_frame;refine d5 47 (.int .i64 ((k:Nat):Int)) ?_;go_frame;refine d4 48 (g9 (.bool false) .neq (h:=aU _ f9)) ?_;go_frame;have ny:=C0.p.cell;go_wp2
      go_roundw
      case rel=>exact ⟨k+1,y,_,by go_num,by omega,by omega,X,HT,C0,C1,K,KB,GY,U (by have:=W_.p; rwa [HE.p] at this)⟩
      case measure=>simp [intOf]; omega
     ·have hbN:¬ (b:Int)=(k:Int):=by omega
      obtain ⟨ub,uo,uc,Dr,Ds⟩:=HT.p.Qa cg MH hu GU.p bQ;have UP:=U Ds;have CU:=U (CL.mk (show wr.cell? ⟨L,k*194+2+b,none⟩=some (.slice (some ⟨ub,uo,none⟩) n uc) by rw [p_ HT.p cg MH (by omega),Dr]) HT.p.lt);clear DC hu Dr Ds;go_upto_region 11 with (fail);refine d3 ?_;refine d5 46 (.int .i64 ((b:Nat):Int)) ?_;go_frame;refine d5 47 (.int .i64 ((k:Nat):Int)) ?_;go_frame;refine d4 48 (g9 (.bool true) .neq (h:=aU _ f8)) ?_;go_frame;go_upto_region 12 with (fail);refine d3 ?_;refine d5 49 (.pointer (some ⟨tb,0,none⟩)) ?_;go_frame;refine d4 50 (aK _ rfl rfl) ?_;go_frame;refine d4 51 (af _ rfl rfl (ji _ _)) ?_;go_frame;refine d4 52 (g8 (.slice (some ⟨L,0,none⟩) n n) ⟨tb,1,none⟩ (Rg.ae _ _ Tryz.underlying135 C1.p.cell)) ?_;go_frame;refine d5 53 (.int .i64 ((k:Nat):Int)) ?_;go_frame
      refine d5 54 (.int .i64 ((b:Nat):Int)) ?_;go_frame;refine d4 55 (bD _ _ rfl Tryz.underlying135 fE L (n) (n) (k) rfl rfl bC.p) ?_;go_frame;refine d4 56 (af _ rfl rfl (uw _ _ _)) ?_;go_frame;refine d4 57 (bj _ _ rfl Tryz.underlying142 qW L (k*194+2) (b) rfl rfl MH) ?_;go_frame;refine d4 58 (g8 (.slice (some ⟨ub,uo,none⟩) n uc) ⟨L,k*194+2+b,none⟩ (Rg.ae _ _ Tryz.underlying27 CU.p.cell)) ?_;go_frame;refine d5 59 (.slice (some ⟨yb,yo,none⟩) n yc) ?_;go_frame;refine f7 60 (aw 117 _ _ _ rfl rfl rfl (wI _ _)) ?_;refine (q6 UP.p X.p GU.p GY.p bQ cC).mono ?_;rintro e1 w3 ⟨mv,rfl,kM,hb⟩;replace KB:=U (Rg.acc KB.p hb);refine ⟨_,rfl,?_⟩;go_frame;replace HT:=U (HT.p.up hb);replace C0:=U (C0.p.up hb);replace C1:=U (C1.p.up hb);replace X:=U (X.p.up hb);replace UP:=U (UP.p.up hb)
      replace CU:=U (CU.p.up hb);replace K:=U (K.p.up hb);have MV:=U kM;generalize c_ F wr w3=F1 at *;clear hb;refine d6 1 (mv) ?_;go_frame;have ny:=C0.p.cell;go_wp2
      go_roundw
      case rel=>exact ⟨k+1,_,_,by go_num,by omega,by have:=bC.p; omega,MV,HT,C0,C1,K,KB,GM,W_⟩
      case measure=>simp [intOf]; have:=bC.p; omega
  ·obtain rfl:k=n:=by omega
   have ly:¬ (k:Int)<(k:Int):=by omega
   go_wp2;go_ret;exact ⟨_,_,rfl,K.p,HT.p,y,X.p,Gt.p,GY.p,KB.p⟩
end
section
open Go.Shelf
attribute [local go_sem] Oper.semAt_some
def upto {α:Type} (f:Nat->α) (k:Nat):List α:=(List.range k).map f
theorem wO {α:Type} (f:Nat->α) (k:Nat):upto f (k+1)=upto f k++[f k]:=by simp [upto,List.range_succ]
theorem A5 {α:Type} (f:Nat->α) (k:Nat):(upto f k).length=k:=by simp [upto]
theorem Ki (zs:List Int):upto (fun j=>zs[j]?.getD 0) zs.length=zs:=by
 apply List.ext_getElem
 ·simp [upto]
 ·intro i h1 h2
  simp [upto,h2]
theorem Gv (zs:List Int) {k:Nat} (hk:k<=zs.length):upto (fun j=>zs[j]?.getD 0) k=zs.take k:=by
 apply List.ext_getElem
 ·simp [upto,hk]
 ·intro i h1 h2
  have:i<zs.length:=by simp [upto] at h1; omega
  simp [upto,this]
theorem DD (F:Fence) (n:Nat) (h7:F.fn 124) (hro:F.round=none) (hn:1<=n) (l Bs n₀ b off len cap:Nat) (zs:List Int) (I4:len*8<=140737488351232) (hb:b<n₀) (J Jx:List Int->World->Prop)
  (hY:∀ pre x W,J pre W->pre.length<len->YieldAt F (n - 1) Tryz.prog l #[.int .i64 x] W fun e W' =>
   (e=.returned (.bool true)/\J (pre++[x]) W'/\Below n₀ W W')∨(e=.returned (.bool false)/\Jx (pre++[x]) W'))
  (W:World) (wP:W.cell? ⟨Bs,0,none⟩=some (.slice (some ⟨b,off,none⟩) len cap)) (hc:∀ j,j<len->W.cell? ⟨b,off+j,none⟩=some (.int .i64 (zs[j]?.getD 0))) (h0:J [] W) :
  CallsIn F n Tryz.prog 124 #[.func (.yield l) #[] #[],.pointer (some ⟨Bs,0,none⟩)] W fun e W'=>(∃ v,e=.returned v) /\
   ((∃ ys,ys=upto (fun j=>zs[j]?.getD 0) len/\J ys W')∨(∃ pre,(∃ k,k<=len/\pre=upto (fun j=>zs[j]?.getD 0) k)/\Jx pre W')):=by
 refine callsIn_of_wp Tryz.func124 rfl h7 ?_ hro;simp only [Tryz.ntmps124,List.size_toArray,List.length_cons,List.length_nil,Nat.reduceAdd,Nat.reduceSub,Array.replicate_succ,Array.replicate_zero,List.push_toArray,List.append_toArray,List.nil_append,List.cons_append]
 gi_wp2
 gi_loopw [7] (fun i wr=>∃ k:Nat,k<=len/\i=.int .i64 k/\J (upto (fun j=>zs[j]?.getD 0) k) wr/\Below n₀ W wr)
  (fun i _=>len - (intOf i).toNat)
 case atStart=>exact ⟨0,Nat.zero_le _,rfl,h0,Below.refl _ _⟩
 case round =>
  obtain ⟨k,hk,rfl,MI,MJ⟩:=hrel;have DE:k<len->wr.cell? ⟨b,off+k,none⟩=some (.int .i64 (zs[k]?.getD 0)):=fun h=>(MJ.cell (p:=⟨b,off+k,none⟩) hb).trans (hc k h)
  by_cases aE:k<len
  ·obtain ⟨fn,tmps,assign,body,hy,hR⟩:=hY _ (zs[k]?.getD 0) wr MI (by rw [A5]; exact aE)
   have aac:=DE aE
   gi_wp2
   refine hR.mono ?_
   rintro e W3 (⟨rfl,TL,iu⟩ | ⟨rfl,ML⟩)
   ·gi_wp2
    go_roundw
    case rel=>exact ⟨k+1,by omega,by simp,by rw [wO]; exact TL,MJ.trans iu⟩
    case measure=>simp [intOf]; omega
   ·gi_wp2
    refine bodyPost_ret (results_none rfl _ _ _) rfl ?_;exact ⟨⟨_,rfl⟩,.inr ⟨_,⟨k+1,by omega,(wO _ _).symm⟩,ML⟩⟩
  ·obtain rfl:k=len:=by omega
   gi_wp2
   go_end0
   exact ⟨⟨_,rfl⟩,.inl ⟨_,rfl,MI⟩⟩
def g_ (n₀:Nat) (W:World) (sv:Value) (zs:List Int):Prop:=∃ b off cap,sv=.slice (some ⟨b,off,none⟩) zs.length cap/\b<n₀/\∀ j,j<zs.length->W.cell? ⟨b,off+j,none⟩=some (.int .i64 (zs[j]?.getD 0))
theorem g_.jj {A B:World} (h:Below n₀ A B) {sv:Value} {zs:List Int}:g_ n₀ A sv zs->g_ n₀ B sv zs
 | ⟨b,off,cap,e,hb,hc⟩=>⟨b,off,cap,e,hb,fun j hj=>(h.cell (p:=⟨b,off+j,none⟩) hb).trans (hc j hj)⟩
theorem Gw (F:Fence) (n:Nat) (h5:F.fn 94) (hro:F.round=none) (a:Option Addr) (len cap:Nat) (w:World) :
  CallsIn F n Tryz.prog 94 #[.slice a len cap] w fun e w'=>e=.returned (.func (.func 124) #[] #[.pointer (some ⟨w.heap.size,0,none⟩)])/\w'=w.alloc (.cells #[.slice a len cap] 26):=by
 refine callsIn_of_wp Tryz.func94 rfl h5 ?_ hro;simp only [Tryz.ntmps94,List.size_toArray,List.length_cons,List.length_nil,Nat.reduceAdd,Nat.reduceSub,Array.replicate_succ,Array.replicate_zero,List.push_toArray,List.append_toArray,List.nil_append,List.cons_append]
 gi_wp2
 go_ret;exact ⟨rfl,rfl⟩
theorem yR (F:Fence) (n:Nat) (h7:F.fn 124) (hro:F.round=none) (hn:1<=n) (Bs n₀:Nat) (sv:Value) (zs:List Int) (I4:zs.length*8<=140737488351232) (w:World) (wP:Bs<w.heap.size) (TM:n₀<=w.heap.size)
  (hc:w.cell? ⟨Bs,0,none⟩=some sv) (hI:g_ n₀ w sv zs) :
  SeqStopsK F n Tryz.prog 124 #[.pointer (some ⟨Bs,0,none⟩)] (fun x:Int=>#[Value.int .i64 x]) (Below n₀) (fun ys=>ys=zs) (fun pre=>pre <+: zs) zs.length w:=fun l J Jx W hW _ _ hY h0=>by
 have tA:=(hW.cell (p:=⟨Bs,0,none⟩) wP).trans hc;obtain ⟨b,off,cap,rfl,hb,ku⟩:=hI.jj (hW.mono TM);refine (DD F n h7 hro hn l Bs n₀ b off zs.length cap zs I4 hb J Jx hY W tA ku h0).mono ?_
 rintro e W' ⟨he,⟨ys,rfl,hj⟩ | ⟨pre,⟨k,hk,rfl⟩,hj⟩⟩
 ·exact ⟨he,.inl ⟨_,Ki zs,hj⟩⟩
 ·exact ⟨he,.inr ⟨_,by rw [Gv zs hk]; exact List.take_prefix _ _,hj⟩⟩
theorem TP:(Tryz.prog.info? 3).map (fun i=>(i.zero,i.size,i.bytes))=some (some (.int .i64 0),1,8):=by kernel_rfl
theorem yS (F:Fence) (n:Nat) (h3:F.fn 149) (h5:F.fn 124) (hro:F.round=none) (hn:3<=n) (Bs:Nat) (sv:Value) (zs:List Int) (hlen:zs.length<=1000000) (w:World) (wP:Bs<w.heap.size) (dK:w.cell? ⟨Bs,0,none⟩=some sv) (hI:g_ w.heap.size w sv zs) :
  CallsIn F n Tryz.prog 149 #[.slice none 0 0,.func (.func 124) #[] #[.pointer (some ⟨Bs,0,none⟩)]] w fun e W'=>∃ v,e=.returned v/\W'.ownsRow w.heap.size 3 1 v zs.length (zs.map (Value.int .i64))/\Below w.heap.size w W':=by
 have h1:1<=n:=by omega
 obtain ⟨i0,hi,cN,bs,dI⟩:=info_parts TP;refine callsIn_of_wp_marks Tryz.func149 rfl h3 ?_ hro;simp only [Tryz.ntmps149,List.size_toArray,List.length_cons,List.length_nil,Nat.reduceAdd,Nat.reduceSub,Array.replicate_succ,Array.replicate_zero,List.push_toArray,List.append_toArray,List.nil_append,List.cons_append]
 gi_wp2
 have bO:=Boxed.new w 26 (.slice none 0 0);have Ql:Below w.heap.size w (w.alloc (.cells #[.slice none 0 0] 26)):=(Below.refl _ w).alloc (Nat.le_refl _) _
 refine wpIn_rangeFunc_ownG hro h1 (gf:=124) (lb:=#[.pointer (some ⟨Bs,0,none⟩)]) rfl h5 (enters_of Tryz.func124 (by kernel_rfl) rfl)
  (yR F (n - 1) h5 hro (by omega) Bs w.heap.size sv zs (by omega) _ (by simp; omega) (by simp) ((Ql.cell (p:=⟨Bs,0,none⟩) wP).trans dK) (hI.jj Ql)) belowK_t (belowK_b (by simp)) (Below.refl _ _) (fun _=>rfl)
  (fun pre W=>(∃ v,Boxed W w.heap.size 26 v/\W.ownsRow w.heap.size 3 1 v pre.length (pre.map (Value.int .i64))/\(v=.slice none 0 0↔pre=[]))/\Below w.heap.size w W)
  (fun _ _ _=>False)
  (OwnFrom.and (Own.from (holdsRow_own w.heap.size w.heap.size 26 3 1 (fun pre=>pre.length) (fun pre=>pre.map (Value.int .i64)) (fun pre v=>v=.slice none 0 0↔pre=[])) _) (ownFrom_below (Nat.le_refl _) (by simp)))
  (fun _ _ _ _ _ hs _ _=>hs)
  ⟨⟨_,bO,World.ownsRow_nil _ _ _ _,by simp⟩,Ql⟩
  (fun x=>{ tmps:=#[.slice none 0 0,.func (.func 124) #[] #[.pointer (some ⟨Bs,0,none⟩)],.pointer (some ⟨w.heap.size,0,none⟩),undef,.slice none 0 0,.int .i64 x,.func (.func 124) #[] #[.pointer (some ⟨Bs,0,none⟩)],.int .i64 x,undef,undef,undef,undef,undef],defers:=[] }) ?assign ?body ?done ?stop
 case assign =>
  intro l x W K hK
  gi_wp2
  exact hK
 case body =>
  rintro l pre x W ⟨⟨v,hv,cr,Xa⟩,hB⟩ aE;have hc:=hv.cell
  gi_wp2_with (gi_at_builtin; refine wpListIn_append_own _ rfl _ _ 26 rfl w.heap.size 3 i0 (.int .i64 0) 1 8 Tryz.underlying26 hi cN bs dI rfl (by decide) _ _ _ rfl (cr.alloc _) ⟨W.heap.size,0,none⟩ 1 1 [.int .i64 x] rfl rfl (cell_one_new _ _ _) (by simp [Value.oneCell']) (by unfold maxLen; omega) (by omega) (by have:=hB.size; simp; omega) ?_; intro v' w1 MM TQ _; obtain ⟨g',aad,rfl⟩:=ownsRow_succ MM; obtain ⟨uU,P5,nU,cO,dG⟩:=hv.appended (by decide) cr hB.size (Nat.le_refl _) MM TQ; have cJ:=uU.cell; have nx:=uU.frozen)
  exact ⟨cO.from _,dG,⟨_,P5,by simpa using nU,by simp⟩,hB.trans dG⟩
 case done =>
  rintro D ys W hD rfl ⟨⟨v,hv,cr,Xa⟩,hB⟩ hK;have hc:=hv.cell
  gi_wp2
  refine ⟨by simp,.inl ⟨_,_,rfl,run_takeDeferred hK,?_⟩⟩;exact ⟨_,results_tmp rfl _ _ _,v,rfl,ownsRow_putObj cr _ hK rfl,hB.trans (belowK_b (w:=w) (Nat.le_refl _) W D _ _ (by simp at hD; omega) hK rfl rfl)⟩
 case stop =>
  rintro D c pre W _ _ h _;exact h.elim
end
section
open Go.Proofs.Ob
attribute [local irreducible] Go.Calls
theorem nh {o:Oper} {a:Act} (t:TypeId) (x y:Operand) (ho:o.op=.makeSlice t x y) (n m:Value) (hx:a.eval x=n) (hy:a.eval y=m) (hr:(Instr.makeSlice t n m).run Tryz.prog w=.ok v w'):(execOp a.eval o).run Tryz.prog w=.ok (.value v) w':=by
 unfold execOp;simp only [ho,hx,hy,Sem.run_bind,Sem.run_pure,hr,Result.andThen_ok]
end
section
attribute [local irreducible] Go.Calls
theorem fH:(Tryz.prog.info? 25).map (fun i=>(i.zero,i.size,i.bytes))=some (some (.agg #[.int .i64 0,.slice none 0 0,.slice none 0 0]),3,56):=by kernel_rfl
structure cq (w:World) (b:Nat) (x y z:Value):Prop where
 c0:w.cell? ⟨b,0,none⟩=some x
 c1:w.cell? ⟨b,1,none⟩=some y
 c2:w.cell? ⟨b,2,none⟩=some z
 f0:w.frozen? ⟨b,0,none⟩=false
 f1:w.frozen? ⟨b,1,none⟩=false
 f2:w.frozen? ⟨b,2,none⟩=false
 lt:b<w.heap.size
theorem cq.upto {b:Nat} {x y:Value} (h:cq w b x y z) (hb:Below B w w') (hB:b<B):cq w' b x y z :=
 ⟨(hb.cell (p:=⟨b,0,none⟩) hB).trans h.c0,(hb.cell (p:=⟨b,1,none⟩) hB).trans h.c1,(hb.cell (p:=⟨b,2,none⟩) hB).trans h.c2,(hb.frozen (p:=⟨b,0,none⟩) hB).trans h.f0,(hb.frozen (p:=⟨b,1,none⟩) hB).trans h.f1,(hb.frozen (p:=⟨b,2,none⟩) hB).trans h.f2,Nat.lt_of_lt_of_le h.lt hb.size⟩
theorem cq.jj {b:Nat} {x y:Value} (h:cq w b x y z) (hb:Below w.heap.size w w'):cq w' b x y z:=h.upto hb h.lt
theorem cq.kp {b:Nat} {x y:Value} (h:cq w b x y z) (hk:Rg.Kp M w w') (hM:¬ M b):cq w' b x y z:=by
 have e:=hk.block b h.lt hM;exact ⟨(World.cell?_of_block (a:=⟨b,0,none⟩) e).trans h.c0,(World.cell?_of_block (a:=⟨b,1,none⟩) e).trans h.c1,(World.cell?_of_block (a:=⟨b,2,none⟩) e).trans h.c2,(World.frozen?_of_block (a:=⟨b,0,none⟩) e).trans h.f0,(World.frozen?_of_block (a:=⟨b,1,none⟩) e).trans h.f1,(World.frozen?_of_block (a:=⟨b,2,none⟩) e).trans h.f2,Nat.lt_of_lt_of_le h.lt hk.size⟩
theorem cq.new (w:World) (x y z:Value):cq (w.alloc (.cells #[x,y,z] 25)) w.heap.size x y z :=
 ⟨by rw [Rg.aI]; rfl,by rw [Rg.aI]; rfl,by rw [Rg.aI]; rfl,cp _ _ _ 0 _,cp _ _ _ 0 _,cp _ _ _ 0 _,by simp⟩
theorem aW {b:Nat} (d:Int) (a:Option Addr) (n c:Nat) (a':Option Addr) (n' c':Nat) (h:cq w b u1 u2 u3) :
  (storeVar 25 ⟨b,0,none⟩ (.agg #[.int .i64 d,.slice a n c,.slice a' n' c'])).run Tryz.prog w=.ok () (((w.setCell ⟨b,0,none⟩ (.int .i64 d)).setCell ⟨b,1,none⟩ (.slice a n c)).setCell ⟨b,2,none⟩ (.slice a' n' c')):=by
 obtain ⟨i0,hi,cN,bs,dI⟩:=info_parts fH
 have g2:(w.setCell ⟨b,0,none⟩ (.int .i64 d)).cell? ⟨b,1,none⟩=some u2:=by
  rw [World.cell?_setCell_other (h:=by intro e; injection e with e1 e2; omega) ..]
  exact h.c1
 have gf:(w.setCell ⟨b,0,none⟩ (.int .i64 d)).frozen? ⟨b,1,none⟩=false:=by rw [World.frozen?_setCell]; exact h.f1
 have g3:((w.setCell ⟨b,0,none⟩ (.int .i64 d)).setCell ⟨b,1,none⟩ (.slice a n c)).cell? ⟨b,2,none⟩=some u3:=by
  rw [World.cell?_setCell_other (h:=by intro e; injection e with e1 e2; omega) ..,World.cell?_setCell_other (h:=by intro e; injection e with e1 e2; omega) ..]
  exact h.c2
 have gf3:((w.setCell ⟨b,0,none⟩ (.int .i64 d)).setCell ⟨b,1,none⟩ (.slice a n c)).frozen? ⟨b,2,none⟩=false:=by rw [World.frozen?_setCell,World.frozen?_setCell]; exact h.f2
 have pY:(⟨b,0,none⟩:Addr).add 0=⟨b,0,none⟩:=by simp [Addr.add]
 have mr:(⟨b,0,none⟩:Addr).add 1=⟨b,1,none⟩:=by simp [Addr.add]
 have lS:(⟨b,0,none⟩:Addr).add 2=⟨b,2,none⟩:=by simp [Addr.add]
 simp [storeVar,sizeOf,typeInfo,hi,bs,Value.cells,storeCells,store,pY,mr,lS];simp [Sem.run,h.c0,h.f0,g2,gf,g3,gf3]
theorem cq.set {b:Nat} (h:cq w b u1 u2 u3) (x y z:Value):cq (((w.setCell ⟨b,0,none⟩ x).setCell ⟨b,1,none⟩ y).setCell ⟨b,2,none⟩ z) b x y z:=by
 have s1:(w.setCell ⟨b,0,none⟩ x).cell? ⟨b,0,none⟩=some x:=World.cell?_setCell_same (h:=h.c0) ..
 have s2:(w.setCell ⟨b,0,none⟩ x).cell? ⟨b,1,none⟩=some u2:=by
  rw [World.cell?_setCell_other (h:=by intro e; injection e with e1 e2; omega) ..]; exact h.c1
 have s3:((w.setCell ⟨b,0,none⟩ x).setCell ⟨b,1,none⟩ y).cell? ⟨b,2,none⟩=some u3:=by
  rw [World.cell?_setCell_other (h:=by intro e; injection e with e1 e2; omega) ..,World.cell?_setCell_other (h:=by intro e; injection e with e1 e2; omega) ..]; exact h.c2
 refine ⟨?_,?_,World.cell?_setCell_same (h:=s3) ..,?_,?_,?_,by simpa using h.lt⟩
 ·rw [World.cell?_setCell_other (h:=by intro e; injection e with e1 e2; omega) ..,World.cell?_setCell_other (h:=by intro e; injection e with e1 e2; omega) ..]; exact s1
 ·rw [World.cell?_setCell_other (h:=by intro e; injection e with e1 e2; omega) ..]; exact World.cell?_setCell_same (h:=s2) ..
 ·rw [World.frozen?_setCell,World.frozen?_setCell,World.frozen?_setCell]; exact h.f0
 ·rw [World.frozen?_setCell,World.frozen?_setCell,World.frozen?_setCell]; exact h.f1
 ·rw [World.frozen?_setCell,World.frozen?_setCell,World.frozen?_setCell]; exact h.f2
theorem cq.TR {b:Nat} (h:cq w b u1 u2 u3) (y z:Value):cq ((w.setCell ⟨b,1,none⟩ y).setCell ⟨b,2,none⟩ z) b u1 y z:=by
 have s3:(w.setCell ⟨b,1,none⟩ y).cell? ⟨b,2,none⟩=some u3:=by
  rw [World.cell?_setCell_other (h:=by intro e; injection e with e1 e2; omega) ..]; exact h.c2
 refine ⟨?_,?_,World.cell?_setCell_same (h:=s3) ..,?_,?_,?_,by simpa using h.lt⟩
 ·rw [World.cell?_setCell_other (h:=by intro e; injection e with e1 e2; omega) ..,World.cell?_setCell_other (h:=by intro e; injection e with e1 e2; omega) ..]; exact h.c0
 ·rw [World.cell?_setCell_other (h:=by intro e; injection e with e1 e2; omega) ..]; exact World.cell?_setCell_same (h:=h.c1) ..
 ·rw [World.frozen?_setCell,World.frozen?_setCell]; exact h.f0
 ·rw [World.frozen?_setCell,World.frozen?_setCell]; exact h.f1
 ·rw [World.frozen?_setCell,World.frozen?_setCell]; exact h.f2
theorem mC {b:Nat} {x y:Value} (h:cq w b x y z):(loadVar 25 ⟨b,0,none⟩).run Tryz.prog w=.ok (.agg #[x,y,z]) w:=by
 obtain ⟨i0,hi,cN,bs,dI⟩:=info_parts fH
 have pY:(⟨b,0,none⟩:Addr).add 0=⟨b,0,none⟩:=by simp [Addr.add]
 have mr:(⟨b,0,none⟩:Addr).add 1=⟨b,1,none⟩:=by simp [Addr.add]
 have lS:(⟨b,0,none⟩:Addr).add 2=⟨b,2,none⟩:=by simp [Addr.add]
 have hg:(isAgg 25).run Tryz.prog w=.ok true w:=by kernel_rfl
 simp [loadVar,hg,sizeOf,typeInfo,hi,bs,loadCells,loadCellsFrom,load,pY,mr,lS];simp [Sem.run,h.c0,h.c1,h.c2]
theorem kz {fn:Func} {p:Go.Tmp} (h:fn.results=#[.cell p 25]) (tmps:Array Value) {b:Nat} {x y:Value} (hp:tmps.getD p undef=.pointer (some ⟨b,0,none⟩)) (h1:cq w b x y z) :
  (results fn tmps).run Tryz.prog w=.ok (.agg #[x,y,z]) w:=by
 have sR:tmps[p]?.getD undef=.pointer (some ⟨b,0,none⟩):=by simpa using hp
 simp [results,h,sR,asAddr,mC h1]
theorem bz {fn:Func} {p u:Go.Tmp} (h:fn.results=#[.cell p 25,.tmp u]) (tmps:Array Value) {b:Nat} {x y:Value} (hp:tmps.getD p undef=.pointer (some ⟨b,0,none⟩)) (hu:tmps.getD u undef=v) (h1:cq w b x y z) :
  (results fn tmps).run Tryz.prog w=.ok (.tuple #[.agg #[x,y,z],v]) w:=by
 rw [results_cell_tmp h,hp,hu];simp [asAddr,mC h1,Result.andThen]
theorem bw {o:Oper} {a:Act} (ho:o.op=.alloc 25):(execOp a.eval o).run Tryz.prog w=.ok (.value (.pointer (some ⟨w.heap.size,0,none⟩))) (w.alloc (.cells #[.int .i64 0,.slice none 0 0,.slice none 0 0] 25)):=by
 obtain ⟨i0,hi,cN,bs,dI⟩:=info_parts fH;unfold execOp;simp [ho,Instr.alloc,typeInfo,zeroValue,hi,cN,newVar,Value.cells,Result.andThen];rfl
theorem yT {o:Oper} {a:Act} {d:Int} (x:Operand) (ho:o.op=.build 25 #[(0,x)]) (hx:a.eval x=.int .i64 d) :
  (execOp a.eval o).run Tryz.prog w=.ok (.value (.agg #[.int .i64 d,.slice none 0 0,.slice none 0 0])) w:=by
 unfold execOp;simp only [ho,Sem.run_bind,Sem.run_pure];simp only [List.map_toArray,List.map_cons,List.map_nil,hx]
 have h:(Instr.build 25 #[(0,.int .i64 d)]).run Tryz.prog w=.ok (.agg #[.int .i64 d,.slice none 0 0,.slice none 0 0]) w:=by kernel_rfl
 first | (rw [h]; rfl) | (erw [h]; rfl)
theorem ep {o:Oper} {a:Act} (ho:o.op=.build 25 #[]) :
  (execOp a.eval o).run Tryz.prog w=.ok (.value (.agg #[.int .i64 0,.slice none 0 0,.slice none 0 0])) w:=by
 unfold execOp;simp only [ho,Sem.run_bind,Sem.run_pure]
 have h:(Instr.build 25 #[]).run Tryz.prog w=.ok (.agg #[.int .i64 0,.slice none 0 0,.slice none 0 0]) w:=by kernel_rfl
 first | (simp [h,Result.andThen]) | (rw [h]; rfl) | (erw [h]; rfl)
theorem gP (b:Nat) (w:World):(Instr.fieldAt 25 (.pointer (some ⟨b,0,none⟩)) 0).run Tryz.prog w=.ok (.pointer (some ⟨b,0,none⟩)) w:=by kernel_rfl
theorem gQ (b:Nat) (w:World):(Instr.fieldAt 25 (.pointer (some ⟨b,0,none⟩)) 1).run Tryz.prog w=.ok (.pointer (some ⟨b,1,none⟩)) w:=by kernel_rfl
theorem wQ (b:Nat) (w:World):(Instr.fieldAt 25 (.pointer (some ⟨b,0,none⟩)) 2).run Tryz.prog w=.ok (.pointer (some ⟨b,2,none⟩)) w:=by kernel_rfl
theorem Gy:(Tryz.prog.info? 22).map (fun i=>(i.zero,i.size,i.bytes))=some (some (.slice none 0 0),1,24):=by kernel_rfl
theorem DG:(Tryz.prog.info? 23).map (fun i=>(i.zero,i.size,i.bytes))=some (some (.slice none 0 0),1,24):=by kernel_rfl
theorem ke:Rg.pV Tryz.prog 23 41 (.slice none 0 0) 24:=⟨Tryz.underlying23,dF,rfl,by decide⟩
theorem yU (X:World) (u:Value) (hs:∃ a n c,u=.slice a n c):(Instr.buildSlice 23 1 #[(0,u)]).run Tryz.prog X=.ok (.slice (some ⟨X.heap.size,0,none⟩) 1 1) (X.alloc (.cells #[u] 41)):=by
 obtain ⟨i0,hi,cN,bs,dI⟩:=info_parts dF;obtain ⟨a,n,c,rfl⟩:=hs;refine run_buildSlice X 23 41 1 _ _ i0 _ Tryz.underlying23 hi cN (by rw [bs]; decide) (by rw [bs]; decide) ?_;generalize (fun x=>((Value.slice none 0 0).cells)[x % (Value.slice none 0 0).cells.size]!)=f;rw [bs];have h1:Array.range (1*1)=#[0]:=rfl;simp [Instr.fill,Value.cells,h1]
end
section
theorem aH.kp {F M:Nat->Prop} {w w':World} {v:Value} {ll:List (List Int)} (h:Rg.aH F w v ll) (hk:Rg.Kp M w w') (hF:∀ k,F k->¬ M k):Rg.aH F w' v ll:=by
 obtain ⟨us,h1,h2⟩:=h;exact ⟨us,h1.kp hk hF,h2.kp hk hF⟩
theorem aH.mono {F F':Nat->Prop} {w:World} {v:Value} {ll:List (List Int)} (h:Rg.aH F w v ll) (hF:∀ k,F k->F' k):Rg.aH F' w v ll:=by
 obtain ⟨us,h1,h2⟩:=h;exact ⟨us,h1.mono hF,h2.mono hF⟩
theorem aH.rows (h:Rg.aH F w v ll):Rg.Rows w v ll:=by
 obtain ⟨us,h1,h2⟩:=h;exact ⟨us,h1.zJ,h2.1,fun i a b=>(h2.2 i a b).ints⟩
theorem bG.kp {F M:Nat->Prop} {w w':World} {us:List Value} {ll:List (List (List Int))} (h:Rg.bG F w us ll) (hk:Rg.Kp M w w') (hF:∀ k,F k->¬ M k):Rg.bG F w' us ll:=⟨h.1,fun i a b=>aH.kp (h.2 i a b) hk hF⟩
theorem bG.mono {F F':Nat->Prop} {w:World} {us:List Value} {ll:List (List (List Int))} (h:Rg.bG F w us ll) (hF:∀ k,F k->F' k):Rg.bG F' w us ll:=⟨h.1,fun i a b=>aH.mono (h.2 i a b) hF⟩
theorem bx.snoc {us:List Value} {l:List Int} (h:Rg.bx F w us ll) (hu:Rg.FI F w u l):Rg.bx F w (us++[u]) (ll++[l]):=by
 refine ⟨by simp [h.1],fun i a b=>?_⟩
 by_cases e:i<us.length
 ·have e2:i<ll.length:=by rw [<- h.1]; exact e
  rw [List.getElem_append_left e,List.getElem_append_left e2];exact h.2 i e e2
 ·have e1:i=us.length:=by simp at a; omega
  subst e1;have hl:=h.1;simp [hl];exact hu
theorem bG.snoc {us:List Value} {ll:List (List (List Int))} {l:List (List Int)} (h:Rg.bG F w us ll) (hu:Rg.aH F w u l):Rg.bG F w (us++[u]) (ll++[l]):=by
 refine ⟨by simp [h.1],fun i a b=>?_⟩
 by_cases e:i<us.length
 ·have e2:i<ll.length:=by rw [<- h.1]; exact e
  rw [List.getElem_append_left e,List.getElem_append_left e2];exact h.2 i e e2
 ·have e1:i=us.length:=by simp at a; omega
  subst e1;have hl:=h.1;simp [hl];exact hu
def iP (B:Nat) (W:World) (tc:Nat) (ov rv:Value) (k:Nat):Prop:=B<=k/\k<W.heap.size/\ov.ownBlock≠some k/\rv.ownBlock≠some k/\k≠tc
structure eQ (B:Nat) (W:World) (tc:Nat) (c0 c1 c2 ov rv:Value) (O:List (List Int)) (R:List (List (List Int))):Prop where
 nC:cq W tc c0 c1 c2
 low:B<=tc
 own:∃ us vs,W.ownsRow B 26 1 ov O.length us/\W.ownsRow B 41 1 rv R.length vs/\Rg.bx (iP B W tc ov rv) W us O/\Rg.bG (iP B W tc ov rv) W vs R
 apart:∀ k,ov.ownBlock=some k->rv.ownBlock≠some k
 ot:ov.ownBlock≠some tc
 rt:rv.ownBlock≠some tc
theorem iP.up {k:Nat} (h:iP B W tc ov rv k) (hs:W.heap.size<=W'.heap.size):iP B W' tc ov rv k:=⟨h.1,Nat.lt_of_lt_of_le h.2.1 hs,h.2.2⟩
theorem eQ.jj {B:Nat} {W W':World} {tc:Nat} {c0 c1 c2 ov rv:Value} {O:List (List Int)} {R:List (List (List Int))} (h:eQ B W tc c0 c1 c2 ov rv O R) (hb:Below W.heap.size W W'):eQ B W' tc c0 c1 c2 ov rv O R:=by
 obtain ⟨us,vs,h1,h2,h3,h4⟩:=h.own;have hk:Rg.Kp (fun _=>False) W W':=Rg.Kp.az hb;exact ⟨h.nC.jj hb,h.low,⟨us,vs,Rg.bE h1 hb,Rg.bE h2 hb,(h3.kp hk (fun _ _=>id)).mono (fun k hk=>hk.up hb.size),bG.mono (bG.kp h4 hk (fun _ _=>id)) (fun k hk=>hk.up hb.size)⟩,h.apart,h.ot,h.rt⟩
theorem eQ.start {c0 c1 c2:Value} (ht:cq W tc c0 c1 c2) (hl:B<=tc):eQ B W tc c0 c1 c2 (.slice none 0 0) (.slice none 0 0) [] [] :=
 ⟨ht,hl,⟨[],[],World.ownsRow_nil _ _ _ _,World.ownsRow_nil _ _ _ _,Rg.bx.nil _ _,⟨rfl,fun i h=>by simp at h⟩⟩,fun k h=>by simp [Value.ownBlock] at h,by simp [Value.ownBlock],by simp [Value.ownBlock]⟩
theorem eQ.Kj {c0 c1 c2:Value} {O:List (List Int)} {R:List (List (List Int))} (h:eQ B W tc c0 c1 c2 ov rv O R):(∀ k,ov.ownBlock=some k->B<=k/\k<W.heap.size)/\(∀ k,rv.ownBlock=some k->B<=k/\k<W.heap.size):=by
 obtain ⟨us,vs,h1,h2,_⟩:=h.own;exact ⟨fun k e=>h1.lt k e,fun k e=>h2.lt k e⟩
theorem eQ.n7 {c0 c1 c2:Value} {O:List (List Int)} {R:List (List (List Int))} (h:eQ B W tc c0 c1 c2 ov rv O R) (hB:B<=W.heap.size) {x:Value} {l:List Int} (hx:Rg.FI (iP B W tc ov rv) W x l) (hs:x.oneCell'=true) (hO:O.length<1000000) {p:Nat} (hp:W.cell? ⟨p,0,none⟩=some x) (ty:TypeId) :
  ∃ a c X,(Builtin.append_ #[22,22] ty #[ov,.slice (some ⟨p,0,none⟩) 1 1]).run Tryz.prog W=.ok (.slice a (O.length+1) c) X/\eQ B X tc c0 c1 c2 (.slice a (O.length+1) c) rv (O++[l]) R/\W.grownBy X ov.ownBlock /\
   (∀ k,iP B W tc ov rv k->iP B X tc (.slice a (O.length+1) c) rv k):=by
 obtain ⟨us,vs,h1,h2,h3,h4⟩:=h.own;obtain ⟨v',X,r1,r2,r3,r4,a,c,rfl⟩:=eE (P:=Tryz.prog) bU ty h1 hB p 1 hp hs hO;have hk:Rg.Kp (fun k=>ov.ownBlock=some k) W X:=Rg.Kp.cE r3 fun _ e=>e
 have hm:∀ k,iP B W tc ov rv k->iP B X tc (.slice a (O.length+1) c) rv k:=fun k g=>by
  refine ⟨g.1,Nat.lt_of_lt_of_le g.2.1 hk.size,fun e=>?_,g.2.2.2⟩
  rcases r4 with r4 | r4
  ·rw [r4] at e; exact g.2.2.1 e
  ·rw [r4] at e; injection e with e; have:=g.2.1; omega
 have hg:∀ k,iP B W tc ov rv k->¬ ov.ownBlock=some k:=fun k g=>g.2.2.1;refine ⟨a,c,X,r1,⟨h.nC.kp hk h.ot,h.low,⟨us++[x],vs,by rw [List.length_append]; exact r2,fD h2 hk (fun k e e2=>h.apart k e e2),(bx.snoc (h3.kp hk hg) (hx.kp hk hg)).mono hm,bG.mono (bG.kp h4 hk hg) hm⟩,fun k e e2=>?_,fun e=>?_,h.rt⟩,r3,hm⟩
 ·rcases r4 with r4 | r4
  ·rw [r4] at e; exact h.apart k e e2
  ·rw [r4] at e; injection e with e; have:=(h.Kj.2 k e2).2; omega
 ·rcases r4 with r4 | r4
  ·rw [r4] at e; exact h.ot e
  ·rw [r4] at e; injection e with e; have:=h.nC.lt; omega
theorem eQ.TV {c0 c1 c2:Value} {O:List (List Int)} {R:List (List (List Int))} (h:eQ B W tc c0 c1 c2 ov rv O R) (hB:B<=W.heap.size) {x:Value} {l:List (List Int)} (hx:Rg.aH (iP B W tc ov rv) W x l) (hs:x.oneCell'=true) (hR:R.length<1000000) {p:Nat} (hp:W.cell? ⟨p,0,none⟩=some x) (ty:TypeId) :
  ∃ a c X,(Builtin.append_ #[23,23] ty #[rv,.slice (some ⟨p,0,none⟩) 1 1]).run Tryz.prog W=.ok (.slice a (R.length+1) c) X/\eQ B X tc c0 c1 c2 ov (.slice a (R.length+1) c) O (R++[l])/\W.grownBy X rv.ownBlock:=by
 obtain ⟨us,vs,h1,h2,h3,h4⟩:=h.own;obtain ⟨v',X,r1,r2,r3,r4,a,c,rfl⟩:=eE (P:=Tryz.prog) ke ty h2 hB p 1 hp hs hR;have hk:Rg.Kp (fun k=>rv.ownBlock=some k) W X:=Rg.Kp.cE r3 fun _ e=>e
 have hm:∀ k,iP B W tc ov rv k->iP B X tc ov (.slice a (R.length+1) c) k:=fun k g=>by
  refine ⟨g.1,Nat.lt_of_lt_of_le g.2.1 hk.size,g.2.2.1,fun e=>?_,g.2.2.2.2⟩
  rcases r4 with r4 | r4
  ·rw [r4] at e; exact g.2.2.2.1 e
  ·rw [r4] at e; injection e with e; have:=g.2.1; omega
 have hg:∀ k,iP B W tc ov rv k->¬ rv.ownBlock=some k:=fun k g=>g.2.2.2.1;refine ⟨a,c,X,r1,⟨h.nC.kp hk h.rt,h.low,⟨us,vs++[x],fD h1 hk (fun k e e2=>h.apart k e2 e),by rw [List.length_append]; exact r2,(h3.kp hk hg).mono hm,bG.mono (bG.snoc (bG.kp h4 hk hg) (aH.kp hx hk hg)) hm⟩,fun k e e2=>?_,h.ot,fun e=>?_⟩,r3⟩
 ·rcases r4 with r4 | r4
  ·rw [r4] at e2; exact h.apart k e e2
  ·rw [r4] at e2; injection e2 with e2; have:=(h.Kj.1 k e).2; omega
 ·rcases r4 with r4 | r4
  ·rw [r4] at e; exact h.rt e
  ·rw [r4] at e; injection e with e; have:=h.nC.lt; omega
theorem eQ.store {c0 c1 c2:Value} {O:List (List Int)} {R:List (List (List Int))} (h:eQ B W tc c0 c1 c2 ov rv O R) (y z:Value) :
  eQ B ((W.setCell ⟨tc,1,none⟩ y).setCell ⟨tc,2,none⟩ z) tc c0 y z ov rv O R:=by
 obtain ⟨us,vs,h1,h2,h3,h4⟩:=h.own;have hk:Rg.Kp (fun k=>k=tc) W ((W.setCell ⟨tc,1,none⟩ y).setCell ⟨tc,2,none⟩ z):=Rg.Kp.trans (Rg.Kp.aL (M:=fun k=>k=tc) rfl) (Rg.Kp.aL (M:=fun k=>k=tc) rfl) (fun _ _ e=>e);have hg:∀ k,iP B W tc ov rv k->¬ k=tc:=fun k g=>g.2.2.2.2;have hm:∀ k,iP B W tc ov rv k->iP B ((W.setCell ⟨tc,1,none⟩ y).setCell ⟨tc,2,none⟩ z) tc ov rv k:=fun k g=>g.up hk.size;exact ⟨h.nC.TR y z,h.low,⟨us,vs,fD h1 hk (fun k e e2=>h.ot (e▸e2)),fD h2 hk (fun k e e2=>h.rt (e▸e2)),(h3.kp hk hg).mono hm,bG.mono (bG.kp h4 hk hg) hm⟩,h.apart,h.ot,h.rt⟩
def fI (w:World) (v:Value) (lz:List (List (List Int))):Prop:=∃ us,Rg.cz w v us/\us.length=lz.length/\∀ i (h:i<us.length) (h2:i<lz.length),Rg.Rows w us[i] lz[i]
theorem fI.jj {w w':World} {v:Value} {lz:List (List (List Int))} (h:fI w v lz) (hb:Below w.heap.size w w'):fI w' v lz:=by
 obtain ⟨us,h1,h2,h3⟩:=h;exact ⟨us,Rg.iy.jj h1 hb,h2,fun i a b=>(h3 i a b).jj hb⟩
end
section
attribute [local irreducible] Go.Calls
theorem MN (args:Array Value) (w:World):(callFunc 149 args).run Tryz.prog w=.ok (.enter 149 args) w:=by kernel_rfl
theorem MO (args:Array Value) (w:World):(callFunc 122 args).run Tryz.prog w=.ok (.enter 122 args) w:=by kernel_rfl
theorem MP (args:Array Value) (w:World):(callFunc 123 args).run Tryz.prog w=.ok (.enter 123 args) w:=by kernel_rfl
theorem mD (v:Value) (l:List Int) (w:World) (h:Rg.Ints w v l) (h1:1<=l.length) (hl:l.length<=1000000) :
  Calls Tryz.prog 75 #[v] w fun e w'=>∃ v',e=.returned v'/\w'.ownsRow w.heap.size 3 1 v' l.length (l.map (Value.int .i64))/\Below w.heap.size w w':=by
 obtain ⟨la,lc,rfl,_,_,_,hs⟩:=h.shape;obtain ⟨b,o,rfl,_⟩:=hs (by omega);have HI:=U h;have K:=U (Below.refl w.heap.size w);clear h hs
 go_enter Tryz.func75,Tryz.ntmps75
 go_upto_region 1 with (fail);refine d3 ?_;refine d5 3 (.slice (some ⟨b,o,none⟩) l.length lc) ?_;go_frame;refine d4 4 (ky _ _ rfl rfl rfl) ?_;go_frame;go_upto_region 3 with (fail);refine d3 ?_;have bY:=qX.new (B:=w.heap.size) w (Nat.le_refl _);refine d4 5 (Rg.qO cj rfl w) ?_;go_frame;have hb:=(Below.refl w.heap.size w).alloc (Nat.le_refl _) (.cells #[] 3);generalize w.alloc (.cells #[] 3)=w1 at *;replace HI:=U (HI.p.jj hb);replace K:=U (Rg.acc K.p hb);clear hb;have FO:=U bY;refine d5 6 (.slice (some ⟨b,o,none⟩) l.length lc) ?_;go_frame;obtain ⟨v5,X5,r1,r2,r3⟩:=Rg.sO (P:=Tryz.prog) cj 27 FO.p.1 K.p.size HI.p um (by rw [List.length_map]; omega);refine d4 7 (Rg.bu _ _ _ rfl rfl rfl r1) ?_;go_frame;refine d6 2 (v5) ?_;go_frame;rw [List.length_map,Nat.zero_add,List.nil_append] at r2
 have R2:=U r2;have K5:=U (K.p.grown r3 K.p.size (fun j hj=>(FO.p.1.lt j hj).1));clear r1 r2 r3 FO;go_wp2;go_ret;exact ⟨_,rfl,R2.p,K5.p⟩
theorem A6 (Bs:Nat) (sv:Value) (zs:List Int) (hlen:zs.length<=1000000) (w:World) (wP:Bs<w.heap.size) (dK:w.cell? ⟨Bs,0,none⟩=some sv) (hI:g_ w.heap.size w sv zs) :
  Calls Tryz.prog 122 #[.func (.func 124) #[] #[.pointer (some ⟨Bs,0,none⟩)]] w fun e w'=>∃ v,e=.returned v/\w'.ownsRow w.heap.size 3 1 v zs.length (zs.map (Value.int .i64))/\Below w.heap.size w w':=by
 have DH:=callsIn_wide.1 (yS Fence.wide 3 trivial trivial rfl (by omega) Bs sv zs hlen w wP dK hI);clear wP dK hI
 go_enter Tryz.func122,Tryz.ntmps122
 go_upto_region 1 with (fail);refine d3 ?_;refine d5 3 (.func (.func 124) #[] #[.pointer (some ⟨Bs,0,none⟩)]) ?_;go_frame;refine f7 4 (aw 149 _ _ _ rfl rfl rfl (MN _ _)) ?_;refine (DH).mono ?_;rintro e1 w1 ⟨v,rfl,cr,hb⟩;have R:=U cr;have KB:=U hb;refine ⟨_,rfl,?_⟩;go_frame;clear hb;refine d6 2 (v) ?_;go_frame;clear DH cr;go_wp2;go_ret;exact ⟨_,rfl,R.p,KB.p⟩
theorem ux (Bs:Nat) (sv:Value) (zs:List Int) (h1:1<=zs.length) (hlen:zs.length<=1000000) (w:World) (wP:Bs<w.heap.size) (dK:w.cell? ⟨Bs,0,none⟩=some sv) (hI:g_ w.heap.size w sv zs) :
  Calls Tryz.prog 93 #[.func (.func 124) #[] #[.pointer (some ⟨Bs,0,none⟩)]] w fun e w'=>∃ v,e=.returned v/\w'.ownsRow w.heap.size 3 1 v zs.length ((Ob.eK zs).map (Value.int .i64))/\Below w.heap.size w w':=by
 have DH:=A6 Bs sv zs hlen w wP dK hI;clear wP dK hI
 go_enter Tryz.func93,Tryz.ntmps93
 go_upto_region 1 with (fail);refine d3 ?_;refine d5 4 (.func (.func 124) #[] #[.pointer (some ⟨Bs,0,none⟩)]) ?_;go_frame;refine f7 5 (aF 122 _ _ rfl rfl (MO _ _)) ?_;refine (DH).mono ?_;rintro e1 w1 ⟨v,rfl,cr,hb⟩;have R:=U cr;have KB:=U hb;refine ⟨_,rfl,?_⟩;go_frame;clear hb;refine d6 3 (v) ?_;go_frame;clear DH cr;go_upto_region 2 with (fail);refine d3 ?_;refine d5 6 (v) ?_;go_frame;refine f7 7 (aF 123 _ _ rfl rfl (MP _ _)) ?_;refine (J9 w.heap.size zs.length v zs w1 R.p h1 (by omega)).mono ?_;rintro e1 w2 ⟨⟨r,rfl⟩,MQ,mE⟩;have R2:=U MQ;have K2:=U (KB.p.grown mE KB.p.size (fun j hj=>(R.p.lt j hj).1));refine ⟨_,rfl,?_⟩;go_frame;clear mE;clear MQ;go_wp2;go_ret;exact ⟨_,rfl,R2.p,K2.p⟩
end
end Go.Proofs.YtpedbljnhnoohaaGreat
namespace Go.Proofs.Cm
open Go.Proofs
structure PC (n:Nat) (H:List Nat->Prop) (tr:Tr) (k:Nat) (O:List (List Nat)) (R:List (List (List Nat))):Prop where
 gK:O.length=k
 iq:R.length=k
 eK:∀ i,i<k->(O.getD i []).Pairwise (· < ·)
 orb:∀ i p,i<k->(p∈O.getD i []↔∃ u,tr i p=some u)
 len:∀ i,i<k->(R.getD i []).length=(O.getD i []).length
 rep:∀ i j,i<k->j<(O.getD i []).length->lu n (fun z=>St H i z/\ap z i=(O.getD i []).getD j 0) ((R.getD i []).getD j [])
theorem PC.nil (n:Nat) (H:List Nat->Prop) (tr:Tr):PC n H tr 0 [] []:=⟨rfl,rfl,fun _ h=>absurd h (Nat.not_lt_zero _),fun _ _ h=>absurd h (Nat.not_lt_zero _),fun _ h=>absurd h (Nat.not_lt_zero _),fun _ _ h=>absurd h (Nat.not_lt_zero _)⟩
theorem PC.snoc {tr:Tr} {k:Nat} (h:PC n H tr k O R) {o:List Nat} {r:List (List Nat)} (h1:o.Pairwise (· < ·)) (h2:∀ p,p∈o↔∃ u,tr k p=some u) (h3:r.length=o.length)
  (h4:∀ j,j<o.length->lu n (fun z=>St H k z/\ap z k=o.getD j 0) (r.getD j [])):PC n H tr (k+1) (O++[o]) (R++[r]):=by
 have eO:∀ i,i<k->(O++[o]).getD i []=O.getD i []:=fun i hi=>by
  rw [List.getD_eq_getElem?_getD,List.getD_eq_getElem?_getD,List.getElem?_append_left (by rw [h.gK]; exact hi)]
 have eR:∀ i,i<k->(R++[r]).getD i []=R.getD i []:=fun i hi=>by
  rw [List.getD_eq_getElem?_getD,List.getD_eq_getElem?_getD,List.getElem?_append_left (by rw [h.iq]; exact hi)]
 have Qm:(O++[o]).getD k []=o:=by
  rw [List.getD_eq_getElem?_getD,List.getElem?_append_right (by rw [h.gK]; exact Nat.le_refl _),h.gK]; simp
 have Xb:(R++[r]).getD k []=r:=by
  rw [List.getD_eq_getElem?_getD,List.getElem?_append_right (by rw [h.iq]; exact Nat.le_refl _),h.iq]; simp
 refine ⟨by simp [h.gK],by simp [h.iq],fun i hi=>?_,fun i p hi=>?_,fun i hi=>?_,fun i j hi hj=>?_⟩
 ·by_cases e:i=k
  ·subst e; rw [Qm]; exact h1
  ·rw [eO i (by omega)]; exact h.eK i (by omega)
 ·by_cases e:i=k
  ·subst e; rw [Qm]; exact h2 p
  ·rw [eO i (by omega)]; exact h.orb i p (by omega)
 ·by_cases e:i=k
  ·subst e; rw [Qm,Xb]; exact h3
  ·rw [eO i (by omega),eR i (by omega)]; exact h.len i (by omega)
 ·by_cases e:i=k
  ·subst e; rw [Qm] at hj ⊢; rw [Xb]; exact h4 j hj
  ·rw [eO i (by omega)] at hj ⊢; rw [eR i (by omega)]; exact h.rep i j (by omega) hj
theorem PC.MR {tr:Tr} (h:PC n H tr n O R) (ht:pL n H tr):ak n H O R :=
 ⟨h.gK,h.iq,h.eK,fun i p hi=>by
  rw [h.orb i p hi]
  constructor
  ·rintro ⟨u,hu⟩
   exact ⟨u,⟨ht.mem i p u hi hu,ht.rp.fx i p u (Nat.zero_le _) hi hu⟩,ht.rp.at_ i p u (Nat.zero_le _) hi hu⟩
  ·rintro ⟨x,hx,rfl⟩
   exact ht.all i x hi hx,h.len,h.rep⟩
theorem Kk (xs:List Nat) (nd:xs.Nodup):∃ l:List Nat,((xs.map (fun x:Nat=>(x:Int))).mergeSort (fun a b=>decide (a<=b)))=l.map (fun x:Nat=>(x:Int))/\l.Pairwise (· < ·)/\(∀ p,p∈l↔p∈xs)/\l.length=xs.length:=by
 have hp:=List.mergeSort_perm (xs.map (fun x:Nat=>(x:Int))) (fun a b=>decide (a<=b));have hs:=List.pairwise_mergeSort (le:=fun a b:Int=>decide (a<=b)) (fun a b c h1 h2=>by simp at *; omega) (fun a b=>by simp; omega) (xs.map (fun x:Nat=>(x:Int)));generalize (xs.map (fun x:Nat=>(x:Int))).mergeSort (fun a b=>decide (a<=b))=m at *
 have hm:∀ z∈m,0<=z:=fun z hz=>by
  have:=hp.mem_iff.1 hz;simp at this;obtain ⟨a,_,rfl⟩:=this;omega
 have e:(m.map Int.toNat).map (fun x:Nat=>(x:Int))=m:=by
  rw [List.map_map]
  conv=>rhs; rw [<- List.map_id m]
  refine List.map_congr_left fun z hz=>?_;have:=hm z hz;simp; omega
 have hnd:m.Nodup:=hp.nodup_iff.2 (List.pairwise_map.2 (nd.imp fun h e=>h (by omega)));refine ⟨m.map Int.toNat,e.symm,?_,fun p=>?_,?_⟩
 ·rw [List.pairwise_map]
  have h2:m.Pairwise (fun a b=>a≠b):=hnd;refine (List.Pairwise.and hs h2).imp_of_mem fun {a b} ha hb eX=>?_;have h3:=hm a ha;have h4:=hm b hb
  have h5:a<=b:=by simpa using eX.1
  have h6:=eX.2;omega
 ·constructor
  ·intro om
   obtain ⟨z,hz,rfl⟩:=List.mem_map.1 om;have:=hp.mem_iff.1 hz;simp at this;obtain ⟨a,ha,rfl⟩:=this
   simpa using ha
  ·intro hpx
   refine List.mem_map.2 ⟨(p:Int),hp.mem_iff.2 (List.mem_map.2 ⟨p,hpx,rfl⟩),by simp⟩
 ·rw [List.length_map,hp.length_eq,List.length_map]
end Go.Proofs.Cm
namespace Go.Proofs.YtpedbljnhnoohaaGreat
open Go.RowKit
open Go.Proofs
open Go.Proofs.Cm (Lv aY bJ)
attribute [local irreducible] Go.Calls
theorem CF.jj {b o:Nat} (h:CF F w b o v) (hb:Below w.heap.size w w'):CF F w' b o v:=h.kf (KF.az hb)
theorem FP.jj {p:List Nat} (h:FP F w v p) (hb:Below w.heap.size w w'):FP F w' v p:=h.kf (KF.az hb)
theorem CL.jj {b o:Nat} (h:CL w b o v) (hb:Below w.heap.size w w'):CL w' b o v:=h.up hb
theorem aR.jj {T:aY} {V:Nat->LV} (h:aR F L n w T V) (hb:Below w.heap.size w w'):aR F L n w' T V:=by
 have hk:Rg.Kp (fun _=>False) w w':=Rg.Kp.az hb;exact ⟨fun k hf=>Nat.lt_of_lt_of_le (h.jD k hf) hb.size,h.LF,lQ h.row hk id,fun i hi=>(h.lv i hi).kp hk (fun _ _=>id) (fun _ _=>id),h.jE⟩
theorem g_.Qn {e:TypeId} {xs:List Int} (h:w.ownsRow B e 1 v n (xs.map (Value.int .i64))) (hn:n=xs.length) (h0:0<n):g_ w.heap.size w v xs:=by
 subst hn;have hh:=h;obtain ⟨h1,h2⟩:=h
 rcases h2 with ⟨_,h0'⟩ | ⟨g,cap,cur,rfl,hg,hc,h3,h4,h5,h6⟩
 ·omega
 ·refine ⟨g,0,cap,rfl,(Array.getElem?_eq_some_iff.1 hc).1,fun j hj=>?_⟩
  obtain ⟨g',c',u,e1,e2,e3,e4⟩:=kV hh hj;simp at e1;obtain ⟨rfl,_⟩:=e1;rw [e2];simp [List.getElem?_eq_getElem hj] at e3 ⊢;exact e3.symm
theorem g_.up {xs:List Int} (h:g_ w.heap.size w v xs) (hb:Below w.heap.size w w'):g_ w'.heap.size w' v xs:=by
 obtain ⟨b,o,c,e,h1,h2⟩:=h;exact ⟨b,o,c,e,Nat.lt_of_lt_of_le h1 hb.size,fun j hj=>(hb.cell (p:=⟨b,o+j,none⟩) h1).trans (h2 j hj)⟩
theorem oq (a:Option Addr) (len cap:Nat) (w:World) :
  Calls Tryz.prog 94 #[.slice a len cap] w fun e w'=>∃ fb,e=.returned (.func (.func 124) #[] #[.pointer (some ⟨fb,0,none⟩)])/\CL w' fb 0 (.slice a len cap)/\Below w.heap.size w w':=by
 refine (callsIn_wide.1 (Gw Fence.wide 3 trivial rfl a len cap w)).mono ?_;rintro e w' ⟨rfl,rfl⟩;exact ⟨_,rfl,⟨by rw [Rg.aI]; rfl,by simp⟩,(Below.refl _ _).alloc (Nat.le_refl _) _⟩
def PG (B:Nat) (W:World) (v:Value) (k:Nat):Prop:=B<=k/\k<W.heap.size/\v.ownBlock≠some k
structure jF (B:Nat) (W:World) (v:Value) (ll:List (List Int)):Prop where
 own:∃ us,W.ownsRow B 27 1 v ll.length us/\Rg.bx (PG B W v) W us ll
theorem jF.nil (B:Nat) (W:World):jF B W (.slice none 0 0) []:=⟨[],World.ownsRow_nil _ _ _ _,Rg.bx.nil _ _⟩
theorem jF.jj (h:jF B W v ll) (hb:Below W.heap.size W W'):jF B W' v ll:=by
 obtain ⟨us,h1,h2⟩:=h.own;exact ⟨us,Rg.bE h1 hb,(h2.kp (M:=fun _=>False) (Rg.Kp.az hb) (fun _ _=>id)).mono fun k hk=>⟨hk.1,Nat.lt_of_lt_of_le hk.2.1 hb.size,hk.2.2⟩⟩
theorem jF.push (h:jF B W v ll) (hB:B<=W.heap.size) {l:List Int} {B2:Nat} (hu:W.ownsRow B2 3 1 u l.length (l.map (Value.int .i64))) (hl:l.length<=1000000000) (Xc:∀ k,u.ownBlock=some k->B<=k/\v.ownBlock≠some k) (hn:ll.length<1000000) (ty:TypeId) :
  ∃ a c X,(Builtin.append_ #[41,41] ty #[v,.slice (some ⟨W.heap.size,0,none⟩) 1 1]).run Tryz.prog (W.alloc (.cells #[u] 27))=.ok (.slice a (ll.length+1) c) X/\jF B X (.slice a (ll.length+1) c) (ll++[l])/\(∀ {B':Nat} {W0:World},B'<=B->Below B' W0 W->Below B' W0 X):=by
 obtain ⟨us,h1,h2⟩:=h.own;have hb:Below W.heap.size W (W.alloc (.cells #[u] 27)):=(Below.refl _ _).alloc (Nat.le_refl _) _;obtain ⟨ua,uc,hue⟩:=Rg.cn hu;have hv:Rg.FI (PG B W v) W u l:=Rg.cB.of (Rg.cz.cR hu hl) (fun k e=>⟨(Xc k e).1,(hu.lt k e).2,(Xc k e).2⟩);have aE:=fun k e=>(h1.lt k e).2;obtain ⟨v',X,r1,r2,r3,r4,a,c,rfl⟩:=eE (P:=Tryz.prog) bP ty (Rg.bE h1 hb) (Nat.le_trans hB hb.size) W.heap.size 1 (u:=u) (by rw [Rg.aI]; rfl) (by rw [hue]; rfl) hn;have ir:Rg.Kp (fun _=>False) W (W.alloc (.cells #[u] 27)):=Rg.Kp.az hb
 have dR:(W.alloc (.cells #[u] 27)).heap.size=W.heap.size+1:=by simp
 have hk:Rg.Kp (fun k=>v.ownBlock=some k) W X:=Rg.Kp.trans (M:=fun k=>v.ownBlock=some k) (ir.iR fun _=>False.elim) (Rg.Kp.cE r3 fun _ e=>e) (fun _ _ e=>e);have hg:∀ k,PG B W v k->¬ v.ownBlock=some k:=fun k g=>g.2.2
 have hm:∀ k,PG B W v k->PG B X (.slice a (ll.length+1) c) k:=fun k g=>by
  refine ⟨g.1,Nat.lt_of_lt_of_le g.2.1 hk.size,fun e=>?_⟩
  rcases r4 with r4 | r4
  ·rw [r4] at e; exact g.2.2 e
  ·rw [r4] at e; injection e with e; have:=g.2.1; omega
 refine ⟨a,c,X,r1,⟨us++[u],by rw [List.length_append]; exact r2,(bx.snoc (h2.kp hk hg) (hv.kp hk hg)).mono hm⟩,fun {B' W0} MS kq=>?_⟩;refine (kq.trans ⟨hk.os,hk.tape,hk.output,hk.size,fun k P_=>hk.block k ?_ fun e=>?_⟩)
 ·have:=kq.size; omega
 ·have:=(h1.lt k e).1; omega
end Go.Proofs.YtpedbljnhnoohaaGreat
namespace Go.Proofs.Rg
open Go Go.RowKit
variable {P:Program} {md:Region.Mode} {ops:Array Oper} {Q:Exit->Act->World->Prop} {S:Array Bool->World->Prop}
theorem Any.TW {i k q di dk dj dq:Nat} {vq:Value} {I R0:World->Prop} {Ri Rk Rj:Value->World->Prop} {l:Array Bool} {a:Act} (hS:∀ l W,I W->S l W)
  (ij:i≠j) (kj:k≠j) (qj:q≠j) (dij:di≠dj) (dkj:dk≠dj) (dqj:dq≠dj)
  (r0:Region.ready md ops l=[i,j]) (ri:Region.ready md ops (l.setIfInBounds i true)=[k,j]) (rj:Region.ready md ops (l.setIfInBounds j true)=[i])
  (Xd:Region.ready md ops (((l.setIfInBounds i true).setIfInBounds k true).setIfInBounds q true)=[j]) (Xe:Region.ready md ops ((l.setIfInBounds i true).setIfInBounds j true)=[k])
  (Qo:∀ u x W m,S ((l.setIfInBounds i true).setIfInBounds k true) W->Any P md ops Q S m (((l.setIfInBounds i true).setIfInBounds k true).setIfInBounds q true) (((a.put (some di) u).put (some dk) x).put (some dq) vq) W->Any P md ops Q S (m+1) ((l.setIfInBounds i true).setIfInBounds k true) ((a.put (some di) u).put (some dk) x) W)
  (wR:∀ u v x W m,S (((l.setIfInBounds i true).setIfInBounds j true).setIfInBounds k true) W->Any P md ops Q S m ((((l.setIfInBounds i true).setIfInBounds j true).setIfInBounds k true).setIfInBounds q true) ((((a.put (some di) u).put (some dj) v).put (some dk) x).put (some dq) vq) W->Any P md ops Q S (m+1) (((l.setIfInBounds i true).setIfInBounds j true).setIfInBounds k true) (((a.put (some di) u).put (some dj) v).put (some dk) x) W)
  (s0:∀ W W',Below W.heap.size W W'->R0 W->R0 W') (si:∀ u W W',Below W.heap.size W W'->Ri u W->Ri u W') (sk:∀ u W W',Below W.heap.size W W'->Rk u W->Rk u W') (sj:∀ u W W',Below W.heap.size W W'->Rj u W->Rj u W')
  (hi:∀ b,(b=a∨∃ u,b=a.put (some dj) u)->∀ W,I W->Does P ops Q i di I Ri (fun W W'=>Below W.heap.size W W') b W)
  (hj:∀ b,(b=a∨(∃ u,b=a.put (some di) u)∨∃ u v,b=((a.put (some di) u).put (some dk) v).put (some dq) vq)->∀ W,I W->Does P ops Q j dj I Rj (fun W W'=>Below W.heap.size W W') b W)
  (hk:∀ u b,(b=a.put (some di) u∨∃ v,b=(a.put (some di) u).put (some dj) v)->∀ W,I W->R0 W->Ri u W->Does P ops Q k dk I Rk (fun W W'=>∀ v,Rj v W->Rj v W') b W)
  (hI:I w) (h0:R0 w) (h:∀ W u x v,I W->Rk x W->Rj v W->Any P md ops Q S n ((((l.setIfInBounds i true).setIfInBounds k true).setIfInBounds q true).setIfInBounds j true) ((((a.put (some di) u).put (some dk) x).put (some dq) vq).put (some dj) v) W) :
  Any P md ops Q S (n+4) l a w:=by
 have ha:∀ u x v:Value,(((a.put (some di) u).put (some dj) v).put (some dk) x).put (some dq) vq=((((a.put (some di) u).put (some dk) x).put (some dq) vq).put (some dj) v):=fun u x v=>by
  rw [put_comm (a.put (some di) u) v x (Ne.symm dkj),put_comm ((a.put (some di) u).put (some dk) x) v vq (Ne.symm dqj)]
 have hl:(((l.setIfInBounds i true).setIfInBounds j true).setIfInBounds k true).setIfInBounds q true=(((l.setIfInBounds i true).setIfInBounds k true).setIfInBounds q true).setIfInBounds j true:=by
  rw [Array.setIfInBounds_comm true true (xs:=l.setIfInBounds i true) (Ne.symm kj),Array.setIfInBounds_comm true true (xs:=(l.setIfInBounds i true).setIfInBounds k true) (Ne.symm qj)]
 refine Any.two r0 ?_ ?_
 ·refine wpOp_mono ?_ (hi a (.inl rfl) w hI)
  rintro c W ⟨u,rfl,h1,h2,h3⟩;refine ⟨hS _ _ h1,Any.two ri ?_ ?_⟩
  ·refine wpOp_mono ?_ (hk u _ (.inl rfl) W h1 (s0 _ _ h3 h0) h2)
   rintro c W' ⟨x,rfl,g1,g2,g3⟩;refine ⟨hS _ _ g1,Qo u x W' (n+1) (hS _ _ g1) (Any.one Xd ?_)⟩;refine wpOp_mono ?_ (hj _ (.inr (.inr ⟨u,x,rfl⟩)) W' g1);rintro c qf ⟨v,rfl,e1,e2,e3⟩;exact ⟨hS _ _ e1,h _ _ _ _ e1 (sk _ _ _ e3 g2) e2⟩
  ·refine wpOp_mono ?_ (hj _ (.inr (.inl ⟨u,rfl⟩)) W h1)
   rintro c W' ⟨v,rfl,g1,g2,g3⟩;refine ⟨hS _ _ g1,Any.one Xe ?_⟩;refine wpOp_mono ?_ (hk u _ (.inr ⟨v,rfl⟩) W' g1 (s0 _ _ g3 (s0 _ _ h3 h0)) (si _ _ _ g3 h2));rintro c qf ⟨x,rfl,e1,e2,e3⟩;refine ⟨hS _ _ e1,wR u v x qf n (hS _ _ e1) ?_⟩;rw [ha,hl];exact h qf u x v e1 e2 (e3 _ g2)
 ·refine wpOp_mono ?_ (hj a (.inl rfl) w hI)
  rintro c W ⟨v,rfl,h1,h2,h3⟩;refine ⟨hS _ _ h1,Any.one rj ?_⟩;refine wpOp_mono ?_ (hi _ (.inr ⟨v,rfl⟩) W h1);rintro c W' ⟨u,rfl,g1,g2,g3⟩;refine ⟨hS _ _ g1,Any.one (by rw [Array.setIfInBounds_comm _ _ (Ne.symm ij)]; exact Xe) ?_⟩;rw [put_comm a v u (Ne.symm dij),Array.setIfInBounds_comm _ _ (Ne.symm ij)];refine wpOp_mono ?_ (hk u _ (.inr ⟨v,rfl⟩) W' g1 (s0 _ _ g3 (s0 _ _ h3 h0)) g2);rintro c qf ⟨x,rfl,e1,e2,e3⟩;refine ⟨hS _ _ e1,wR u v x qf n (hS _ _ e1) ?_⟩;rw [ha,hl];exact h qf u x v e1 e2 (e3 _ (sj _ _ _ g3 h2))
end Go.Proofs.Rg
namespace Go.Proofs.YtpedbljnhnoohaaGreat
open Go.RowKit
open Go.Proofs
section
open Go.Proofs.Cm (Lv aY bJ)
attribute [local irreducible] Go.Calls
theorem Gz (args:Array Value) (w:World):(callFunc 94 args).run Tryz.prog w=.ok (.enter 94 args) w:=by kernel_rfl
theorem GA (args:Array Value) (w:World):(callFunc 93 args).run Tryz.prog w=.ok (.enter 93 args) w:=by kernel_rfl
theorem TX (args:Array Value) (w:World):(callFunc 95 args).run Tryz.prog w=.ok (.enter 95 args) w:=by kernel_rfl
theorem tB (args:Array Value) (w:World):(callFunc 75 args).run Tryz.prog w=.ok (.enter 75 args) w:=by kernel_rfl
structure gG (B:Nat) (W:World) (v:Value) (l:List Int):Prop where
 own:W.ownsRow B 3 1 v l.length (l.map (Value.int .i64))
theorem gG.jj {l:List Int} (h:gG B W v l) (hb:Below W.heap.size W W'):gG B W' v l:=⟨Rg.bE h.own hb⟩
structure SZ (m:Nat) (W:World):Prop where
 le:m<=W.heap.size
theorem SZ.jj {m:Nat} (h:SZ m W) (hb:Below W.heap.size W W'):SZ m W':=⟨Nat.le_trans h.le hb.size⟩
theorem jF.lt {B:Nat} {W:World} {v:Value} {ll:List (List Int)} (h:jF B W v ll):∀ k,v.ownBlock=some k->B<=k/\k<W.heap.size:=fun k e=>by
 obtain ⟨us,h1,_⟩:=h.own;exact h1.lt k e
theorem jF.shape (h:jF B W v ll):∃ a c,v=.slice a ll.length c:=by
 obtain ⟨us,h1,_⟩:=h.own;exact Rg.cn h1
theorem jF.TY (h:jF B W v ll) (hl:ll.length<=1000000000) {G:Nat->Prop} (hG:∀ k,B<=k->k<W.heap.size->G k):Rg.aH G W v ll:=by
 obtain ⟨us,h1,h2⟩:=h.own;exact ⟨us,Rg.cB.of (Rg.cz.cR h1 hl) (fun k e=>hG k (h1.lt k e).1 (h1.lt k e).2),h2.mono fun k g=>hG k g.1 g.2.1⟩
theorem gG.fi {l:List Int} (h:gG B W v l) (hl:l.length<=1000000000) {G:Nat->Prop} (hG:∀ k,B<=k->k<W.heap.size->G k):Rg.FI G W v l :=
 Rg.cB.of (Rg.cz.cR h.own hl) (fun k e=>hG k (h.own.lt k e).1 (h.own.lt k e).2)
theorem cq.Sp {b:Nat} (h:cq w b u1 u2 u3) (y:Value):cq (w.setCell ⟨b,1,none⟩ y) b u1 y u3:=by
 refine ⟨?_,World.cell?_setCell_same (h:=h.c1) ..,?_,?_,?_,?_,by simpa using h.lt⟩
 ·rw [World.cell?_setCell_other (h:=by intro e; injection e with e1 e2; omega) ..]; exact h.c0
 ·rw [World.cell?_setCell_other (h:=by intro e; injection e with e1 e2; omega) ..]; exact h.c2
 ·rw [World.frozen?_setCell]; exact h.f0
 ·rw [World.frozen?_setCell]; exact h.f1
 ·rw [World.frozen?_setCell]; exact h.f2
theorem eQ.Qp {c0 c1 c2:Value} {O:List (List Int)} {R:List (List (List Int))} (h:eQ B W tc c0 c1 c2 ov rv O R):∃ a c,ov=.slice a O.length c:=by
 obtain ⟨us,vs,h1,_⟩:=h.own;exact Rg.cn h1
theorem eQ.Qq {c0 c1 c2:Value} {O:List (List Int)} {R:List (List (List Int))} (h:eQ B W tc c0 c1 c2 ov rv O R):∃ a c,rv=.slice a R.length c:=by
 obtain ⟨us,vs,_,h1,_⟩:=h.own;exact Rg.cn h1
theorem eQ.kp {M:Nat->Prop} {B:Nat} {W W':World} {tc:Nat} {c0 c1 c2 ov rv:Value} {O:List (List Int)} {R:List (List (List Int))} (h:eQ B W tc c0 c1 c2 ov rv O R) (hk:Rg.Kp M W W') (hM:∀ z,M z->z<B):eQ B W' tc c0 c1 c2 ov rv O R:=by
 obtain ⟨us,vs,h1,h2,h3,h4⟩:=h.own
 have hg:∀ z,iP B W tc ov rv z->¬ M z:=fun z g e=>by have:=hM z e; have:=g.1; omega
 have hm:∀ z,iP B W tc ov rv z->iP B W' tc ov rv z:=fun z g=>g.up hk.size;exact ⟨h.nC.kp hk (fun e=>by have:=hM _ e; have:=h.low; omega),h.low,⟨us,vs,fD h1 hk (fun z e e2=>by have:=hM z e; have:=(h1.lt z e2).1; omega),fD h2 hk (fun z e e2=>by have:=hM z e; have:=(h2.lt z e2).1; omega),(h3.kp hk hg).mono hm,bG.mono (bG.kp h4 hk hg) hm⟩,h.apart,h.ot,h.rt⟩
def bf (F:Nat->Prop) (w:World) (v:Value) (lz:List (List (List Int))):Prop:=∃ us,Rg.cB F w v us/\Rg.bG F w us lz
theorem bf.rows {F:Nat->Prop} {w:World} {v:Value} {lz:List (List (List Int))} (h:bf F w v lz):fI w v lz:=by
 obtain ⟨us,h1,h2⟩:=h;exact ⟨us,h1.zJ,h2.1,fun i a b=>aH.rows (h2.2 i a b)⟩
theorem bf.kp {F M:Nat->Prop} {w w':World} {v:Value} {ll:List (List (List Int))} (h:bf F w v ll) (hk:Rg.Kp M w w') (hF:∀ k,F k->¬ M k):bf F w' v ll:=by
 obtain ⟨us,h1,h2⟩:=h;exact ⟨us,h1.kp hk hF,bG.kp h2 hk hF⟩
theorem eQ.frO {c0 c1 c2:Value} {O:List (List Int)} {R:List (List (List Int))} (h:eQ B W tc c0 c1 c2 ov rv O R) (hl:O.length<=1000000000):Rg.aH (fun z=>B<=z) W ov O:=by
 obtain ⟨us,vs,h1,h2,h3,h4⟩:=h.own;exact ⟨us,Rg.cB.of (Rg.cz.cR h1 hl) (fun k e=>(h1.lt k e).1),h3.mono fun _ g=>g.1⟩
theorem eQ.frR {c0 c1 c2:Value} {O:List (List Int)} {R:List (List (List Int))} (h:eQ B W tc c0 c1 c2 ov rv O R) (hl:R.length<=1000000000):bf (fun z=>B<=z) W rv R:=by
 obtain ⟨us,vs,h1,h2,h3,h4⟩:=h.own;exact ⟨vs,Rg.cB.of (Rg.cz.cR h2 hl) (fun k e=>(h2.lt k e).1),bG.mono h4 fun _ g=>g.1⟩
structure DI (B:Nat) (W:World) (tc:Nat) (c0 c1 c2 ov rv:Value) (O:List (List Int)) (R:List (List (List Int))) (x5:Value) (l5:List Int) (x6:Value) (l6:List (List Int)):Prop where
 ch:eQ B W tc c0 c1 c2 ov rv O R
 f5:Rg.FI (iP B W tc ov rv) W x5 l5
 f6:Rg.aH (iP B W tc ov rv) W x6 l6
theorem q9 {x6:Value} {l6:List (List Int)} (h:Rg.aH (iP B W tc ov rv) W x6 l6) (hb:Below W.heap.size W W'):Rg.aH (iP B W' tc ov rv) W' x6 l6 :=
 aH.mono (aH.kp (M:=fun _=>False) h (Rg.Kp.az hb) (fun _ _=>id)) (fun _ g=>g.up hb.size)
theorem DI.jj {B:Nat} {W W':World} {tc:Nat} {c0 c1 c2 ov rv:Value} {O:List (List Int)} {R:List (List (List Int))} {x5:Value} {l5:List Int} {x6:Value} {l6:List (List Int)} (h:DI B W tc c0 c1 c2 ov rv O R x5 l5 x6 l6) (hb:Below W.heap.size W W'):DI B W' tc c0 c1 c2 ov rv O R x5 l5 x6 l6 :=
 ⟨h.ch.jj hb,Rg.FI.mono (Rg.FI.kp (M:=fun _=>False) h.f5 (Rg.Kp.az hb) (fun _ _=>id)) (fun _ g=>g.up hb.size),q9 h.f6 hb⟩
theorem CL.c {b o:Nat} (h:CL w b o v):w.cell? ⟨b,o,none⟩=some v:=h.cell
theorem qh (bQ:1<=n) (cC:n<=64) {tb:Nat} {T:aY} {V:Nat->LV} (hT:aR F L n w T V) (dK:CF F w tb 0 (.int .i64 ((n:Nat):Int))) (cJ:CF F w tb 1 (.slice (some ⟨L,0,none⟩) n n)) (hH:Cm.bT n H) (jk:Cm.pL n H (bJ T)) (hl:∀ j,j<n->Cm.eF n T j) :
  Calls Tryz.prog 70 #[.pointer (some ⟨tb,0,none⟩)] w fun e w'=>∃ ov rv O R,e=.returned (.agg #[.int .i64 ((n:Nat):Int),ov,rv])/\Rg.aH (fun z=>w.heap.size<=z) w' ov (O.map Ma.ag)/\bf (fun z=>w.heap.size<=z) w' rv (R.map (List.map Ma.ag))/\Cm.ak n H O R/\Below w.heap.size w w':=by
 have K:=U (Below.refl w.heap.size w);have HT:=U hT;have C0:=U dK;have C1:=U cJ;have HH:=U hH;have tx:=U jk;have HL:=U hl;clear hT dK cJ hH jk hl
 go_enter Tryz.func70,Tryz.ntmps70
 go_upto_region 0 with (fail);refine d3 ?_;have bY:=cq.new w (.int .i64 0) (.slice none 0 0) (.slice none 0 0);refine d4 2 (bw rfl) ?_;go_frame;have hb:=(Below.refl w.heap.size w).alloc (Nat.le_refl _) (.cells #[.int .i64 0,.slice none 0 0,.slice none 0 0] 25);generalize w.alloc (.cells #[.int .i64 0,.slice none 0 0,.slice none 0 0] 25)=w1 at *;replace HT:=U (HT.p.jj hb);replace C0:=U (C0.p.jj hb);replace C1:=U (C1.p.jj hb);replace K:=U (Rg.acc K.p hb);clear hb;have FT:=U bY;have K1:=U (Below.refl w1.heap.size w1);have Xf:=(FT.p.lt);clear bY;go_upto_region 1 with (fail);refine d3 ?_;refine d5 9 (.pointer (some ⟨tb,0,none⟩)) ?_;go_frame;refine d4 10 (aK _ rfl rfl) ?_;go_frame;refine d4 11 (af _ rfl rfl (wH _ _)) ?_;go_frame;refine d4 12 (g8 (.int .i64 ((n:Nat):Int)) ⟨tb,0,none⟩ (ah ((Below.cell (p:=⟨tb,0,none⟩) K1.p C0.p.lt).trans C0.p.cell))) ?_;go_frame
 refine d4 13 (yT (d:=((n:Nat):Int)) _ rfl rfl) ?_;go_frame;have bY:=cq.new w1 (.int .i64 0) (.slice none 0 0) (.slice none 0 0);refine d4 3 (bw rfl) ?_;go_frame;have hb:=(Below.refl w1.heap.size w1).alloc (Nat.le_refl _) (.cells #[.int .i64 0,.slice none 0 0,.slice none 0 0] 25);generalize w1.alloc (.cells #[.int .i64 0,.slice none 0 0,.slice none 0 0] 25)=w2 at *;replace K1:=U (Rg.acc K1.p hb);clear hb;have FC:=U bY;refine Rg.aD none rfl rfl (Rg.ai _ _ _ rfl _ rfl _ rfl (aW _ _ _ _ _ _ _ FC.p)) ?_;go_frame;clear bY;replace FC:=U (FC.p.set (.int .i64 ((n:Nat):Int)) (.slice none 0 0) (.slice none 0 0));replace K1:=U (((K1.p.setCell (p:=⟨w1.heap.size,0,none⟩) (Nat.le_refl _) (.int .i64 ((n:Nat):Int))).setCell (p:=⟨w1.heap.size,1,none⟩) (Nat.le_refl _) (.slice none 0 0)).setCell (p:=⟨w1.heap.size,2,none⟩) (Nat.le_refl _) (.slice none 0 0))
 generalize (((w2).setCell ⟨w1.heap.size,0,none⟩ (.int .i64 ((n:Nat):Int))).setCell ⟨w1.heap.size,1,none⟩ (.slice none 0 0)).setCell ⟨w1.heap.size,2,none⟩ (.slice none 0 0)=w5 at *;have CH:=U (eQ.start FC.p (Nat.le_refl _));clear FC;go_upto_region 2 with (fail);refine d3 ?_;refine d5 14 (.pointer (some ⟨tb,0,none⟩)) ?_;go_frame;refine d4 15 (aK _ rfl rfl) ?_;go_frame;refine d4 16 (af _ rfl rfl (ji _ _)) ?_;go_frame;refine d4 17 (g8 (.slice (some ⟨L,0,none⟩) n n) ⟨tb,1,none⟩ (Rg.ae _ _ Tryz.underlying135 ((Below.cell (p:=⟨tb,1,none⟩) K1.p C1.p.lt).trans C1.p.cell))) ?_;go_frame;refine d4 18 (i3 Tryz.underlying135) ?_;go_frame;refine d5 19 (.int .i64 ((0:Nat):Int)) ?_;go_frame;have A7:=U (Cm.PC.nil n H (bJ T));go_wp2
 go_loopw [19] (fun iv wr=>∃ (k:Nat) (ov rv:Value) (O:List (List Nat)) (R:List (List (List Nat))),iv=.int .i64 k/\k<=n/\Hid (eQ w1.heap.size wr w1.heap.size (.int .i64 ((n:Nat):Int)) ov rv ov rv (O.map Ma.ag) (R.map (List.map Ma.ag)))/\Hid (Below w1.heap.size w1 wr)/\Hid (Cm.PC n H (bJ T) k O R)) (fun iv _=>n - (intOf iv).toNat)
 case atStart=>exact ⟨0,_,_,[],[],rfl,Nat.zero_le _,CH,K1,A7⟩
 case round =>
  clear CH K1 A7;obtain ⟨k,ov,rv,O,R,rfl,hk,CH,K1,A7⟩:=hrel;have Xg:=CH.p.Qp;have Xh:=CH.p.Qq;rw [List.length_map] at Xg Xh;obtain ⟨ou,ow,rfl⟩:=Xg;obtain ⟨nD,nE,rfl⟩:=Xh
  by_cases cg:k<n
  ·have ly:(k:Int)<(n:Int):=by omega
   have uZ:=HL.p k cg;have jT:=Cm.lN uZ;have F8:1<=(T k).orb.length:=List.length_pos_of_mem ((uZ.orb k).2 ⟨_,uZ.self⟩);obtain ⟨l,lr,v8,jl,A8⟩:=Cm.Kk (T k).orb uZ.nd;have HA1:=U (show Ob.eK (Ma.ag (T k).orb)=Ma.ag l by rw [Ob.lM]; exact lr);have mB:=U v8;have Xi:=U jl;have HA4:=U A8;obtain ⟨oa,oc,lx⟩:=HT.p.Dm cg;have CO:=U (CL.mk (show w1.cell? ⟨L,k*194+1,none⟩=some (.slice oa (T k).orb.length oc) by rw [ur HT.p cg rfl,lx]) HT.p.lt);have SI:=U (show g_ w1.heap.size w1 (.slice oa (T k).orb.length oc) (Ma.ag (T k).orb) by have:=g_.Qn (HT.p.lv k cg).pO (by rw [Ma.ar]) F8; rwa [lx] at this);have bC:=U cg;have q_:=U (show (∀ z,(Value.slice ou O.length ow).ownBlock=some z->z<wr.heap.size)/\(∀ z,(Value.slice nD R.length nE).ownBlock=some z->z<wr.heap.size)/\w1.heap.size<wr.heap.size from ⟨fun z e=>(CH.p.Kj.1 z e).2,fun z e=>(CH.p.Kj.2 z e).2,CH.p.nC.lt⟩)
   have wS:=U (SZ.mk (Nat.le_refl wr.heap.size))
   have Xj:1<=(Ma.ag (T k).orb).length:=by rw [Ma.ar]; exact F8
   have j2:(Ma.ag (T k).orb).length<=1000000:=by rw [Ma.ar]; omega
   have Xk:=U (show l.length<=64 by rw [A8]; omega);have MT:=U (show 1<=l.length by rw [A8]; exact F8);clear uZ lr v8 jl A8 lx;go_upto_region 5 with (fail);refine d3 ?_;refine d5 22 (.pointer (some ⟨tb,0,none⟩)) ?_;go_frame;refine d4 23 (aK _ rfl rfl) ?_;go_frame;refine d4 24 (af _ rfl rfl (ji _ _)) ?_;go_frame;refine d4 25 (g8 (.slice (some ⟨L,0,none⟩) n n) ⟨tb,1,none⟩ (Rg.ae _ _ Tryz.underlying135 ((Below.cell (p:=⟨tb,1,none⟩) K1.p C1.p.lt).trans C1.p.cell))) ?_;go_frame;refine d5 26 (.int .i64 ((k:Nat):Int)) ?_;go_frame;refine d4 27 (bD _ _ rfl Tryz.underlying135 fE L (n) (n) (k) rfl rfl bC.p) ?_;go_frame;refine d4 28 (af _ rfl rfl (zS _ _ _)) ?_;go_frame;refine d4 29 (g8 (.slice oa (T k).orb.length oc) ⟨L,k*194+1,none⟩ (Rg.ae _ _ Tryz.underlying26 ((Below.cell (p:=⟨L,k*194+1,none⟩) K1.p CO.p.lt).trans CO.p.cell))) ?_;go_frame
   refine f7 30 (aF 94 _ _ rfl rfl (Gz _ _)) ?_;refine (oq _ _ _ wr).mono ?_;rintro e1 nB ⟨fb,rfl,pB,hb⟩;refine ⟨_,rfl,?_⟩;go_frame;replace CH:=U (CH.p.jj hb);replace wS:=U (wS.p.jj hb);replace K1:=U (Rg.acc K1.p hb);clear hb;have FB:=U pB;have Xl:=wS.p.le;refine f7 31 (aF 93 _ _ rfl rfl (GA _ _)) ?_;refine (ux fb _ _ Xj j2 nB FB.p.lt FB.p.cell (SI.p.up K1.p)).mono ?_;rintro e1 kA ⟨v,rfl,cr,hb⟩;rw [HA1.p,Ma.ar] at cr;have cr:=gG.mk (l:=Ma.ag l) (by rw [Ma.ar,HA4.p]; exact cr);have hq:=kV cr.own (k:=0) (by rw [Ma.ar]; exact MT.p);rw [Ma.ar] at hq;obtain ⟨sb,sc,u0,rfl,_,_,_⟩:=hq;have Qr:=U Xl;refine ⟨_,rfl,?_⟩;go_frame;replace CH:=U (CH.p.jj hb);replace wS:=U (wS.p.jj hb);replace FB:=U (FB.p.jj hb);replace K1:=U (Rg.acc K1.p hb)
   clear hb;have R5:=U cr;refine d6 5 (.slice (some ⟨sb,0,none⟩) l.length sc) ?_;go_frame;clear pB cr FB CO SI;replace HT:=U (HT.p.jj K1.p);replace C0:=U (C0.p.jj K1.p);replace C1:=U (C1.p.jj K1.p);replace FT:=U (FT.p.jj K1.p);have K5:=U (Below.refl kA.heap.size kA);have RP:=U (jF.nil kA.heap.size kA);have MU:=U (show ∀ j,j<0->Cm.lu n (fun z=>Cm.St H k z/\Cm.ap z k=l.getD j 0) (([]:List (List Nat)).getD j []) from fun j h=>absurd h (Nat.not_lt_zero _));go_wp2
   go_loopw [34,6] (fun iv tv wq=>∃ (m:Nat) (rs:List (List Nat)),iv=.int .i64 m/\m<=l.length/\rs.length=m/\Hid (jF kA.heap.size wq tv (rs.map Ma.ag))/\Hid (Below kA.heap.size kA wq)/\Hid (∀ j,j<m->Cm.lu n (fun z=>Cm.St H k z/\Cm.ap z k=l.getD j 0) (rs.getD j []))) (fun iv _ _=>l.length - (intOf iv).toNat)
   case atStart=>exact ⟨0,[],rfl,Nat.zero_le _,rfl,RP,K5,MU⟩
   case round =>
    clear K5 RP MU;obtain ⟨m,rs,rfl,hm,MW,RP,K5,MU⟩:=hrel
    have hlN:(l.length:Int)<=64:=by have:=Xk.p; omega
    obtain ⟨ta,tc,rfl⟩:=RP.p.shape
    by_cases fV:m<l.length
    ·have TF:(m:Int)<(l.length:Int):=by omega
     obtain ⟨p,hp⟩:∃ p:Nat,Hid (p=l[m]):=⟨_,U rfl⟩
     have aO:kA.cell? ⟨sb,0+m,none⟩=some (.int .i64 ((p:Nat):Int)):=by
      obtain ⟨g,c,u,e1,e2,e3,_⟩:=kV R5.p.own (k:=m) (by rw [Ma.ar]; exact fV);simp only [Value.slice.injEq,Option.some.injEq,Addr.mk.injEq] at e1;obtain ⟨⟨rfl,_,_⟩,_,_⟩:=e1;rw [e2,<- e3,hp.p];simp [Ma.ag,List.getElem?_eq_getElem fV]
     have CS:=U (CL.mk aO (eH aO));obtain ⟨u,hu⟩:=((HL.p k bC.p).orb p).1 ((Xi.p p).1 (by rw [hp.p]; exact List.getElem_mem fV));have uZ:=HL.p k bC.p;have Qh:=uZ.AL p u hu
     have iV:p<64:=by omega
     have GU:=U (uZ.wu p u hu);have HU:=U hu;obtain ⟨ub,uo,uc,Dr,Ds⟩:=HT.p.Qa bC.p iV hu GU.p bQ;have UP:=U Ds;have CU:=U (CL.mk (show kA.cell? ⟨L,k*194+2+p,none⟩=some (.slice (some ⟨ub,uo,none⟩) n uc) by rw [p_ HT.p bC.p iV (by omega),Dr]) HT.p.lt);have u_:=U fV;have DJ:=U MW;clear aO hu uZ Dr Ds MW;go_upto_region 9 with (fail);refine d3 ?_;refine d4 36 (aB bK _ _ rfl sb (0) (l.length) sc (m) rfl rfl u_.p) ?_;go_frame;refine d4 37 (g8 (.int .i64 ((p:Nat):Int)) ⟨sb,0+m,none⟩ (ah ((Below.cell (p:=⟨sb,0+m,none⟩) K5.p CS.p.lt).trans CS.p.cell))) ?_;go_frame;refine d6 8 (.int .i64 ((p:Nat):Int)) ?_;go_frame;go_upto_region 10 with (fail);refine d3 ?_;refine d5 38 (.slice ta (rs.map Ma.ag).length tc) ?_;go_frame;refine d5 39 (.pointer (some ⟨tb,0,none⟩)) ?_;go_frame
     refine d5 40 (.pointer (some ⟨tb,0,none⟩)) ?_;go_frame;refine d4 41 (aK _ rfl rfl) ?_;go_frame;refine d4 42 (af _ rfl rfl (ji _ _)) ?_;go_frame;refine d4 43 (g8 (.slice (some ⟨L,0,none⟩) n n) ⟨tb,1,none⟩ (Rg.ae _ _ Tryz.underlying135 ((Below.cell (p:=⟨tb,1,none⟩) K5.p C1.p.lt).trans C1.p.cell))) ?_;go_frame;refine d5 44 (.int .i64 ((k:Nat):Int)) ?_;go_frame;refine d5 45 (.int .i64 ((p:Nat):Int)) ?_;go_frame;refine d4 46 (bD _ _ rfl Tryz.underlying135 fE L (n) (n) (k) rfl rfl bC.p) ?_;go_frame;refine d4 47 (af _ rfl rfl (uw _ _ _)) ?_;go_frame;refine d4 48 (bj _ _ rfl Tryz.underlying142 qW L (k*194+2) (p) rfl rfl iV) ?_;go_frame;refine d4 49 (g8 (.slice (some ⟨ub,uo,none⟩) n uc) ⟨L,k*194+2+p,none⟩ (Rg.ae _ _ Tryz.underlying27 ((Below.cell (p:=⟨L,k*194+2+p,none⟩) K5.p CU.p.lt).trans CU.p.cell))) ?_;go_frame
     refine d5 50 (.int .i64 ((k:Nat):Int)) ?_;go_frame;refine f7 51 (dH 95 _ _ _ _ rfl rfl rfl rfl (TX _ _)) ?_;refine (Gs bQ cC (HT.p.jj K5.p) (C0.p.jj K5.p) (C1.p.jj K5.p) HH.p tx.p HL.p (UP.p.jj K5.p) GU.p bC.p).mono ?_;rintro e1 fG ⟨F2,yv,y,rfl,_,_,hy,hli,Qs,hb⟩;have Gt:=U hli;have GY:=U Qs;refine ⟨_,rfl,?_⟩;go_frame;replace RP:=U (RP.p.jj hb);replace K5:=U (Rg.acc K5.p hb);clear hb;have YN:=U hy;have Xm:=U (fun z e=>(RP.p.lt z e).2);have Xn:=U K5.p.size;refine f7 52 (aF 75 _ _ rfl rfl (tB _ _)) ?_;refine (mD _ (Ma.ag y) fG YN.p.np (by rw [Ma.ar,GY.p.2]; exact bQ) (by rw [Ma.ar,GY.p.2]; omega)).mono ?_;rintro e1 fU ⟨cv,rfl,cr,hb⟩;obtain ⟨ca,cc,rfl⟩:=Rg.cn cr;have MX:=U cr;refine ⟨_,rfl,?_⟩;go_frame;replace RP:=U (RP.p.jj hb)
     replace YN:=U (YN.p.jj hb);replace K5:=U (Rg.acc K5.p hb);clear hb;refine d4 53 (Rg.aC _ _ _ rfl (.slice ca (Ma.ag y).length cc) rfl (cG fU _ ⟨_,_,_,rfl⟩)) ?_;go_frame;obtain ⟨a9,c9,X9,r1,r2,r3⟩:=RP.p.push K5.p.size MX.p (by rw [Ma.ar,GY.p.2]; omega) (fun z e=>⟨by have:=(MX.p.lt z e).1; have:=Xn.p; omega,fun e2=>by have:=(MX.p.lt z e).1; have:=Xm.p z e2; omega⟩) (by rw [List.length_map,DJ.p]; have:=Xk.p; have:=u_.p; omega) 41;refine d4 54 (Rg.bu _ _ _ rfl rfl rfl r1) ?_;go_frame;refine d6 6 (.slice a9 ((rs.map Ma.ag).length+1) c9) ?_;go_frame;have K6:=U (r3 (Nat.le_refl _) K5.p);have RP2:=U (show jF kA.heap.size X9 (.slice a9 ((rs.map Ma.ag).length+1) c9) ((rs++[y]).map Ma.ag) by rw [List.map_append]; exact r2);have HLS:=U (Cm.LI.done HH.p bC.p ⟨tx.p.mem k p u bC.p HU.p,tx.p.rp.fx k p u (Nat.zero_le _) bC.p HU.p⟩ Gt.p)
     have Xo:=U (show ∀ j,j<m+1->Cm.lu n (fun z=>Cm.St H k z/\Cm.ap z k=l.getD j 0) ((rs++[y]).getD j []) from fun j hj=>by
      have hl:=DJ.p
      by_cases e:j=m
      ·subst e
       have e1:(rs++[y]).getD j []=y:=by
        rw [List.getD_eq_getElem?_getD,List.getElem?_append_right (by omega),hl]; simp
       have e2:l.getD j 0=p:=by
        rw [hp.p,List.getD_eq_getElem?_getD,List.getElem?_eq_getElem u_.p]; rfl
       have e3:Cm.ap u k=p:=tx.p.rp.at_ k p u (Nat.zero_le _) bC.p HU.p;rw [e1,e2];have:=HLS.p
       rwa [e3] at this
      ·have e1:(rs++[y]).getD j []=rs.getD j []:=by
        rw [List.getD_eq_getElem?_getD,List.getD_eq_getElem?_getD,List.getElem?_append_left (by omega)]
       rw [e1]
       exact MU.p j (by omega))
     have Xp:=U (show (rs++[y]).length=m+1 by rw [List.length_append,DJ.p]; rfl);clear r1 r2 r3;go_wp2
     go_roundw
     case rel=>exact ⟨m+1,rs++[y],by go_num,u_.p,Xp.p,RP2,K6,Xo⟩
     case measure=>simp [intOf]; have:=u_.p; omega
    ·obtain rfl:m=l.length:=by omega
     have TF:¬ (l.length:Int)<(l.length:Int):=by omega
     replace CH:=U (CH.p.jj K5.p);replace K1:=U (Rg.acc K1.p K5.p);have SZ5:=wS.p.le;replace wS:=U (wS.p.jj K5.p);have Xq:=R5.p.jj K5.p
     have PD:=U (DI.mk CH.p (Xq.fi (by rw [Ma.ar]; omega) (G:=iP w1.heap.size wr w1.heap.size (Value.slice ou O.length ow) (Value.slice nD R.length nE)) (fun z g1 g2=>⟨by have:=Qr.p; have:=q_.p.2.2; omega,g2,fun e=>by have:=Qr.p; have:=q_.p.1 z e; omega,fun e=>by have:=Qr.p; have:=q_.p.2.1 z e; omega,by have:=Qr.p; have:=q_.p.2.2; omega⟩))
      (RP.p.TY (by rw [List.length_map,MW]; omega) (G:=iP w1.heap.size wr w1.heap.size (Value.slice ou O.length ow) (Value.slice nD R.length nE)) (fun z g1 g2=>⟨by have:=q_.p.2.2; omega,g2,fun e=>by have:=q_.p.1 z e; omega,fun e=>by have:=q_.p.2.1 z e; omega,by have:=q_.p.2.2; omega⟩)))
     have Xr:=U MW;have HOL:=U (show (O.map Ma.ag).length<1000000 by rw [List.length_map,A7.p.gK]; omega);have Xs:=U (show (R.map (List.map Ma.ag)).length<1000000 by rw [List.length_map,A7.p.iq]; omega);clear SZ5 Xq CH RP R5 FT MW;go_upto_region 12 with (fail);have dr:Below wr.heap.size wr wr.drew:=(Below.refl _ _).drew;replace PD:=U (PD.p.jj dr);replace K1:=U (Rg.acc K1.p dr);replace wS:=U (wS.p.jj dr);clear dr;have aq:Below wr.heap.size wr wr.drew:=(Below.refl _ _).drew;generalize c_ F wr wr.drew=F1 at *;clear aq;refine Rg.Any.begin (S:=Rg.aG 11 (fun W:World=>cq W w1.heap.size (.int .i64 ((n:Nat):Int)) (Value.slice ou O.length ow) (Value.slice nD R.length nE)/\Below w1.heap.size w1 W) (fun _=>True)) mix ?_;generalize wr.drew=iE at *;have hS:∀ (l:Array Bool) W,(fun W:World=>cq W w1.heap.size (.int .i64 ((n:Nat):Int)) (Value.slice ou O.length ow) (Value.slice nD R.length nE)/\Below w1.heap.size w1 W) W->Rg.aG 11 (fun W:World=>cq W w1.heap.size (.int .i64 ((n:Nat):Int)) (Value.slice ou O.length ow) (Value.slice nD R.length nE)/\Below w1.heap.size w1 W) (fun _=>True) l W:=fun l W h=>⟨.inr h,trivial⟩
     have bW:∀ (l:Array Bool) W,l.getD 11 false=true->Rg.aG 11 (fun W:World=>cq W w1.heap.size (.int .i64 ((n:Nat):Int)) (Value.slice ou O.length ow) (Value.slice nD R.length nE)/\Below w1.heap.size w1 W) (fun _=>True) l W:=fun l W h=>⟨.inl h,trivial⟩;have hI:(fun W:World=>cq W w1.heap.size (.int .i64 ((n:Nat):Int)) (Value.slice ou O.length ow) (Value.slice nD R.length nE)/\Below w1.heap.size w1 W) iE:=⟨PD.p.ch.nC,K1.p⟩;refine d7 0 11 (.pointer (some ⟨w1.heap.size,1,none⟩)) 56 rfl rfl (.inl ⟨rfl,fun w _=>af _ rfl rfl (gQ _ _)⟩) (hS _ _ hI) ?_;go_frame;refine i7 1 11 (.slice ou O.length ow) 57 rfl rfl (i9 ⟨w1.heap.size,1,none⟩ (fun W hW=>Rg.ae _ _ Tryz.underlying22 hW.1.c1)) (hS _ _ hI) ?_;go_frame;refine d8 2 11 (.slice (some ⟨sb,0,none⟩) l.length sc) 58 (hS _ _ hI) ?_;go_frame;refine d7 5 11 (.pointer (some ⟨w1.heap.size,2,none⟩)) 61 rfl rfl (.inl ⟨rfl,fun w _=>af _ rfl rfl (wQ _ _)⟩) (hS _ _ hI) ?_;go_frame
     refine i7 6 11 (.slice nD R.length nE) 62 rfl rfl (i9 ⟨w1.heap.size,2,none⟩ (fun W hW=>Rg.ae _ _ Tryz.underlying23 hW.1.c2)) (hS _ _ hI) ?_;go_frame;refine d8 7 11 (.slice ta (rs.map Ma.ag).length tc) 63 (hS _ _ hI) ?_;go_frame
     refine Rg.Any.TW (i:=3) (k:=4) (j:=8) (q:=10) (di:=59) (dk:=60) (dj:=64) (dq:=66) (vq:=.pointer (some ⟨w1.heap.size,1,none⟩)) (I:=fun W=>(fun W:World=>cq W w1.heap.size (.int .i64 ((n:Nat):Int)) (Value.slice ou O.length ow) (Value.slice nD R.length nE)/\Below w1.heap.size w1 W) W/\iE.heap.size<=W.heap.size) (R0:=fun W=>DI w1.heap.size W w1.heap.size (.int .i64 ((n:Nat):Int)) (Value.slice ou O.length ow) (Value.slice nD R.length nE) (Value.slice ou O.length ow) (Value.slice nD R.length nE) (O.map Ma.ag) (R.map (List.map Ma.ag)) (.slice (some ⟨sb,0,none⟩) l.length sc) (Ma.ag l) (.slice ta (rs.map Ma.ag).length tc) (rs.map Ma.ag)) (Ri:=fun u W=>Rg.gO iE.heap.size [.slice (some ⟨sb,0,none⟩) l.length sc] u W) (Rk:=fun x W=>eQ w1.heap.size W w1.heap.size (.int .i64 ((n:Nat):Int)) (Value.slice ou O.length ow) (Value.slice nD R.length nE) x (Value.slice nD R.length nE) (O.map Ma.ag++[Ma.ag l]) (R.map (List.map Ma.ag))/\Rg.aH (iP w1.heap.size W w1.heap.size x (Value.slice nD R.length nE)) W (.slice ta (rs.map Ma.ag).length tc) (rs.map Ma.ag)/\∃ a c,x=.slice a (O.length+1) c) (Rj:=fun v W=>Rg.gO iE.heap.size [.slice ta (rs.map Ma.ag).length tc] v W) (fun l W h=>hS l W h.1)
      (by decide) (by decide) (by decide) (by decide) (by decide) (by decide) (by kernel_rfl) (by kernel_rfl) (by kernel_rfl) (by kernel_rfl) (by kernel_rfl) ?_ ?_
      (fun _ _ hb h=>h.jj hb) (fun _ _ _ hb h=>h.jj hb) (fun _ _ _ hb h=>⟨h.1.jj hb,q9 h.2.1 hb,h.2.2⟩) (fun _ _ _ hb h=>h.jj hb) ?_ ?_ ?_ ⟨hI,Nat.le_refl _⟩ (PD.p) ?_
     ·intro u x W m hs h
      exact Rg.Any.sP (i:=10) (t:=11) (v:=.pointer (some ⟨w1.heap.size,1,none⟩)) (some 66) rfl rfl (by kernel_rfl) (by kernel_rfl) (by kernel_rfl) (fun _ _ _ h=>h) rfl (.inl ⟨rfl,fun w _=>af _ rfl rfl (gQ _ _)⟩) hs h
     ·intro u v x W m hs h
      exact Rg.Any.sP (i:=10) (t:=11) (v:=.pointer (some ⟨w1.heap.size,1,none⟩)) (some 66) rfl rfl (by kernel_rfl) (by kernel_rfl) (by kernel_rfl) (fun _ _ _ h=>h) rfl (.inl ⟨rfl,fun w _=>af _ rfl rfl (gQ _ _)⟩) hs h
     ·intro b hb W hW
      have yN:Below W.heap.size W (W.alloc (.cells #[.slice (some ⟨sb,0,none⟩) l.length sc] 26)):=(Below.refl _ _).alloc (Nat.le_refl _) _
      exact Rg.wz rfl rfl (by rcases hb with rfl | ⟨u,rfl⟩ <;> rfl) (Rg.aC _ _ _ rfl (.slice (some ⟨sb,0,none⟩) l.length sc) (by rcases hb with rfl | ⟨u,rfl⟩ <;> rfl) (iB W _ ⟨_,_,_,rfl⟩)) ⟨⟨⟨hW.1.1.jj yN,Rg.acc hW.1.2 yN⟩,by simp; have:=hW.2; omega⟩,Rg.gO.new W [.slice (some ⟨sb,0,none⟩) l.length sc] 26 hW.2,yN⟩
     ·intro b hb W hW
      have yN:Below W.heap.size W (W.alloc (.cells #[.slice ta (rs.map Ma.ag).length tc] 41)):=(Below.refl _ _).alloc (Nat.le_refl _) _
      exact Rg.wz rfl rfl (by rcases hb with rfl | ⟨u,rfl⟩ | ⟨u,v,rfl⟩ <;> rfl) (Rg.aC _ _ _ rfl (.slice ta (rs.map Ma.ag).length tc) (by rcases hb with rfl | ⟨u,rfl⟩ | ⟨u,v,rfl⟩ <;> rfl) (yU W _ ⟨_,_,_,rfl⟩)) ⟨⟨⟨hW.1.1.jj yN,Rg.acc hW.1.2 yN⟩,by simp; have:=hW.2; omega⟩,Rg.gO.new W [.slice ta (rs.map Ma.ag).length tc] 41 hW.2,yN⟩
     ·intro u b hb W hW h0 hu
      obtain ⟨pu,rfl,wT,Xt,FM⟩:=hu;obtain ⟨a2,c2,X,r1,r2,r3,r4⟩:=h0.ch.n7 hW.1.2.size h0.f5 rfl HOL.p (FM 0 (by simp)) 22;have kL:=Rg.Kp.cE r3 (M:=fun z=>(Value.slice ou O.length ow).ownBlock=some z) (fun _ e=>e)
      exact Rg.wz rfl rfl (by rcases hb with rfl | ⟨v,rfl⟩ <;> rfl) (Rg.bu _ _ _ rfl (by rcases hb with rfl | ⟨v,rfl⟩ <;> rfl) (by rcases hb with rfl | ⟨v,rfl⟩ <;> rfl) r1) ⟨⟨⟨r2.nC,hW.1.2.grown r3 hW.1.2.size (fun j e=>(h0.ch.Kj.1 j e).1)⟩,Nat.le_trans hW.2 r3.size⟩,⟨r2,aH.mono (aH.kp h0.f6 kL (fun z g e=>g.2.2.1 e)) r4,_,_,by rw [List.length_map]⟩,fun v hv=>hv.grown r3 (fun j e=>Nat.lt_of_lt_of_le (q_.p.1 j e) wS.p.le)⟩
     rintro tC fu fx fv hb hk hj;have GB:=hb.1;have aae:=hb.2;clear hb hI;go_frame;have FK:=U hk;have FJ:=U hj;obtain ⟨pj,hje,MY,Dz,CA⟩:=FJ.p;subst hje;obtain ⟨a2,c2,Qb⟩:=FK.p.2.2;subst Qb;obtain ⟨a3,c3,X3,q1,q2,q3⟩:=FK.p.1.TV GB.2.size FK.p.2.1 rfl Xs.p (CA 0 (by simp)) 23;rw [List.length_map] at q1 q2;have mA:=(show _/\_ from ⟨q2.nC,GB.2.grown q3 GB.2.size (fun j e=>(FK.p.1.Kj.2 j e).1)⟩);refine i8 9 65 rfl rfl (Rg.bu _ _ _ rfl rfl rfl q1) (hS _ _ mA) ?_;go_frame;have KX:=U mA.2;refine Rg.Any.one (i:=11) (by kernel_rfl) (Rg.Any.cA none rfl rfl rfl (Rg.ai _ _ _ rfl _ rfl _ rfl (Rg.bn _ Gy q2.nC.c1 q2.nC.f1)) (bW _ _ rfl) ?_);go_frame;refine d7 12 11 (.pointer (some ⟨w1.heap.size,2,none⟩)) 67 rfl rfl (.inl ⟨rfl,fun w _=>af _ rfl rfl (wQ _ _)⟩) (bW _ _ rfl) ?_;go_frame
     refine Rg.Any.one (i:=13) (by kernel_rfl) (Rg.Any.cA none rfl rfl rfl (Rg.ai _ _ _ rfl _ rfl _ rfl (Rg.bn _ DG (q2.nC.Sp _).c2 (q2.nC.Sp _).f2)) (bW _ _ rfl) ?_);go_frame;refine Rg.Any.done (by kernel_rfl) ?_ _;clear bW;clear hS mA;have Qt:=q2.store (.slice a2 (O.length+1) c2) (.slice a3 (R.length+1) c3);have vd:=(KX.p.setCell (p:=⟨w1.heap.size,1,none⟩) (Nat.le_refl _) (.slice a2 (O.length+1) c2)).setCell (p:=⟨w1.heap.size,2,none⟩) (Nat.le_refl _) (.slice a3 (R.length+1) c3);generalize (X3.setCell ⟨w1.heap.size,1,none⟩ (.slice a2 (O.length+1) c2)).setCell ⟨w1.heap.size,2,none⟩ (.slice a3 (R.length+1) c3)=dT at *;have CH2:=U (show eQ w1.heap.size dT w1.heap.size (.int .i64 ((n:Nat):Int)) (.slice a2 (O.length+1) c2) (.slice a3 (R.length+1) c3) (.slice a2 (O.length+1) c2) (.slice a3 (R.length+1) c3) ((O++[l]).map Ma.ag) ((R++[rs]).map (List.map Ma.ag)) by rw [List.map_append,List.map_append]; exact Qt)
     have K2:=U vd;have HP2:=U (A7.p.snoc mB.p (fun p=>(Xi.p p).trans ((HL.p k bC.p).orb p)) Xr.p MU.p);clear Qt vd q1 q2 q3 KX FK FJ PD;go_wp2
     go_roundw
     case rel=>exact ⟨k+1,_,_,O++[l],R++[rs],by go_num,bC.p,CH2,K2,HP2⟩
     case measure=>simp [intOf]; have:=bC.p; omega
  ·obtain rfl:k=n:=by omega
   have ly:¬ (k:Int)<(k:Int):=by omega
   have TT:=U (FT.p.jj K1.p);go_upto_region 14 with (fail);refine d3 ?_;refine d4 69 (Rg.fq _ _ rfl ⟨w1.heap.size,0,none⟩ rfl (mC CH.p.nC)) ?_;go_frame;refine Rg.aD none rfl rfl (Rg.ai _ _ _ rfl _ rfl _ rfl (aW _ _ _ _ _ _ _ TT.p)) ?_;go_frame;have A9:=Rg.Kp.trans (Rg.Kp.trans (Rg.Kp.aL (M:=fun z=>z=w.heap.size) (w:=wr) (a:=⟨w.heap.size,0,none⟩) (v:=.int .i64 ((k:Nat):Int)) rfl) (Rg.Kp.aL (M:=fun z=>z=w.heap.size) (a:=⟨w.heap.size,1,none⟩) (v:=(Value.slice ou O.length ow)) rfl) (fun _ _ e=>e)) (Rg.Kp.aL (M:=fun z=>z=w.heap.size) (a:=⟨w.heap.size,2,none⟩) (v:=(Value.slice nD R.length nE)) rfl) (fun _ _ e=>e);have cK:=CH.p.kp A9 (fun z e=>by rw [e]; exact Xf);have yV:=TT.p.set (.int .i64 ((k:Nat):Int)) (Value.slice ou O.length ow) (Value.slice nD R.length nE)
   have yX:=((((K.p.trans (K1.p.mono K.p.size)).setCell (p:=⟨w.heap.size,0,none⟩) (Nat.le_refl _) (.int .i64 ((k:Nat):Int))).setCell (p:=⟨w.heap.size,1,none⟩) (Nat.le_refl _) (Value.slice ou O.length ow)).setCell (p:=⟨w.heap.size,2,none⟩) (Nat.le_refl _) (Value.slice nD R.length nE));have zW:=A7.p.MR tx.p
   have Xu:∀ (X:World) (c0 c1 c2 a b:Value),eQ w1.heap.size X w1.heap.size c0 c1 c2 a b (O.map Ma.ag) (R.map (List.map Ma.ag))->bf (fun z=>w.heap.size<=z) X b (R.map (List.map Ma.ag)):=fun _ _ _ _ _ _ h=>by
    obtain ⟨us,h1,h2⟩:=h.frR (by rw [List.length_map,A7.p.iq]; omega);exact ⟨us,h1.mono (fun z hz=>by omega),bG.mono h2 (fun z hz=>by omega)⟩
   go_wp2;exact bodyPost_ret (kz rfl _ rfl yV) rfl ⟨_,_,rfl,O,aH.mono (cK.frO (by rw [List.length_map,A7.p.gK]; omega)) (fun z hz=>by omega),R,Xu _ _ _ _ _ _ cK,zW,yX⟩
end
section
open Go.Proofs.Ob
open Go.Proofs.Cm (Lv aY bJ)
attribute [local irreducible] Go.Calls
def qi:Value:=.agg #[.int .i64 0,.slice none 0 0,.slice none 0 0]
theorem wU (bQ:1<=n) (cC:n<=64) (hv:Rg.Rows w v (gs.map Ma.ag)) (hg:∀ s∈gs,Cm.Gd n s) (gD:gs.length<=1000000) :
  Calls Tryz.prog 69 #[.int .i64 ((n:Nat):Int),v] w fun e w'=>∃ (tb L:Nat) (F':Nat->Prop) (T':aY) (V':Nat->LV),e=.returned (.pointer (some ⟨tb,0,none⟩))/\aR F' L n w' T' V'/\CF F' w' tb 0 (.int .i64 ((n:Nat):Int))/\CF F' w' tb 1 (.slice (some ⟨L,0,none⟩) n n)/\Cm.jU n (·∈gs) T'/\Below w.heap.size w w':=by
 refine (Gp bQ cC (GS.MC hv) hg gD).mono ?_;rintro e w' ⟨tb,L,F',T',V',rfl,hk,h1,h2,h3,h4⟩;exact ⟨tb,L,F',T',V',rfl,h1,h2,h3,h4,hk.kf.jj (Nat.le_refl _) (fun _ h=>h)⟩
theorem fI.shape {lz:List (List (List Int))} (h:fI w v lz):∃ a c,v=.slice a lz.length c:=by
 obtain ⟨us,⟨a,cap,e,_⟩,h2,_⟩:=h;exact ⟨a,cap,by rw [e,h2]⟩
end
section
open Go.Proofs.Ob
open Go.Proofs.Cm (Lv aY bJ)
attribute [local irreducible] Go.Calls Go.wpList
def dc (d:Int) (ll:List (List Int)):Int:=if 1<=d/\d<=64 then (if ll.length<=4096 then Ma.iY d ll else 4) else 2
theorem TZ {d:Int} (h1:1<=d) (h2:d<=64) (h:Ma.iY d ll=0):∃ (n:Nat) (gs:List (List Nat)),d=n/\ll=gs.map Ma.ag/\(∀ s∈gs,Cm.Gd n s)/\1<=n/\n<=64/\gs.length=ll.length:=by
 have hz:=Ma.sJ h;obtain ⟨D,rfl⟩:∃ D:Nat,d=D:=⟨d.toNat,by omega⟩
 have hex:∀ l∈ll,∃ p,l=Ma.ag p/\Ma.iZ p/\p.length=D:=fun l hl=>by
  obtain ⟨a,b⟩:=hz l hl;obtain ⟨_,_,c⟩:=Ma.gW a;obtain ⟨p,rfl,hp⟩:=Ma.kn c;rw [Ma.ar] at b;exact ⟨p,rfl,hp,by omega⟩
 clear h hz
 have:∃ gs:List (List Nat),ll=gs.map Ma.ag/\GG D gs:=by
  induction ll with
  | nil=>exact ⟨[],rfl,fun s hs=>by simp at hs⟩
  | cons l r ih =>
   obtain ⟨gs,rfl,hg⟩:=ih (fun x hx=>hex x (List.mem_cons_of_mem _ hx));obtain ⟨p,rfl,h3,h4⟩:=hex l (List.mem_cons_self ..)
   exact ⟨p :: gs,rfl,fun s hs=>by
    rcases List.mem_cons.1 hs with rfl | hs
    ·exact ⟨h3,h4⟩
    ·exact hg s hs⟩
 obtain ⟨gs,rfl,hg⟩:=this;exact ⟨D,gs,rfl,rfl,fun s hs=>hg s hs,by omega,by omega,by simp⟩
theorem lT {td:Nat} (h:cq X td u1 u2 u3) (hk:Below w.heap.size w X) (ve:w.heap.size<=td):cq (((X.setCell ⟨td,0,none⟩ (.int .i64 0)).setCell ⟨td,1,none⟩ (.slice none 0 0)).setCell ⟨td,2,none⟩ (.slice none 0 0)) td (.int .i64 0) (.slice none 0 0) (.slice none 0 0)/\Below w.heap.size w (((X.setCell ⟨td,0,none⟩ (.int .i64 0)).setCell ⟨td,1,none⟩ (.slice none 0 0)).setCell ⟨td,2,none⟩ (.slice none 0 0)) :=
 ⟨h.set _ _ _,((hk.setCell (p:=⟨td,0,none⟩) ve (.int .i64 0)).setCell (p:=⟨td,1,none⟩) ve (.slice none 0 0)).setCell (p:=⟨td,2,none⟩) ve (.slice none 0 0)⟩
end
section
open Go.Proofs.Ob
attribute [local irreducible] Go.Calls
theorem GI.fresh {d:Int} {a:Option Addr} {c:Nat} (h:Rg.Rows w (.slice a ll.length c) ll) :
  ∃ W,(storeVar 43 ⟨w.heap.size,0,none⟩ (.agg #[.int .i64 d,.slice a ll.length c])).run Tryz.prog (w.alloc (.cells #[.int .i64 0,.slice none 0 0] 43))=.ok () W/\GI W w.heap.size d a ll c/\Below w.heap.size w W:=by
 have n0:(w.alloc (.cells #[.int .i64 0,.slice none 0 0] 43)).cell? ⟨w.heap.size,0,none⟩=some (.int .i64 0):=by rw [Rg.aI]; rfl
 have n1:(w.alloc (.cells #[.int .i64 0,.slice none 0 0] 43)).cell? ⟨w.heap.size,1,none⟩=some (.slice none 0 0):=by rw [Rg.aI]; rfl
 obtain ⟨p0,p1,p2⟩:=wm (.int .i64 d) (.slice a ll.length c) n0 n1 ((Below.refl w.heap.size w).alloc (Nat.le_refl _) _) (Nat.le_refl _);exact ⟨_,im _ a _ c n0 n1 (cp _ _ _ 0 _) (cp _ _ _ 0 _),⟨p0,p1,Rg.Rows.jj h p2,by simp⟩,p2⟩
end
section
open Go.Proofs.Ob
open Go.Proofs.Cm (Lv aY bJ)
attribute [local irreducible] Go.Calls
theorem fI.nil (w:World) (a:Option Addr) (c:Nat) (hc:c<=maxLen):fI w (.slice a 0 c) []:=⟨[],Rg.cz.nil w a c hc,rfl,fun i h=>by simp at h⟩
theorem fI.at' {a:Option Addr} {m c:Nat} {lz:List (List (List Int))} (h:fI w (.slice a m c) lz) {k:Nat} (hk:k<lz.length):∃ b o,a=some ⟨b,o,none⟩/\b<w.heap.size/\∃ u,w.cell? ⟨b,o+k,none⟩=some u/\Rg.Rows w u lz[k]:=by
 obtain ⟨us,⟨a',cap,e,_,_,_,h5⟩,h2,h3⟩:=h;obtain ⟨b,o,e1,e2,e3⟩:=h5 (by omega);simp at e;obtain ⟨rfl,_,_⟩:=e;exact ⟨b,o,e1,e2,us[k],e3 k (by omega),h3 k (by omega) hk⟩
end
end Go.Proofs.YtpedbljnhnoohaaGreat
namespace Go.Proofs.Cm
open Go.Proofs
def Qu (n:Nat) (tr:Tr):Tr:=fun i p=>if p=i then some (Ma.bh n) else tr i p
end Go.Proofs.Cm
namespace Go.Proofs.YtpedbljnhnoohaaGreat
open Go.Proofs
section
open Go.RowKit
open Go.Proofs.Cm (Tr)
structure KI (F0:Nat->Prop) (w:World) (F:Nat->Prop) (W:World) (M:Nat->Prop):Prop where
 kg:KG F0 w F W
 kp:Rg.Kp M w W
 new:∀ k,F k->F0 k∨w.heap.size<=k
theorem KI.refl {F:Nat->Prop} {w:World} {M:Nat->Prop} (h:∀ k,F k->k<w.heap.size):KI F w F w M:=⟨KG.refl h,Rg.Kp.refl _ _,fun _ h=>.inl h⟩
theorem KI.up {F0 F:Nat->Prop} {w W W':World} {M:Nat->Prop} (h:KI F0 w F W M) (hb:Below W.heap.size W W'):KI F0 w (c_ F W W') W' M :=
 ⟨h.kg.up hb,Rg.Kp.trans (M:=M) h.kp (Rg.Kp.az (M:=M) hb) (fun _ _ e=>e),fun k hk=>by
  rcases hk with hk | hk
  ·exact h.new k hk
  ·exact .inr (Nat.le_trans h.kp.size hk.1)⟩
theorem KI.put {F0:Nat->Prop} (h:KI F0 w F W M) (hk:KF F W W') (hm:Rg.Kp M W W'):KI F0 w F W' M :=
 ⟨h.kg.Dh hk,Rg.Kp.trans (M:=M) h.kp hm (fun _ _ e=>e),h.new⟩
end
section
open Go.RowKit
open Go.Proofs.Cm (Tr)
attribute [local irreducible] Go.Calls Go.wpList
structure eS (F:Nat->Prop) (B:Nat) (W:World) (v:Value) (l:List (List Nat)):Prop where
 size:B<=W.heap.size
 own:∃ us,W.ownsRow B 27 1 v l.length us/\Rg.bx F W us (l.map Ma.ag)
theorem eS.nil (F:Nat->Prop) {B:Nat} {W:World} (h:B<=W.heap.size):eS F B W (.slice none 0 0) []:=⟨h,[],World.ownsRow_nil _ _ _ _,Rg.bx.nil _ _⟩
theorem eS.jj {l:List (List Nat)} (h:eS F B W v l) (hb:Below W.heap.size W W'):eS F B W' v l:=by
 obtain ⟨us,h1,h2⟩:=h.own;exact ⟨Nat.le_trans h.size hb.size,us,Rg.bE h1 hb,h2.kp (M:=fun _=>False) (Rg.Kp.az hb) (fun _ _=>id)⟩
theorem eS.shape {l:List (List Nat)} (h:eS F B W v l):∃ a c,v=.slice a l.length c:=by
 obtain ⟨us,h1,_⟩:=h.own;exact Rg.cn h1
theorem eS.MZ {l:List (List Nat)} (h:eS F B W v l) (hF:∀ k,F k->k<B) {x:List Nat} (hu:FP F W u x) (hs:∃ a m c,u=.slice a m c) (hn:l.length<1000000) (ty:TypeId) :
  ∃ a c X,(Builtin.append_ #[41,41] ty #[v,.slice (some ⟨W.heap.size,0,none⟩) 1 1]).run Tryz.prog (W.alloc (.cells #[u] 27))=.ok (.slice a (l.length+1) c) X/\eS F B X (.slice a (l.length+1) c) (l++[x])/\(∀ {B':Nat} {W0:World},B'<=B->Below B' W0 W->Below B' W0 X)/\Rg.Kp (fun k=>v.ownBlock=some k) W X:=by
 obtain ⟨us,h1,h2⟩:=h.own;obtain ⟨a0,m0,c0,rfl⟩:=hs;have hb:Below W.heap.size W (W.alloc (.cells #[.slice a0 m0 c0] 27)):=(Below.refl _ _).alloc (Nat.le_refl _) _;obtain ⟨v',X,r1,r2,r3,r4,a,c,rfl⟩:=eE (P:=Tryz.prog) bP ty (Rg.bE h1 hb) (Nat.le_trans h.size hb.size) W.heap.size 1 (u:=.slice a0 m0 c0) (by rw [Rg.aI]; rfl) rfl hn;have hk:Rg.Kp (fun k=>v.ownBlock=some k) W X:=Rg.Kp.trans (M:=fun k=>v.ownBlock=some k) ((Rg.Kp.az hb).iR fun _=>False.elim) (Rg.Kp.cE r3 fun _ e=>e) (fun _ _ e=>e)
 have hg:∀ k,F k->¬ v.ownBlock=some k:=fun k g e=>by have:=hF k g; have:=(h1.lt k e).1; omega
 refine ⟨a,c,X,r1,⟨Nat.le_trans h.size hk.size,us++[.slice a0 m0 c0],by rw [List.length_append]; exact r2,by rw [List.map_append]; exact bx.snoc (h2.kp hk hg) (Rg.FI.kp hu hk hg)⟩,fun {B' W0} MS kq=>?_,hk⟩;refine (kq.trans ⟨hk.os,hk.tape,hk.output,hk.size,fun k P_=>hk.block k ?_ fun e=>?_⟩)
 ·have:=h.size; omega
 ·have:=(h1.lt k e).1; omega
theorem eS.push {l:List (List Nat)} (h:eS F B W v l) (hF:∀ k,F k->k<B) {x:List Nat} (hu:FP F W u x) (hs:∃ a m c,u=.slice a m c) (hn:l.length<1000000) (ty:TypeId) :
  ∃ a c X,(Builtin.append_ #[41,41] ty #[v,.slice (some ⟨W.heap.size,0,none⟩) 1 1]).run Tryz.prog (W.alloc (.cells #[u] 27))=.ok (.slice a (l.length+1) c) X/\eS F B X (.slice a (l.length+1) c) (l++[x])/\(∀ {B':Nat} {W0:World},B'<=B->Below B' W0 W->Below B' W0 X):=by
 obtain ⟨a,c,X,r1,r2,r3,_⟩:=h.MZ hF hu hs hn ty;exact ⟨a,c,X,r1,r2,r3⟩
end
section
open Go.Proofs.Cm (Tr Gr Gd Sd Qu dS)
theorem d_ {α:Type} [DecidableEq α]:∀ {l m:List α},l.Nodup->(∀ x∈l,x∈m)->l.length<=m.length
 | [],_,_,_=>Nat.zero_le _
 | a :: l,m,nd,h=>by
  have ha:=h a (List.mem_cons_self ..);have h1:=d_ (l:=l) (m:=m.erase a) (List.nodup_cons.1 nd).2 (fun x hx=>(List.mem_erase_of_ne (fun e:x=a=>(List.nodup_cons.1 nd).1 (by rw [<- e]; exact hx))).2 (h x (List.mem_cons_of_mem _ hx)));rw [List.length_erase_of_mem ha] at h1;have h2:=List.length_pos_of_mem ha;simp only [List.length_cons]; omega
end
section
open Go.RowKit
open Go.Proofs.Cm (Tr)
theorem T5 {P:Program} {t e:TypeId} (T:Rg.pV P t e z bytes) (ty:TypeId) {us:List Value} (fo:X.ownsRow B e 1 v n xs) (hX:B<=X.heap.size)
  (uM:Rg.cz X xv us) (h1:∀ u∈us,u.oneCell'=true) (hn:n+us.length<1000000000) :
  ∃ v' X',(Builtin.append_ #[t,t] ty #[v,xv]).run P X=.ok v' X'/\X'.ownsRow B e 1 v' (n+us.length) (xs++us)/\X.grownBy X' v.ownBlock/\(v'.ownBlock=v.ownBlock∨v'.ownBlock=some X.heap.size):=by
 obtain ⟨i0,hi,cN,bs,dI⟩:=info_parts T.info;obtain ⟨ad,cap,rfl,q2,q3,q4,q5⟩:=uM
 cases ad with
 | none =>
  have h0:us=[]:=by
   cases us with
   | nil=>rfl
   | cons u r=>obtain ⟨b,o,e1,_⟩:=q5 (by simp); cases e1
  subst h0;exact ⟨v,X,Rg.qM (P:=P) (w:=X) B t ty e i0 1 cap T.ty hi v n xs fo,by simpa using fo,⟨rfl,rfl,rfl,Nat.le_refl _,fun _ _ _=>rfl⟩,.inl rfl⟩
 | some ad =>
  obtain ⟨v',w',hr,h2,h3,h4,h5⟩:=run_append_own_at (P:=P) X B t ty e i0 z 1 bytes T.ty hi cN bs dI T.zc (by decide) v n xs fo ad us.length cap us (by omega) (fun j u hu=>by
   have hj:=(List.getElem?_eq_some_iff.1 hu).1;obtain ⟨b,o,e1,e2,e3⟩:=q5 (by omega);simp at e1; subst e1
   rw [Addr.add_mid,e3 j hj,<- hu,List.getElem?_eq_getElem hj]) h1 (by unfold maxLen; omega) (by have:(n+us.length)*bytes<=1000000000*64:=Nat.mul_le_mul (by omega) T.small; omega) hX
  exact ⟨v',w',hr,h2,h3,h5⟩
structure eA (F M:Nat->Prop) (W:World) (v:Value) (l:List (List Nat)):Prop where
 own:∃ B us,B<=W.heap.size/\W.ownsRow B 27 1 v l.length us/\Rg.bx F W us (l.map Ma.ag)
 off:∀ k,v.ownBlock=some k->¬ F k/\¬ M k
theorem eS.g {l:List (List Nat)} (h:eS F B W v l) (hF:∀ k,F k->k<B) (hM:∀ k,M k->k<B):eA F M W v l:=by
 obtain ⟨us,h1,h2⟩:=h.own;refine ⟨⟨B,us,h.size,h1,h2⟩,fun k e=>?_⟩;have:=(h1.lt k e).1;exact ⟨fun g=>by have:=hF k g; omega,fun g=>by have:=hM k g; omega⟩
theorem eA.lt {F M:Nat->Prop} {W:World} {v:Value} {l:List (List Nat)} (h:eA F M W v l):∀ k,v.ownBlock=some k->k<W.heap.size:=fun k e=>by
 obtain ⟨B,us,h0,h1,h2⟩:=h.own;exact (h1.lt k e).2
theorem eA.up {l:List (List Nat)} (h:eA F M W v l) (hb:Below W.heap.size W W'):eA (c_ F W W') M W' v l:=by
 obtain ⟨B,us,h0,h1,h2⟩:=h.own;refine ⟨⟨B,us,Nat.le_trans h0 hb.size,Rg.bE h1 hb,(h2.kp (M:=fun _=>False) (Rg.Kp.az hb) (fun _ _=>id)).mono fun _=>.inl⟩,fun k e=>⟨fun g=>?_,(h.off k e).2⟩⟩;have:=h.lt k e
 rcases g with g | g
 ·exact (h.off k e).1 g
 ·omega
theorem eA.shape {l:List (List Nat)} (h:eA F M W v l):∃ a c,v=.slice a l.length c:=by
 obtain ⟨B,us,h0,h1,h2⟩:=h.own;exact Rg.cn h1
theorem eA.at {l:List (List Nat)} (h:eA F M W v l) {i:Nat} (hi:i<l.length):∃ g c u,v=.slice (some ⟨g,0,none⟩) l.length c/\CL W g (0+i) u/\FP F W u l[i]:=by
 obtain ⟨B,us,h0,h1,h2⟩:=h.own;obtain ⟨g,c,u,e1,e2,e3,e4⟩:=kV h1 hi;obtain ⟨hu,rfl⟩:=List.getElem?_eq_some_iff.1 e3;have:=h2.2 i hu (by rw [List.length_map]; exact hi);rw [List.getElem_map] at this;exact ⟨g,c,us[i],e1,⟨e2,e4⟩,this⟩
theorem eA.app {F M:Nat->Prop} {W:World} {v v2:Value} {l m:List (List Nat)} {B2:Nat} (h:eA F M W v l) (h2:eS F B2 W v2 m) (hF:∀ k,F k->k<W.heap.size) (hM:∀ k,M k->k<W.heap.size) (hn:l.length+m.length<1000000) (ty:TypeId) :
  ∃ a c X,(Builtin.append_ #[41,41] ty #[v,v2]).run Tryz.prog W=.ok (.slice a (l.length+m.length) c) X/\eA F M X (.slice a (l.length+m.length) c) (l++m)/\Rg.Kp (fun k=>v.ownBlock=some k) W X:=by
 obtain ⟨B,us,h0,h1,h3⟩:=h.own;obtain ⟨Xv,g1,g2⟩:=h2.own
 have hl:Xv.length=m.length:=by have:=g2.1; rwa [List.length_map] at this
 obtain ⟨v',X,r1,r2,r3,r4⟩:=T5 (P:=Tryz.prog) bP ty h1 h0 (Rg.cz.cR g1 (by omega)) g2.LW (by omega);have hk:Rg.Kp (fun k=>v.ownBlock=some k) W X:=Rg.Kp.cE r3 fun _ e=>e;rw [hl] at r2;obtain ⟨a,c,rfl⟩:=Rg.cn r2;have hg:∀ k,F k->¬ v.ownBlock=some k:=fun k g e=>(h.off k e).1 g;refine ⟨a,c,X,r1,⟨⟨B,us++Xv,Nat.le_trans h0 hk.size,by rw [List.length_append]; exact r2,by rw [List.map_append]; exact (h3.kp hk hg).app (g2.kp hk hg)⟩,fun k e=>?_⟩,hk⟩
 rcases r4 with r4 | r4
 ·exact h.off k (by rw [<- r4]; exact e)
 ·rw [r4] at e
  injection e with e
  subst e;exact ⟨fun g=>by have:=hF _ g; omega,fun g=>by have:=hM _ g; omega⟩
end
section
open Go.RowKit
open Go.Proofs.Cm (Tr)
attribute [local irreducible] Go.Calls
theorem eS.at {l:List (List Nat)} (h:eS F B W v l) {i:Nat} (hi:i<l.length):∃ g c u,v=.slice (some ⟨g,0,none⟩) l.length c/\CL W g (0+i) u/\FP F W u l[i]:=by
 obtain ⟨us,h1,h2⟩:=h.own;obtain ⟨g,c,u,e1,e2,e3,e4⟩:=kV h1 hi;obtain ⟨hu,rfl⟩:=List.getElem?_eq_some_iff.1 e3;have:=h2.2 i hu (by rw [List.length_map]; exact hi);rw [List.getElem_map] at this;exact ⟨g,c,us[i],e1,⟨e2,e4⟩,this⟩
end
section
open Go.RowKit
open Go.Proofs.Cm (Tr)
attribute [local irreducible] Go.Calls Go.wpList
theorem eS.mono {F F':Nat->Prop} {B:Nat} {W:World} {v:Value} {l:List (List Nat)} (h:eS F B W v l) (hF:∀ k,F k->F' k):eS F' B W v l:=by
 obtain ⟨us,h1,h2⟩:=h.own;exact ⟨h.size,us,h1,h2.mono hF⟩
theorem eA.rows {l:List (List Nat)} (h:eA F M W v l) (hl:l.length<=1000000000):Rg.Rows W v (l.map Ma.ag):=by
 obtain ⟨B,us,h0,h1,h2⟩:=h.own;have e:us.length=(l.map Ma.ag).length:=h2.1;exact Rg.Rows.cR h1 hl e fun i a b=>(h2.2 i a b).ints

theorem gG.shape {l:List Int} (h:gG B W v l):∃ a c,v=.slice a l.length c:=Rg.cn h.own
theorem gG.nil (B:Nat) (W:World):gG B W (.slice none 0 0) []:=⟨World.ownsRow_nil _ _ _ _⟩
theorem gG.push {l:List Int} (h:gG B W v l) (hB:B<=W.heap.size) (x:Int) (hn:l.length<1000000) (ty:TypeId) :
  ∃ a c X,(Builtin.append_ #[26,26] ty #[v,.slice (some ⟨W.heap.size,0,none⟩) 1 1]).run Tryz.prog (W.alloc (.cells #[.int .i64 x] 3))=.ok (.slice a (l.length+1) c) X/\gG B X (.slice a (l.length+1) c) (l++[x])/\(∀ {B':Nat} {W0:World},B'<=B->Below B' W0 W->Below B' W0 X):=by
 have hb:Below W.heap.size W (W.alloc (.cells #[.int .i64 x] 3)):=(Below.refl _ _).alloc (Nat.le_refl _) _;obtain ⟨v',X,r1,r2,r3,r4,a,c,rfl⟩:=eE (P:=Tryz.prog) bK ty (Rg.bE h.own hb) (Nat.le_trans hB hb.size) W.heap.size 1 (u:=.int .i64 x) (by rw [Rg.aI]; rfl) rfl hn;refine ⟨a,c,X,r1,⟨by rw [List.length_append,List.map_append]; exact r2⟩,fun {B' W0} MS kq=>?_⟩;exact (kq.alloc (Nat.le_trans MS hB) _).grown r3 (Nat.le_trans (Nat.le_trans MS hB) hb.size) (fun j hj=>Nat.le_trans MS ((Rg.bE h.own hb).lt j hj).1)

theorem gG.up {l:List Int} (h:gG B W v l) (hb:Below W.heap.size W W'):gG B W' v l:=h.jj hb
theorem gG.at {a:Option Addr} {m c:Nat} {l:List Nat} (h:gG B W (.slice a m c) (Ma.ag l)) {k:Nat} (hk:k<l.length):∃ g,a=some ⟨g,0,none⟩/\CL W g (0+k) (.int .i64 ((l[k]:Nat):Int)):=by
 obtain ⟨g,c',u,e1,e2,e3,e4⟩:=kV h.own (k:=k) (by rw [Ma.ar]; exact hk)
 injection e1 with e1 _ _
 refine ⟨g,e1,?_,e4⟩;rw [e2,<- e3];simp [Ma.ag,List.getElem?_eq_getElem hk]
end
section
open Go.RowKit
open Go.Proofs.Ob
open Go.Proofs.Cm (Tr)
attribute [local irreducible] Go.Calls Go.wpList
theorem bf.mono {F F':Nat->Prop} {w:World} {v:Value} {lz:List (List (List Int))} (h:bf F w v lz) (hF:∀ k,F k->F' k):bf F' w v lz:=by
 obtain ⟨us,h1,h2⟩:=h;exact ⟨us,h1.mono hF,bG.mono h2 hF⟩
def T8 (B:Nat) (w:World) (cv:Value) (n:Nat) (gs:List (List Nat)):Prop:=∃ ov rv O R,cv=.agg #[.int .i64 ((n:Nat):Int),ov,rv]/\Rg.aH (fun z=>B<=z) w ov (O.map Ma.ag)/\bf (fun z=>B<=z) w rv (R.map (List.map Ma.ag))/\Cm.ak n (Cm.Gr n (·∈gs)) O R
def dm (B:Nat) (w:World) (d:Int) (ll:List (List Int)) (cv:Value) (c:Int):Prop:=(c≠0/\cv=qi)∨(c=0/\∃ n gs,d=((n:Nat):Int)/\ll=gs.map Ma.ag/\1<=n/\n<=64/\T8 B w cv n gs)
theorem dm.kp {B:Nat} {M:Nat->Prop} {w w':World} {d:Int} {ll:List (List Int)} {cv:Value} {c:Int} (h:dm B w d ll cv c) (hk:Rg.Kp M w w') (hM:∀ z,M z->z<B):dm B w' d ll cv c:=by
 rcases h with h | ⟨h0,n,gs,h1,h2,h3,h4,ov,rv,O,R,h5,h6,h7,h8⟩
 ·exact .inl h
 ·exact .inr ⟨h0,n,gs,h1,h2,h3,h4,ov,rv,O,R,h5,aH.kp h6 hk (fun z g e=>by have:=hM z e; omega),h7.kp hk (fun z g e=>by have:=hM z e; omega),h8⟩
theorem GS.kg {F F':Nat->Prop} {w w':World} {v:Value} {gs:List (List Nat)} (h:GS F w v gs) (hk:KG F w F' w'):GS F' w' v gs:=by
 obtain ⟨a,c,e,h1⟩:=h;refine ⟨a,c,e,fun h0=>?_⟩;obtain ⟨b,o,e2,h2⟩:=h1 h0;refine ⟨b,o,e2,fun k cO=>?_⟩;obtain ⟨u,h3,h4⟩:=h2 k cO;exact ⟨u,h3.kg hk,h4.kg hk⟩
theorem GS.at {b o c:Nat} (h:GS F w (.slice (some ⟨b,o,none⟩) n c) gs) {k:Nat} (hk:k<gs.length):∃ u,CF F w b (o+k) u/\FP F w u gs[k]:=by
 obtain ⟨a,c',e,h1⟩:=h;obtain ⟨b',o',e2,h2⟩:=h1 (by omega)
 injection e with e3 _ _
 rw [e2] at e3;simp only [Option.some.injEq,Addr.mk.injEq,and_true] at e3;obtain ⟨rfl,rfl⟩:=e3;exact h2 k hk
end
section
open Go.RowKit
open Go.Proofs.Ob
attribute [local irreducible] Go.Calls Go.wpList
theorem jm {o:Oper} {a:Act} (F:FuncId) (x y f:Operand) (nV:Array TypeId) (ho:o.op=.call { callee:=.value f,args:=#[x,y],argTypes:=nV }) (hf:a.eval f=.func (.func F) #[] #[]) (hx:a.eval x=u1) (hy:a.eval y=u2)
  (hF:(callFunc F #[u1,u2]).run Tryz.prog w=.ok (.enter F #[u1,u2]) w):(execOp a.eval o).run Tryz.prog w=.ok (.enter F #[u1,u2]) w:=by
 unfold execOp;simp [ho,hx,hy,hf,resolve,invoke,Deferred.ofValue,hF]
def wV (F:FuncId) (w0:World) (us vs:List Value) (p:Nat->Bool):Prop:=∀ i (h:i<us.length) (h2:i<vs.length) (W:World),Below w0.heap.size w0 W->Calls Tryz.prog F #[us[i],vs[i]] W fun e W'=>e=.returned (.bool (p i))/\Below W.heap.size W W'
def iF (m n:Nat) (p:Nat->Bool):Bool:=m == n && (List.range m).all p
theorem ql {m:Nat} {p:Nat->Bool} (h:m≠n):iF m n p=false:=by unfold iF; simp [h]
theorem qm {m:Nat} {p:Nat->Bool} (h:(List.range m).all p=true):iF m m p=true:=by unfold iF; simp [h]
theorem tD {m:Nat} {p:Nat->Bool} {k:Nat} (hk:k<m) (h:p k=false):iF m m p=false:=by
 unfold iF;rw [Bool.and_eq_false_iff]
 right
 rw [List.all_eq_false];exact ⟨k,List.mem_range.2 hk,by simp [h]⟩
theorem kB {p:Nat->Bool} {k:Nat} (h:(List.range k).all p=true) (h2:p k=true):(List.range (k+1)).all p=true:=by
 rw [List.range_succ,List.all_append];simp [h,h2]
theorem GD {m:Nat} {p:Nat->Bool}:iF m n p=true↔m=n/\∀ i,i<m->p i=true:=by
 unfold iF;simp
theorem wW {α:Type} [DecidableEq α] {l m:List α} {p:Nat->Bool} (h:∀ i (h1:i<l.length) (h2:i<m.length),p i=decide (l[i]=m[i])):iF l.length m.length p=decide (l=m):=by
 rw [Bool.eq_iff_iff,GD,decide_eq_true_iff]
 constructor
 ·rintro ⟨h1,h2⟩
  refine List.ext_getElem h1 fun i a b=>?_;have:=h2 i a;rw [h i a b] at this;exact of_decide_eq_true this
 ·rintro rfl
  exact ⟨rfl,fun i hi=>by rw [h i hi hi]; simp⟩
theorem A_ {va vb:Value} {us vs:List Value} (h1:Rg.cz w va us) (h2:Rg.cz w vb vs) (F:FuncId) (hF:∀ args W,(callFunc F args).run Tryz.prog W=.ok (.enter F args) W) {p:Nat->Bool} (hp:wV F w us vs p) :
  Calls Tryz.prog 125 #[va,vb,.func (.func F) #[] #[]] w fun e w'=>e=.returned (.bool (iF us.length vs.length p))/\Below w.heap.size w w':=by
 obtain ⟨ad,cap,rfl,_,_,vg,aO⟩:=h1;obtain ⟨nT,cS,rfl,_,_,re,cT⟩:=h2;unfold Rg.uL at vg re;have Hc:=U aO;have Ba:=U cT;have HP:=U hp;have K:=U (Below.refl w.heap.size w);clear aO cT hp
 go_enter Tryz.func125,Tryz.ntmps125
 by_cases hne:us.length=vs.length
 ·have DK:(us.length:Int)=(vs.length:Int):=by omega
  have jV:=U hne;go_upto_region 1 with (fail);refine d3 ?_;refine d5 10 (.slice ad us.length cap) ?_;go_frame;refine d4 11 (i3 Tryz.underlying22) ?_;go_frame;refine d5 12 (.slice nT vs.length cS) ?_;go_frame;refine d4 13 (i3 Tryz.underlying22) ?_;go_frame;refine d4 14 (g9 (.bool false) .neq (h:=aU _ f9)) ?_;go_frame;have HA:=U (show (List.range 0).all p=true from rfl);go_wp2
  go_loopw [17] (fun kv wr=>∃ k:Nat,kv=.int .i64 k/\k<=us.length/\Hid ((List.range k).all p=true)/\Hid (Below w.heap.size w wr)) (fun kv _=>us.length - (intOf kv).toNat)
  case atStart=>exact ⟨0,rfl,Nat.zero_le _,HA,K⟩
  case round =>
   clear HA K;obtain ⟨k,rfl,hk,HA,K⟩:=hrel
   by_cases cg:k<us.length
   ·have ly:(k:Int)<(us.length:Int):=by omega
    have j2:k<vs.length:=by omega
    have bC:=U cg;have uy:=U j2;obtain ⟨b,o,rfl,hb,hc⟩:=Hc.p (by omega);obtain ⟨b2,o2,rfl,dG,eD⟩:=Ba.p (by omega);obtain ⟨x,hx⟩:∃ x:Value,Hid (us[k]'cg=x):=⟨_,U rfl⟩;obtain ⟨y,hy⟩:∃ y:Value,Hid (vs[k]'j2=y):=⟨_,U rfl⟩;have CX:=U (CL.mk (show w.cell? ⟨b,o+k,none⟩=some x by rw [<- hx.p]; exact hc k cg) hb);have CY:=U (CL.mk (show w.cell? ⟨b2,o2+k,none⟩=some y by rw [<- hy.p]; exact eD k j2) dG);have iW:=HP.p k cg j2 wr K.p;rw [show us[k]=x from hx.p,show vs[k]=y from hy.p] at iW;have HK:=U iW;clear hc eD iW hb dG
    cases fh:p k with
    | true =>
     have Xw:=U fh;rw [fh] at HK;have mB:=U (kB HA.p fh);clear fh;go_upto_region 5 with (fail);refine d3 ?_;refine d5 19 (.int .i64 ((k:Nat):Int)) ?_;go_frame;refine d4 20 (aB bU _ _ rfl b (o) (us.length) cap (k) rfl rfl bC.p) ?_;go_frame;refine d4 21 (g8 (x) ⟨b,o+k,none⟩ (Rg.ae _ _ Tryz.underlying26 ((Below.cell (p:=⟨b,o+k,none⟩) K.p CX.p.lt).trans CX.p.cell))) ?_;go_frame;refine d6 7 (.int .i64 ((k:Nat):Int)) ?_;go_frame;refine d6 8 (x) ?_;go_frame;go_upto_region 6 with (fail);refine d3 ?_;refine d5 22 (.slice (some ⟨b2,o2,none⟩) vs.length cS) ?_;go_frame;refine d5 23 (.int .i64 ((k:Nat):Int)) ?_;go_frame;refine d4 24 (aB bU _ _ rfl b2 (o2) (vs.length) cS (k) rfl rfl uy.p) ?_;go_frame;refine d4 25 (g8 (y) ⟨b2,o2+k,none⟩ (Rg.ae _ _ Tryz.underlying26 ((Below.cell (p:=⟨b2,o2+k,none⟩) K.p CY.p.lt).trans CY.p.cell))) ?_;go_frame
     refine d6 9 (y) ?_;go_frame;go_upto_region 7 with (fail);refine d3 ?_;refine d5 26 (.func (.func F) #[] #[]) ?_;go_frame;refine d5 27 (x) ?_;go_frame;refine d5 28 (y) ?_;go_frame;refine f7 29 (jm F _ _ _ _ rfl rfl rfl rfl (hF _ _)) ?_;refine (HK.p).mono ?_;rintro e1 nB ⟨rfl,hb⟩;refine ⟨_,rfl,?_⟩;go_frame;replace K:=U (Rg.acc K.p hb);clear hb;refine d4 30 (bm _ _ true rfl rfl) ?_;go_frame;go_wp2
     go_roundw
     case rel=>exact ⟨k+1,by go_num,bC.p,mB,K⟩
     case measure=>simp [intOf]; have:=bC.p; omega
    | false =>
     rw [fh] at HK;have HR:=U (tD cg fh);clear fh;go_upto_region 5 with (fail);refine d3 ?_;refine d5 19 (.int .i64 ((k:Nat):Int)) ?_;go_frame;refine d4 20 (aB bU _ _ rfl b (o) (us.length) cap (k) rfl rfl bC.p) ?_;go_frame;refine d4 21 (g8 (x) ⟨b,o+k,none⟩ (Rg.ae _ _ Tryz.underlying26 ((Below.cell (p:=⟨b,o+k,none⟩) K.p CX.p.lt).trans CX.p.cell))) ?_;go_frame;refine d6 7 (.int .i64 ((k:Nat):Int)) ?_;go_frame;refine d6 8 (x) ?_;go_frame;go_upto_region 6 with (fail);refine d3 ?_;refine d5 22 (.slice (some ⟨b2,o2,none⟩) vs.length cS) ?_;go_frame;refine d5 23 (.int .i64 ((k:Nat):Int)) ?_;go_frame;refine d4 24 (aB bU _ _ rfl b2 (o2) (vs.length) cS (k) rfl rfl uy.p) ?_;go_frame;refine d4 25 (g8 (y) ⟨b2,o2+k,none⟩ (Rg.ae _ _ Tryz.underlying26 ((Below.cell (p:=⟨b2,o2+k,none⟩) K.p CY.p.lt).trans CY.p.cell))) ?_;go_frame
     refine d6 9 (y) ?_;go_frame;go_upto_region 7 with (fail);refine d3 ?_;refine d5 26 (.func (.func F) #[] #[]) ?_;go_frame;refine d5 27 (x) ?_;go_frame;refine d5 28 (y) ?_;go_frame;refine f7 29 (jm F _ _ _ _ rfl rfl rfl rfl (hF _ _)) ?_;refine (HK.p).mono ?_;rintro e1 nB ⟨rfl,hb⟩;refine ⟨_,rfl,?_⟩;go_frame;replace K:=U (Rg.acc K.p hb);clear hb;refine d4 30 (bm _ _ false rfl rfl) ?_;go_frame;go_wp2;go_ret;exact ⟨by rw [<- jV.p,HR.p]; rfl,K.p⟩
   ·obtain rfl:k=us.length:=by omega
    have ly:¬ (us.length:Int)<(us.length:Int):=by omega
    have HR:=U (qm HA.p);go_wp2;go_ret;exact ⟨by rw [<- jV.p,HR.p]; rfl,K.p⟩
 ·have DK:¬ (us.length:Int)=(vs.length:Int):=by omega
  have HR:=U (ql (p:=p) hne);go_upto_region 1 with (fail);refine d3 ?_;refine d5 10 (.slice ad us.length cap) ?_;go_frame;refine d4 11 (i3 Tryz.underlying22) ?_;go_frame;refine d5 12 (.slice nT vs.length cS) ?_;go_frame;refine d4 13 (i3 Tryz.underlying22) ?_;go_frame;refine d4 14 (g9 (.bool true) .neq (h:=aU _ f8)) ?_;go_frame;go_wp2;go_ret;exact ⟨by rw [HR.p]; rfl,K.p⟩
theorem Bb {va vb:Value} {us vs:List Value} (h1:Rg.cz w va us) (h2:Rg.cz w vb vs) (F:FuncId) (hF:∀ args W,(callFunc F args).run Tryz.prog W=.ok (.enter F args) W) {p:Nat->Bool} (hp:wV F w us vs p) :
  Calls Tryz.prog 127 #[va,vb,.func (.func F) #[] #[]] w fun e w'=>e=.returned (.bool (iF us.length vs.length p))/\Below w.heap.size w w':=by
 obtain ⟨ad,cap,rfl,_,_,vg,aO⟩:=h1;obtain ⟨nT,cS,rfl,_,_,re,cT⟩:=h2;unfold Rg.uL at vg re;have Hc:=U aO;have Ba:=U cT;have HP:=U hp;have K:=U (Below.refl w.heap.size w);clear aO cT hp
 go_enter Tryz.func127,Tryz.ntmps127
 by_cases hne:us.length=vs.length
 ·have DK:(us.length:Int)=(vs.length:Int):=by omega
  have jV:=U hne;go_upto_region 1 with (fail);refine d3 ?_;refine d5 10 (.slice ad us.length cap) ?_;go_frame;refine d4 11 (i3 Tryz.underlying23) ?_;go_frame;refine d5 12 (.slice nT vs.length cS) ?_;go_frame;refine d4 13 (i3 Tryz.underlying23) ?_;go_frame;refine d4 14 (g9 (.bool false) .neq (h:=aU _ f9)) ?_;go_frame;have HA:=U (show (List.range 0).all p=true from rfl);go_wp2
  go_loopw [17] (fun kv wr=>∃ k:Nat,kv=.int .i64 k/\k<=us.length/\Hid ((List.range k).all p=true)/\Hid (Below w.heap.size w wr)) (fun kv _=>us.length - (intOf kv).toNat)
  case atStart=>exact ⟨0,rfl,Nat.zero_le _,HA,K⟩
  case round =>
   clear HA K;obtain ⟨k,rfl,hk,HA,K⟩:=hrel
   by_cases cg:k<us.length
   ·have ly:(k:Int)<(us.length:Int):=by omega
    have j2:k<vs.length:=by omega
    have bC:=U cg;have uy:=U j2;obtain ⟨b,o,rfl,hb,hc⟩:=Hc.p (by omega);obtain ⟨b2,o2,rfl,dG,eD⟩:=Ba.p (by omega);obtain ⟨x,hx⟩:∃ x:Value,Hid (us[k]'cg=x):=⟨_,U rfl⟩;obtain ⟨y,hy⟩:∃ y:Value,Hid (vs[k]'j2=y):=⟨_,U rfl⟩;have CX:=U (CL.mk (show w.cell? ⟨b,o+k,none⟩=some x by rw [<- hx.p]; exact hc k cg) hb);have CY:=U (CL.mk (show w.cell? ⟨b2,o2+k,none⟩=some y by rw [<- hy.p]; exact eD k j2) dG);have iW:=HP.p k cg j2 wr K.p;rw [show us[k]=x from hx.p,show vs[k]=y from hy.p] at iW;have HK:=U iW;clear hc eD iW hb dG
    cases fh:p k with
    | true =>
     have Xw:=U fh;rw [fh] at HK;have mB:=U (kB HA.p fh);clear fh;go_upto_region 5 with (fail);refine d3 ?_;refine d5 19 (.int .i64 ((k:Nat):Int)) ?_;go_frame;refine d4 20 (aB ke _ _ rfl b (o) (us.length) cap (k) rfl rfl bC.p) ?_;go_frame;refine d4 21 (g8 (x) ⟨b,o+k,none⟩ (Rg.ae _ _ Tryz.underlying41 ((Below.cell (p:=⟨b,o+k,none⟩) K.p CX.p.lt).trans CX.p.cell))) ?_;go_frame;refine d6 7 (.int .i64 ((k:Nat):Int)) ?_;go_frame;refine d6 8 (x) ?_;go_frame;go_upto_region 6 with (fail);refine d3 ?_;refine d5 22 (.slice (some ⟨b2,o2,none⟩) vs.length cS) ?_;go_frame;refine d5 23 (.int .i64 ((k:Nat):Int)) ?_;go_frame;refine d4 24 (aB ke _ _ rfl b2 (o2) (vs.length) cS (k) rfl rfl uy.p) ?_;go_frame;refine d4 25 (g8 (y) ⟨b2,o2+k,none⟩ (Rg.ae _ _ Tryz.underlying41 ((Below.cell (p:=⟨b2,o2+k,none⟩) K.p CY.p.lt).trans CY.p.cell))) ?_;go_frame
     refine d6 9 (y) ?_;go_frame;go_upto_region 7 with (fail);refine d3 ?_;refine d5 26 (.func (.func F) #[] #[]) ?_;go_frame;refine d5 27 (x) ?_;go_frame;refine d5 28 (y) ?_;go_frame;refine f7 29 (jm F _ _ _ _ rfl rfl rfl rfl (hF _ _)) ?_;refine (HK.p).mono ?_;rintro e1 nB ⟨rfl,hb⟩;refine ⟨_,rfl,?_⟩;go_frame;replace K:=U (Rg.acc K.p hb);clear hb;refine d4 30 (bm _ _ true rfl rfl) ?_;go_frame;go_wp2
     go_roundw
     case rel=>exact ⟨k+1,by go_num,bC.p,mB,K⟩
     case measure=>simp [intOf]; have:=bC.p; omega
    | false =>
     rw [fh] at HK;have HR:=U (tD cg fh);clear fh;go_upto_region 5 with (fail);refine d3 ?_;refine d5 19 (.int .i64 ((k:Nat):Int)) ?_;go_frame;refine d4 20 (aB ke _ _ rfl b (o) (us.length) cap (k) rfl rfl bC.p) ?_;go_frame;refine d4 21 (g8 (x) ⟨b,o+k,none⟩ (Rg.ae _ _ Tryz.underlying41 ((Below.cell (p:=⟨b,o+k,none⟩) K.p CX.p.lt).trans CX.p.cell))) ?_;go_frame;refine d6 7 (.int .i64 ((k:Nat):Int)) ?_;go_frame;refine d6 8 (x) ?_;go_frame;go_upto_region 6 with (fail);refine d3 ?_;refine d5 22 (.slice (some ⟨b2,o2,none⟩) vs.length cS) ?_;go_frame;refine d5 23 (.int .i64 ((k:Nat):Int)) ?_;go_frame;refine d4 24 (aB ke _ _ rfl b2 (o2) (vs.length) cS (k) rfl rfl uy.p) ?_;go_frame;refine d4 25 (g8 (y) ⟨b2,o2+k,none⟩ (Rg.ae _ _ Tryz.underlying41 ((Below.cell (p:=⟨b2,o2+k,none⟩) K.p CY.p.lt).trans CY.p.cell))) ?_;go_frame
     refine d6 9 (y) ?_;go_frame;go_upto_region 7 with (fail);refine d3 ?_;refine d5 26 (.func (.func F) #[] #[]) ?_;go_frame;refine d5 27 (x) ?_;go_frame;refine d5 28 (y) ?_;go_frame;refine f7 29 (jm F _ _ _ _ rfl rfl rfl rfl (hF _ _)) ?_;refine (HK.p).mono ?_;rintro e1 nB ⟨rfl,hb⟩;refine ⟨_,rfl,?_⟩;go_frame;replace K:=U (Rg.acc K.p hb);clear hb;refine d4 30 (bm _ _ false rfl rfl) ?_;go_frame;go_wp2;go_ret;exact ⟨by rw [<- jV.p,HR.p]; rfl,K.p⟩
   ·obtain rfl:k=us.length:=by omega
    have ly:¬ (us.length:Int)<(us.length:Int):=by omega
    have HR:=U (qm HA.p);go_wp2;go_ret;exact ⟨by rw [<- jV.p,HR.p]; rfl,K.p⟩
 ·have DK:¬ (us.length:Int)=(vs.length:Int):=by omega
  have HR:=U (ql (p:=p) hne);go_upto_region 1 with (fail);refine d3 ?_;refine d5 10 (.slice ad us.length cap) ?_;go_frame;refine d4 11 (i3 Tryz.underlying23) ?_;go_frame;refine d5 12 (.slice nT vs.length cS) ?_;go_frame;refine d4 13 (i3 Tryz.underlying23) ?_;go_frame;refine d4 14 (g9 (.bool true) .neq (h:=aU _ f8)) ?_;go_frame;go_wp2;go_ret;exact ⟨by rw [HR.p]; rfl,K.p⟩
theorem Bc {va vb:Value} {us vs:List Value} (h1:Rg.cz w va us) (h2:Rg.cz w vb vs) (F:FuncId) (hF:∀ args W,(callFunc F args).run Tryz.prog W=.ok (.enter F args) W) {p:Nat->Bool} (hp:wV F w us vs p) :
  Calls Tryz.prog 129 #[va,vb,.func (.func F) #[] #[]] w fun e w'=>e=.returned (.bool (iF us.length vs.length p))/\Below w.heap.size w w':=by
 obtain ⟨ad,cap,rfl,_,_,vg,aO⟩:=h1;obtain ⟨nT,cS,rfl,_,_,re,cT⟩:=h2;unfold Rg.uL at vg re;have Hc:=U aO;have Ba:=U cT;have HP:=U hp;have K:=U (Below.refl w.heap.size w);clear aO cT hp
 go_enter Tryz.func129,Tryz.ntmps129
 by_cases hne:us.length=vs.length
 ·have DK:(us.length:Int)=(vs.length:Int):=by omega
  have jV:=U hne;go_upto_region 1 with (fail);refine d3 ?_;refine d5 10 (.slice ad us.length cap) ?_;go_frame;refine d4 11 (i3 Tryz.underlying41) ?_;go_frame;refine d5 12 (.slice nT vs.length cS) ?_;go_frame;refine d4 13 (i3 Tryz.underlying41) ?_;go_frame;refine d4 14 (g9 (.bool false) .neq (h:=aU _ f9)) ?_;go_frame;have HA:=U (show (List.range 0).all p=true from rfl);go_wp2
  go_loopw [17] (fun kv wr=>∃ k:Nat,kv=.int .i64 k/\k<=us.length/\Hid ((List.range k).all p=true)/\Hid (Below w.heap.size w wr)) (fun kv _=>us.length - (intOf kv).toNat)
  case atStart=>exact ⟨0,rfl,Nat.zero_le _,HA,K⟩
  case round =>
   clear HA K;obtain ⟨k,rfl,hk,HA,K⟩:=hrel
   by_cases cg:k<us.length
   ·have ly:(k:Int)<(us.length:Int):=by omega
    have j2:k<vs.length:=by omega
    have bC:=U cg;have uy:=U j2;obtain ⟨b,o,rfl,hb,hc⟩:=Hc.p (by omega);obtain ⟨b2,o2,rfl,dG,eD⟩:=Ba.p (by omega);obtain ⟨x,hx⟩:∃ x:Value,Hid (us[k]'cg=x):=⟨_,U rfl⟩;obtain ⟨y,hy⟩:∃ y:Value,Hid (vs[k]'j2=y):=⟨_,U rfl⟩;have CX:=U (CL.mk (show w.cell? ⟨b,o+k,none⟩=some x by rw [<- hx.p]; exact hc k cg) hb);have CY:=U (CL.mk (show w.cell? ⟨b2,o2+k,none⟩=some y by rw [<- hy.p]; exact eD k j2) dG);have iW:=HP.p k cg j2 wr K.p;rw [show us[k]=x from hx.p,show vs[k]=y from hy.p] at iW;have HK:=U iW;clear hc eD iW hb dG
    cases fh:p k with
    | true =>
     have Xw:=U fh;rw [fh] at HK;have mB:=U (kB HA.p fh);clear fh;go_upto_region 5 with (fail);refine d3 ?_;refine d5 19 (.int .i64 ((k:Nat):Int)) ?_;go_frame;refine d4 20 (aB bP _ _ rfl b (o) (us.length) cap (k) rfl rfl bC.p) ?_;go_frame;refine d4 21 (g8 (x) ⟨b,o+k,none⟩ (Rg.ae _ _ Tryz.underlying27 ((Below.cell (p:=⟨b,o+k,none⟩) K.p CX.p.lt).trans CX.p.cell))) ?_;go_frame;refine d6 7 (.int .i64 ((k:Nat):Int)) ?_;go_frame;refine d6 8 (x) ?_;go_frame;go_upto_region 6 with (fail);refine d3 ?_;refine d5 22 (.slice (some ⟨b2,o2,none⟩) vs.length cS) ?_;go_frame;refine d5 23 (.int .i64 ((k:Nat):Int)) ?_;go_frame;refine d4 24 (aB bP _ _ rfl b2 (o2) (vs.length) cS (k) rfl rfl uy.p) ?_;go_frame;refine d4 25 (g8 (y) ⟨b2,o2+k,none⟩ (Rg.ae _ _ Tryz.underlying27 ((Below.cell (p:=⟨b2,o2+k,none⟩) K.p CY.p.lt).trans CY.p.cell))) ?_;go_frame
     refine d6 9 (y) ?_;go_frame;go_upto_region 7 with (fail);refine d3 ?_;refine d5 26 (.func (.func F) #[] #[]) ?_;go_frame;refine d5 27 (x) ?_;go_frame;refine d5 28 (y) ?_;go_frame;refine f7 29 (jm F _ _ _ _ rfl rfl rfl rfl (hF _ _)) ?_;refine (HK.p).mono ?_;rintro e1 nB ⟨rfl,hb⟩;refine ⟨_,rfl,?_⟩;go_frame;replace K:=U (Rg.acc K.p hb);clear hb;refine d4 30 (bm _ _ true rfl rfl) ?_;go_frame;go_wp2
     go_roundw
     case rel=>exact ⟨k+1,by go_num,bC.p,mB,K⟩
     case measure=>simp [intOf]; have:=bC.p; omega
    | false =>
     rw [fh] at HK;have HR:=U (tD cg fh);clear fh;go_upto_region 5 with (fail);refine d3 ?_;refine d5 19 (.int .i64 ((k:Nat):Int)) ?_;go_frame;refine d4 20 (aB bP _ _ rfl b (o) (us.length) cap (k) rfl rfl bC.p) ?_;go_frame;refine d4 21 (g8 (x) ⟨b,o+k,none⟩ (Rg.ae _ _ Tryz.underlying27 ((Below.cell (p:=⟨b,o+k,none⟩) K.p CX.p.lt).trans CX.p.cell))) ?_;go_frame;refine d6 7 (.int .i64 ((k:Nat):Int)) ?_;go_frame;refine d6 8 (x) ?_;go_frame;go_upto_region 6 with (fail);refine d3 ?_;refine d5 22 (.slice (some ⟨b2,o2,none⟩) vs.length cS) ?_;go_frame;refine d5 23 (.int .i64 ((k:Nat):Int)) ?_;go_frame;refine d4 24 (aB bP _ _ rfl b2 (o2) (vs.length) cS (k) rfl rfl uy.p) ?_;go_frame;refine d4 25 (g8 (y) ⟨b2,o2+k,none⟩ (Rg.ae _ _ Tryz.underlying27 ((Below.cell (p:=⟨b2,o2+k,none⟩) K.p CY.p.lt).trans CY.p.cell))) ?_;go_frame
     refine d6 9 (y) ?_;go_frame;go_upto_region 7 with (fail);refine d3 ?_;refine d5 26 (.func (.func F) #[] #[]) ?_;go_frame;refine d5 27 (x) ?_;go_frame;refine d5 28 (y) ?_;go_frame;refine f7 29 (jm F _ _ _ _ rfl rfl rfl rfl (hF _ _)) ?_;refine (HK.p).mono ?_;rintro e1 nB ⟨rfl,hb⟩;refine ⟨_,rfl,?_⟩;go_frame;replace K:=U (Rg.acc K.p hb);clear hb;refine d4 30 (bm _ _ false rfl rfl) ?_;go_frame;go_wp2;go_ret;exact ⟨by rw [<- jV.p,HR.p]; rfl,K.p⟩
   ·obtain rfl:k=us.length:=by omega
    have ly:¬ (us.length:Int)<(us.length:Int):=by omega
    have HR:=U (qm HA.p);go_wp2;go_ret;exact ⟨by rw [<- jV.p,HR.p]; rfl,K.p⟩
 ·have DK:¬ (us.length:Int)=(vs.length:Int):=by omega
  have HR:=U (ql (p:=p) hne);go_upto_region 1 with (fail);refine d3 ?_;refine d5 10 (.slice ad us.length cap) ?_;go_frame;refine d4 11 (i3 Tryz.underlying41) ?_;go_frame;refine d5 12 (.slice nT vs.length cS) ?_;go_frame;refine d4 13 (i3 Tryz.underlying41) ?_;go_frame;refine d4 14 (g9 (.bool true) .neq (h:=aU _ f8)) ?_;go_frame;go_wp2;go_ret;exact ⟨by rw [HR.p]; rfl,K.p⟩

theorem M0 (args:Array Value) (w:World):(callFunc 131 args).run Tryz.prog w=.ok (.enter 131 args) w:=by kernel_rfl
theorem T_ (args:Array Value) (w:World):(callFunc 129 args).run Tryz.prog w=.ok (.enter 129 args) w:=by kernel_rfl
theorem M1 (args:Array Value) (w:World):(callFunc 125 args).run Tryz.prog w=.ok (.enter 125 args) w:=by kernel_rfl
theorem Ua (args:Array Value) (w:World):(callFunc 127 args).run Tryz.prog w=.ok (.enter 127 args) w:=by kernel_rfl
theorem kX (v1 v2:Value) (l1 l2:List Int) (w:World) (h:Rg.Ints w v1 l1) (h':Rg.Ints w v2 l2)  :
  Calls Tryz.prog 126 #[v1,v2] w fun e w'=>e=.returned (.bool (decide (l1=l2)))/\Below w.heap.size w w':=by
 have hl:l1.length<=1000000000:=by obtain ⟨n,a,c,e,_,e2⟩:=h.len; omega
 obtain ⟨ad,cap,rfl,_,vg,_,aO⟩:=h.shape;obtain ⟨nT,cS,rfl,_,re,_,cT⟩:=h'.shape;have Hc:=U aO;have Ba:=U cT;clear aO h cT h'
 by_cases hne:l1.length=l2.length
 ·rw [<- hne]
  rw [<- hne] at re;have jV:=U hne;clear hne
  go_enter Tryz.func126,Tryz.ntmps126
  go_wp2
  go_loopw [13] (fun i wr=>∃ k:Nat,k<=l1.length/\i=.int .i64 k/\Hid (l1.take k=l2.take k)/\Hid (Below w.heap.size w wr)) (fun i _=>l1.length - (intOf i).toNat)
  case atStart=>exact ⟨0,by omega,rfl,U (by simp),U (Below.refl _ _)⟩
  case round =>
   obtain ⟨k,hk,rfl,hs,bN⟩:=hrel
   by_cases aE:k<l1.length
   ·have pJ:k<l2.length:=by have:=jV.p; omega
    obtain ⟨b,o,rfl,hb,hc⟩:=Hc.p (by omega);obtain ⟨b2,o2,rfl,dG,eD⟩:=Ba.p (by omega);have c0:=(bN.p.cell (p:=⟨b,o+k,none⟩) hb).trans (hc k aE);have c2:=(bN.p.cell (p:=⟨b2,o2+k,none⟩) dG).trans (eD k pJ);obtain ⟨x,hx⟩:∃ x,Hid (x=l1[k]):=⟨_,U rfl⟩;obtain ⟨y,hy⟩:∃ y,Hid (y=l2[k]):=⟨_,U rfl⟩;rw [<- hx.p] at c0;rw [<- hy.p] at c2
    have cg:(k:Int)<(l1.length:Int):=by omega
    clear hc hb eD dG
    by_cases he:x=y
    ·have e1:(x != y)=false:=by simp [he]
     have HE:=U he;go_upto_region 6 with (fail)
     go_quiet (fail)
     have q8:=U (Rg.drewN bN.p nq);generalize wr.drewN nq=wq at *;go_wp2
     go_roundw
     case rel =>
      refine ⟨k+1,by omega,by go_num,U ?_,q8⟩;rw [List.take_succ_eq_append_getElem aE,List.take_succ_eq_append_getElem pJ,hs.p,<- hx.p,<- hy.p,HE.p]
     case measure=>simp [intOf]; omega
    ·have e1:(x != y)=true:=by simp [he]
     have hm:decide (l1=l2)=false:=by
      rw [decide_eq_false_iff_not];intro e;subst e;exact he (hx.p.trans hy.p.symm)
     have HM:=U hm;clear hm;go_upto_region 6 with (fail)
     go_quiet (fail)
     have q8:=U (Rg.drewN bN.p nq);generalize wr.drewN nq=wq at *;go_wp2;go_ret;exact ⟨by rw [HM.p]; rfl,q8.p⟩
   ·obtain rfl:k=l1.length:=by omega
    have hm:decide (l1=l2)=true:=by
     rw [decide_eq_true_iff];have:=hs.p
     rwa [List.take_length,jV.p,List.take_length] at this
    have HM:=U hm;clear hm;go_wp2;go_ret;exact ⟨by rw [HM.p]; rfl,bN.p⟩
 ·have hb:((l1.length:Int) != (l2.length:Int))=true:=by rw [bne_iff_ne]; omega
  have hm:decide (l1=l2)=false:=by
   rw [decide_eq_false_iff_not];intro e;subst e;exact hne rfl
  have HM:=U hm;have jV:=U hne;clear hm hne
  go_enter Tryz.func126,Tryz.ntmps126
  go_wp2;go_ret;exact ⟨by rw [HM.p]; rfl,Below.refl _ _⟩
theorem rf (v1 v2:Value) (l1 l2:List Int) (w:World) (h:Rg.Ints w v1 l1) (h':Rg.Ints w v2 l2)  :
  Calls Tryz.prog 131 #[v1,v2] w fun e w'=>e=.returned (.bool (decide (l1=l2)))/\Below w.heap.size w w':=by
 have hl:l1.length<=1000000000:=by obtain ⟨n,a,c,e,_,e2⟩:=h.len; omega
 obtain ⟨ad,cap,rfl,_,vg,_,aO⟩:=h.shape;obtain ⟨nT,cS,rfl,_,re,_,cT⟩:=h'.shape;have Hc:=U aO;have Ba:=U cT;clear aO h cT h'
 by_cases hne:l1.length=l2.length
 ·rw [<- hne]
  rw [<- hne] at re;have jV:=U hne;clear hne
  go_enter Tryz.func131,Tryz.ntmps131
  go_wp2
  go_loopw [13] (fun i wr=>∃ k:Nat,k<=l1.length/\i=.int .i64 k/\Hid (l1.take k=l2.take k)/\Hid (Below w.heap.size w wr)) (fun i _=>l1.length - (intOf i).toNat)
  case atStart=>exact ⟨0,by omega,rfl,U (by simp),U (Below.refl _ _)⟩
  case round =>
   obtain ⟨k,hk,rfl,hs,bN⟩:=hrel
   by_cases aE:k<l1.length
   ·have pJ:k<l2.length:=by have:=jV.p; omega
    obtain ⟨b,o,rfl,hb,hc⟩:=Hc.p (by omega);obtain ⟨b2,o2,rfl,dG,eD⟩:=Ba.p (by omega);have c0:=(bN.p.cell (p:=⟨b,o+k,none⟩) hb).trans (hc k aE);have c2:=(bN.p.cell (p:=⟨b2,o2+k,none⟩) dG).trans (eD k pJ);obtain ⟨x,hx⟩:∃ x,Hid (x=l1[k]):=⟨_,U rfl⟩;obtain ⟨y,hy⟩:∃ y,Hid (y=l2[k]):=⟨_,U rfl⟩;rw [<- hx.p] at c0;rw [<- hy.p] at c2
    have cg:(k:Int)<(l1.length:Int):=by omega
    clear hc hb eD dG
    by_cases he:x=y
    ·have e1:(x != y)=false:=by simp [he]
     have HE:=U he;go_upto_region 6 with (fail)
     go_quiet (fail)
     have q8:=U (Rg.drewN bN.p nq);generalize wr.drewN nq=wq at *;go_wp2
     go_roundw
     case rel =>
      refine ⟨k+1,by omega,by go_num,U ?_,q8⟩;rw [List.take_succ_eq_append_getElem aE,List.take_succ_eq_append_getElem pJ,hs.p,<- hx.p,<- hy.p,HE.p]
     case measure=>simp [intOf]; omega
    ·have e1:(x != y)=true:=by simp [he]
     have hm:decide (l1=l2)=false:=by
      rw [decide_eq_false_iff_not];intro e;subst e;exact he (hx.p.trans hy.p.symm)
     have HM:=U hm;clear hm;go_upto_region 6 with (fail)
     go_quiet (fail)
     have q8:=U (Rg.drewN bN.p nq);generalize wr.drewN nq=wq at *;go_wp2;go_ret;exact ⟨by rw [HM.p]; rfl,q8.p⟩
   ·obtain rfl:k=l1.length:=by omega
    have hm:decide (l1=l2)=true:=by
     rw [decide_eq_true_iff];have:=hs.p
     rwa [List.take_length,jV.p,List.take_length] at this
    have HM:=U hm;clear hm;go_wp2;go_ret;exact ⟨by rw [HM.p]; rfl,bN.p⟩
 ·have hb:((l1.length:Int) != (l2.length:Int))=true:=by rw [bne_iff_ne]; omega
  have hm:decide (l1=l2)=false:=by
   rw [decide_eq_false_iff_not];intro e;subst e;exact hne rfl
  have HM:=U hm;have jV:=U hne;clear hm hne
  go_enter Tryz.func131,Tryz.ntmps131
  go_wp2;go_ret;exact ⟨by rw [HM.p]; rfl,Below.refl _ _⟩
theorem DL {F:FuncId} {va vb:Value} {A B:List (List Int)} (h1:Rg.Rows w va A) (h2:Rg.Rows w vb B)
  (hF:∀ (v1 v2:Value) (l1 l2:List Int) (W:World),Rg.Ints W v1 l1->Rg.Ints W v2 l2->Calls Tryz.prog F #[v1,v2] W fun e w'=>e=.returned (.bool (decide (l1=l2)))/\Below W.heap.size W w') :
  ∃ us vs,Rg.cz w va us/\Rg.cz w vb vs/\us.length=A.length/\vs.length=B.length/\wV F w us vs (fun i=>decide (A.getD i []=B.getD i [])):=by
 obtain ⟨us,a1,a2,a3⟩:=h1;obtain ⟨vs,b1,b2,b3⟩:=h2;refine ⟨us,vs,a1,b1,a2,b2,fun i hi hj W hb=>?_⟩
 have e1:A.getD i []=A[i]'(by omega):=by rw [List.getD_eq_getElem?_getD,List.getElem?_eq_getElem (by omega)]; rfl
 have e2:B.getD i []=B[i]'(by omega):=by rw [List.getD_eq_getElem?_getD,List.getElem?_eq_getElem (by omega)]; rfl
 dsimp only
 rw [e1,e2];exact hF _ _ _ _ W ((a3 i hi (by omega)).jj hb) ((b3 i hj (by omega)).jj hb)
theorem I5 {A B:List (List Int)}:iF A.length B.length (fun i=>decide (A.getD i []=B.getD i []))=decide (A=B) :=
 wW fun i h1 h2=>by
  have e1:A.getD i []=A[i]:=by rw [List.getD_eq_getElem?_getD,List.getElem?_eq_getElem h1]; rfl
  have e2:B.getD i []=B[i]:=by rw [List.getD_eq_getElem?_getD,List.getElem?_eq_getElem h2]; rfl
  rw [e1,e2]
theorem Kl {F:FuncId} {va vb:Value} {A B:List (List (List Int))} (h1:fI w va A) (h2:fI w vb B)
  (hF:∀ (v1 v2:Value) (l1 l2:List (List Int)) (W:World),Rg.Rows W v1 l1->Rg.Rows W v2 l2->Calls Tryz.prog F #[v1,v2] W fun e w'=>e=.returned (.bool (decide (l1=l2)))/\Below W.heap.size W w') :
  ∃ us vs,Rg.cz w va us/\Rg.cz w vb vs/\us.length=A.length/\vs.length=B.length/\wV F w us vs (fun i=>decide (A.getD i []=B.getD i [])):=by
 obtain ⟨us,a1,a2,a3⟩:=h1;obtain ⟨vs,b1,b2,b3⟩:=h2;refine ⟨us,vs,a1,b1,a2,b2,fun i hi hj W hb=>?_⟩
 have e1:A.getD i []=A[i]'(by omega):=by rw [List.getD_eq_getElem?_getD,List.getElem?_eq_getElem (by omega)]; rfl
 have e2:B.getD i []=B[i]'(by omega):=by rw [List.getD_eq_getElem?_getD,List.getElem?_eq_getElem (by omega)]; rfl
 dsimp only
 rw [e1,e2];exact hF _ _ _ _ W ((a3 i hi (by omega)).jj hb) ((b3 i hj (by omega)).jj hb)
theorem M3 {A B:List (List (List Int))}:iF A.length B.length (fun i=>decide (A.getD i []=B.getD i []))=decide (A=B) :=
 wW fun i h1 h2=>by
  have e1:A.getD i []=A[i]:=by rw [List.getD_eq_getElem?_getD,List.getElem?_eq_getElem h1]; rfl
  have e2:B.getD i []=B[i]:=by rw [List.getD_eq_getElem?_getD,List.getElem?_eq_getElem h2]; rfl
  rw [e1,e2]
theorem Bd (args:Array Value) (w:World):(callFunc 126 args).run Tryz.prog w=.ok (.enter 126 args) w:=by kernel_rfl
theorem Xx (args:Array Value) (w:World):(callFunc 128 args).run Tryz.prog w=.ok (.enter 128 args) w:=by kernel_rfl
theorem Ub (args:Array Value) (w:World):(callFunc 130 args).run Tryz.prog w=.ok (.enter 130 args) w:=by kernel_rfl
theorem DM (v1 v2:Value) (l1 l2:List Int) (w:World) (h1:Rg.Ints w v1 l1) (h2:Rg.Ints w v2 l2) :
  Calls Tryz.prog 130 #[v1,v2] w fun e w'=>e=.returned (.bool (decide (l1=l2)))/\Below w.heap.size w w':=by
 have H1:=U h1;have H2:=U h2;have K:=U (Below.refl w.heap.size w);clear h1 h2;obtain ⟨b,kq⟩:∃ b,Hid (decide (l1=l2)=b):=⟨_,U rfl⟩
 go_enter Tryz.func130,Tryz.ntmps130
 go_upto_region 1 with (fail);refine d3 ?_;refine d5 5 (v1) ?_;go_frame;refine d5 6 (v2) ?_;go_frame;refine f7 7 (aw 131 _ _ _ rfl rfl rfl (M0 _ _)) ?_;refine (show Calls _ _ _ _ (fun e w'=>e=.returned (.bool b)/\Below w.heap.size w w') by rw [<- kq.p]; exact rf _ _ _ _ w H1.p H2.p).mono ?_;rintro e1 w1 ⟨rfl,hb⟩;refine ⟨_,rfl,?_⟩;go_frame;replace H1:=U (H1.p.jj hb);replace H2:=U (H2.p.jj hb);replace K:=U (Rg.acc K.p hb);clear hb;refine d6 4 (.bool b) ?_;go_frame;go_wp2;go_ret;exact ⟨by rw [kq.p]; rfl,K.p⟩
theorem GF (v1 v2:Value) (l1 l2:List (List Int)) (w:World) (h1:Rg.Rows w v1 l1) (h2:Rg.Rows w v2 l2) :
  Calls Tryz.prog 128 #[v1,v2] w fun e w'=>e=.returned (.bool (decide (l1=l2)))/\Below w.heap.size w w':=by
 obtain ⟨us,vs,hu,hv,e1,e2,iW⟩:=DL h1 h2 (F:=130) DM;have HC:=U (Bc hu hv _ Ub iW);rw [e1,e2,I5] at HC;have K:=U (Below.refl w.heap.size w);clear h1 h2 hu hv e1 e2 iW;obtain ⟨b,kq⟩:∃ b,Hid (decide (l1=l2)=b):=⟨_,U rfl⟩;rw [kq.p] at HC ⊢
 go_enter Tryz.func128,Tryz.ntmps128
 go_upto_region 1 with (fail);refine d3 ?_;refine d5 5 (v1) ?_;go_frame;refine d5 6 (v2) ?_;go_frame;refine f7 7 (dH 129 _ _ _ _ rfl rfl rfl rfl (T_ _ _)) ?_;refine (HC.p).mono ?_;rintro e1 w1 ⟨rfl,hb⟩;refine ⟨_,rfl,?_⟩;go_frame;replace K:=U (Rg.acc K.p hb);clear hb;refine d6 4 (.bool b) ?_;go_frame;go_wp2;go_ret;exact ⟨rfl,K.p⟩
theorem ox (v1 v2:Value) (A B:List (List Int)) (w:World) (h1:Rg.Rows w v1 A) (h2:Rg.Rows w v2 B) {b:Bool} (hb:Hid (decide (A=B)=b)) :
  Calls Tryz.prog 125 #[v1,v2,.func (.func 126) #[] #[]] w fun e w'=>e=.returned (.bool b)/\Below w.heap.size w w':=by
 obtain ⟨us,vs,hu,hv,e1,e2,iW⟩:=DL h1 h2 (F:=126) kX;have HC:=A_ hu hv _ Bd iW;rw [e1,e2,I5,hb.p] at HC;exact HC
theorem wX (v1 v2:Value) (A B:List (List (List Int))) (w:World) (h1:fI w v1 A) (h2:fI w v2 B) {b:Bool} (hb:Hid (decide (A=B)=b)) :
  Calls Tryz.prog 127 #[v1,v2,.func (.func 128) #[] #[]] w fun e w'=>e=.returned (.bool b)/\Below w.heap.size w w':=by
 obtain ⟨us,vs,hu,hv,e1,e2,iW⟩:=Kl h1 h2 (F:=128) GF;have HC:=Bb hu hv _ Xx iW;rw [e1,e2,M3,hb.p] at HC;exact HC
theorem gR (w:World) (x y z:Value):CL (w.alloc (.cells #[x,y,z] 25)) w.heap.size 0 x/\CL (w.alloc (.cells #[x,y,z] 25)) w.heap.size 1 y/\CL (w.alloc (.cells #[x,y,z] 25)) w.heap.size 2 z :=
 ⟨⟨by rw [Rg.aI]; rfl,by simp⟩,⟨by rw [Rg.aI]; rfl,by simp⟩,⟨by rw [Rg.aI]; rfl,by simp⟩⟩
def bg (w:World) (ov rv:Value) (OO:List (List Int)) (RR:List (List (List Int))):Prop:=Rg.Rows w ov OO/\fI w rv RR
theorem bg.jj {w w':World} {ov rv:Value} {OO:List (List Int)} {RR:List (List (List Int))} (h:bg w ov rv OO RR) (hb:Below w.heap.size w w'):bg w' ov rv OO RR:=⟨h.1.jj hb,h.2.jj hb⟩
theorem DN {n m:Int} {yY Be:Value} {DO:List (List Int)} {DP:List (List (List Int))} (h1:bg w ov rv OO RR) (h2:bg w yY Be DO DP) :
  Calls Tryz.prog 96 #[.agg #[.int .i64 n,ov,rv],.agg #[.int .i64 m,yY,Be]] w fun e w'=>e=.returned (.bool (decide (n=m/\OO=DO/\RR=DP)))/\Below w.heap.size w w':=by
 have H1:=U h1;have H2:=U h2;have K:=U (Below.refl w.heap.size w);clear h1 h2
 go_enter Tryz.func96,Tryz.ntmps96
 go_upto_region 0 with (fail);refine d3 ?_;have aQ:=gR w (.int .i64 n) ov rv;refine d4 2 (Rg.bq _ _ rfl rfl) ?_;go_frame;have hb:Below w.heap.size w (w.alloc (.cells #[.int .i64 n,ov,rv] 25)):=(Below.refl _ _).alloc (Nat.le_refl _) _;generalize w.alloc (.cells #[.int .i64 n,ov,rv] 25)=w1 at *;replace H1:=U (H1.p.jj hb);replace H2:=U (H2.p.jj hb);replace K:=U (Rg.acc K.p hb);clear hb;have A0:=U aQ.1;have A1:=U aQ.2.1;have A2:=U aQ.2.2;clear aQ;have aQ:=gR w1 (.int .i64 m) yY Be;refine d4 3 (Rg.bq _ _ rfl rfl) ?_;go_frame;have hb:Below w1.heap.size w1 (w1.alloc (.cells #[.int .i64 m,yY,Be] 25)):=(Below.refl _ _).alloc (Nat.le_refl _) _;generalize w1.alloc (.cells #[.int .i64 m,yY,Be] 25)=w2 at *;replace H1:=U (H1.p.jj hb);replace H2:=U (H2.p.jj hb);replace A0:=U (A0.p.jj hb);replace A1:=U (A1.p.jj hb)
 replace A2:=U (A2.p.jj hb);replace K:=U (Rg.acc K.p hb);clear hb;have B0:=U aQ.1;have B1:=U aQ.2.1;have B2:=U aQ.2.2;clear aQ;refine d6 4 (.bool false) ?_;go_frame
 by_cases M4:n=m
 ·obtain ⟨b1,cX⟩:∃ b,Hid (decide (OO=DO)=b):=⟨_,U rfl⟩
  obtain ⟨b2,dG⟩:∃ b,Hid (decide (RR=DP)=b):=⟨_,U rfl⟩;have HE:=U (show decide (n=m/\OO=DO/\RR=DP)=(b1 && b2) by rw [<- cX.p,<- dG.p]; simp [M4])
  cases b1 with
  | true =>
   go_upto_region 1 with (fail);refine d3 ?_;refine d4 5 (af _ rfl rfl (gP _ _)) ?_;go_frame;refine d4 6 (g8 (.int .i64 n) ⟨w.heap.size,0,none⟩ (ah A0.p.cell)) ?_;go_frame;refine d4 7 (af _ rfl rfl (gP _ _)) ?_;go_frame;refine d4 8 (g8 (.int .i64 m) ⟨w1.heap.size,0,none⟩ (ah B0.p.cell)) ?_;go_frame;refine d4 9 (g9 (.bool true) .eql (h:=fA _ (decide_eq_true M4))) ?_;go_frame;refine d5 10 (.bool true) ?_;go_frame;refine d9 11 (af _ rfl rfl (gQ _ _)) ?_;go_frame;refine d9 12 (g8 (ov) ⟨w.heap.size,1,none⟩ (Rg.ae _ _ Tryz.underlying22 A1.p.cell)) ?_;go_frame;refine d9 13 (af _ rfl rfl (gQ _ _)) ?_;go_frame;refine d9 14 (g8 (yY) ⟨w1.heap.size,1,none⟩ (Rg.ae _ _ Tryz.underlying22 B1.p.cell)) ?_;go_frame;refine kr (some 15) rfl rfl _ _ (dH 125 _ _ _ _ rfl rfl rfl rfl (M1 _ _)) ?_
   refine (ox _ _ _ _ w2 H1.p.1 H2.p.1 cX).mono ?_;rintro e1 w3 ⟨rfl,hb⟩;refine ⟨_,rfl,?_⟩;go_frame;replace H1:=U (H1.p.jj hb);replace H2:=U (H2.p.jj hb);replace A0:=U (A0.p.jj hb);replace A1:=U (A1.p.jj hb);replace A2:=U (A2.p.jj hb);replace B0:=U (B0.p.jj hb);replace B1:=U (B1.p.jj hb);replace B2:=U (B2.p.jj hb);replace K:=U (Rg.acc K.p hb);clear hb;refine d4 16 (i5 (.bool true)) ?_;go_frame;refine d5 17 (.bool true) ?_;go_frame;refine d9 18 (af _ rfl rfl (wQ _ _)) ?_;go_frame;refine d9 19 (g8 (rv) ⟨w.heap.size,2,none⟩ (Rg.ae _ _ Tryz.underlying23 A2.p.cell)) ?_;go_frame;refine d9 20 (af _ rfl rfl (wQ _ _)) ?_;go_frame;refine d9 21 (g8 (Be) ⟨w1.heap.size,2,none⟩ (Rg.ae _ _ Tryz.underlying23 B2.p.cell)) ?_;go_frame;refine kr (some 22) rfl rfl _ _ (dH 127 _ _ _ _ rfl rfl rfl rfl (Ua _ _)) ?_
   refine (wX _ _ _ _ w3 H1.p.2 H2.p.2 dG).mono ?_;rintro e1 w4 ⟨rfl,hb⟩;refine ⟨_,rfl,?_⟩;go_frame;replace H1:=U (H1.p.jj hb);replace H2:=U (H2.p.jj hb);replace A0:=U (A0.p.jj hb);replace A1:=U (A1.p.jj hb);replace A2:=U (A2.p.jj hb);replace B0:=U (B0.p.jj hb);replace B1:=U (B1.p.jj hb);replace B2:=U (B2.p.jj hb);replace K:=U (Rg.acc K.p hb);clear hb;refine d4 23 (i5 (.bool b2)) ?_;go_frame;refine d6 4 (.bool b2) ?_;go_frame;go_wp2;go_ret;exact ⟨by rw [HE.p]; rfl,K.p⟩
  | false =>
   go_upto_region 1 with (fail);refine d3 ?_;refine d4 5 (af _ rfl rfl (gP _ _)) ?_;go_frame;refine d4 6 (g8 (.int .i64 n) ⟨w.heap.size,0,none⟩ (ah A0.p.cell)) ?_;go_frame;refine d4 7 (af _ rfl rfl (gP _ _)) ?_;go_frame;refine d4 8 (g8 (.int .i64 m) ⟨w1.heap.size,0,none⟩ (ah B0.p.cell)) ?_;go_frame;refine d4 9 (g9 (.bool true) .eql (h:=fA _ (decide_eq_true M4))) ?_;go_frame;refine d5 10 (.bool true) ?_;go_frame;refine d9 11 (af _ rfl rfl (gQ _ _)) ?_;go_frame;refine d9 12 (g8 (ov) ⟨w.heap.size,1,none⟩ (Rg.ae _ _ Tryz.underlying22 A1.p.cell)) ?_;go_frame;refine d9 13 (af _ rfl rfl (gQ _ _)) ?_;go_frame;refine d9 14 (g8 (yY) ⟨w1.heap.size,1,none⟩ (Rg.ae _ _ Tryz.underlying22 B1.p.cell)) ?_;go_frame;refine kr (some 15) rfl rfl _ _ (dH 125 _ _ _ _ rfl rfl rfl rfl (M1 _ _)) ?_
   refine (ox _ _ _ _ w2 H1.p.1 H2.p.1 cX).mono ?_;rintro e1 w3 ⟨rfl,hb⟩;refine ⟨_,rfl,?_⟩;go_frame;replace H1:=U (H1.p.jj hb);replace H2:=U (H2.p.jj hb);replace A0:=U (A0.p.jj hb);replace A1:=U (A1.p.jj hb);replace A2:=U (A2.p.jj hb);replace B0:=U (B0.p.jj hb);replace B1:=U (B1.p.jj hb);replace B2:=U (B2.p.jj hb);replace K:=U (Rg.acc K.p hb);clear hb;refine d4 16 (i5 (.bool false)) ?_;go_frame;refine d5 17 (.bool false) ?_;go_frame;refine g7 18 ?_;go_frame;refine g7 19 ?_;go_frame;refine g7 20 ?_;go_frame;refine g7 21 ?_;go_frame;refine g7 22 ?_;go_frame;refine d4 23 (i4 (.bool false)) ?_;go_frame;refine d6 4 (.bool false) ?_;go_frame;go_wp2;go_ret;exact ⟨by rw [HE.p]; rfl,K.p⟩
 ·have HE:=U (show decide (n=m/\OO=DO/\RR=DP)=false by simp [M4])
  go_upto_region 1 with (fail);refine d3 ?_;refine d4 5 (af _ rfl rfl (gP _ _)) ?_;go_frame;refine d4 6 (g8 (.int .i64 n) ⟨w.heap.size,0,none⟩ (ah A0.p.cell)) ?_;go_frame;refine d4 7 (af _ rfl rfl (gP _ _)) ?_;go_frame;refine d4 8 (g8 (.int .i64 m) ⟨w1.heap.size,0,none⟩ (ah B0.p.cell)) ?_;go_frame;refine d4 9 (g9 (.bool false) .eql (h:=fA _ (decide_eq_false M4))) ?_;go_frame;refine d5 10 (.bool false) ?_;go_frame;refine g7 11 ?_;go_frame;refine g7 12 ?_;go_frame;refine g7 13 ?_;go_frame;refine g7 14 ?_;go_frame;refine g7 15 ?_;go_frame;refine d4 16 (i4 (.bool false)) ?_;go_frame;refine d5 17 (.bool false) ?_;go_frame;refine g7 18 ?_;go_frame;refine g7 19 ?_;go_frame;refine g7 20 ?_;go_frame;refine g7 21 ?_;go_frame;refine g7 22 ?_;go_frame;refine d4 23 (i4 (.bool false)) ?_;go_frame
  refine d6 4 (.bool false) ?_;go_frame;go_wp2;go_ret;exact ⟨by rw [HE.p]; rfl,K.p⟩
end
end Go.Proofs.YtpedbljnhnoohaaGreat
namespace Go.Proofs.Rg
open Go Go.RowKit
theorem ax {l:Nat} {P:Program} {ops:Array Oper} {rest:List Oper} {o:Oper} {a:Act} {Q:Exit->Act->World->Prop} (d:Option Tmp) (hg:o.guard=none) (hd:o.dst=d) (hnd:∀ c,o.op≠.defer c)
  (hr:(execOp a.eval o).run P w=.ok (.value v) w') (h:wpListIn (Fence.wide.inRound l) n P ops Q rest (a.put d v) w'):wpListIn (Fence.wide.inRound l) n P ops Q (o :: rest) a w:=by
 subst hd;refine wpListIn_plain hg fun K hK=>⟨fun _ _=>trivial,?_⟩;rw [Oper.semAt_eq _ _ _ hnd,hr];exact hK _ _ h
theorem fJ {l:Nat} {P:Program} {ops:Array Oper} {rest:List Oper} {o:Oper} {a:Act} {Q:Exit->Act->World->Prop} (d:Option Tmp) (hg:o.guard=none) (hd:o.dst=d) (hnd:∀ c,o.op≠.defer c)
  (hr:(execOp a.eval o).run P w=.ok .skip w') (h:wpListIn (Fence.wide.inRound l) n P ops Q rest (a.put d undef) w'):wpListIn (Fence.wide.inRound l) n P ops Q (o :: rest) a w:=by
 subst hd;refine wpListIn_plain hg fun K hK=>⟨fun _ _=>trivial,?_⟩;rw [Oper.semAt_eq _ _ _ hnd,hr];exact hK _ _ h
theorem o8 {l:Nat} {P:Program} {ops:Array Oper} {rest:List Oper} {o:Oper} {a:Act} {Q:Exit->Act->World->Prop} (d:Option Tmp) (hg:o.guard=none) (hd:o.dst=d) (hnd:∀ c,o.op≠.defer c) (f:FuncId) (args:Array Value)
  (hr:(execOp a.eval o).run P w=.ok (.enter f args) w) (h:Calls P f args w fun e w'=>∃ v,e=.returned v/\wpListIn (Fence.wide.inRound l) n P ops Q rest (a.put d v) w'):wpListIn (Fence.wide.inRound l) n P ops Q (o :: rest) a w:=by
 subst hd;refine wpListIn_plain hg fun K hK=>⟨fun _ _=>trivial,?_⟩;rw [Oper.semAt_eq _ _ _ hnd,hr];refine ⟨(fun hh=>by cases hh),(CallsIn.inRound l (callsIn_wide.2 h)).mono ?_⟩;rintro e w' ⟨v,rfl,hv⟩;exact hK _ _ hv
theorem dz {l:Nat} {P:Program} {ops:Array Oper} {rest:List Oper} {o:Oper} {a:Act} {Q:Exit->Act->World->Prop} (d:Option Tmp) (hw:Region.wanted o (yielded ops a.tmps)=true) (hd:o.dst=d) (hnd:∀ c,o.op≠.defer c)
  (hr:(execOp a.eval o).run P w=.ok (.value v) w') (h:wpListIn (Fence.wide.inRound l) n P ops Q rest (a.put d v) w'):wpListIn (Fence.wide.inRound l) n P ops Q (o :: rest) a w:=by
 subst hd;refine wpListIn_step fun K hK=>?_;rw [if_pos hw];refine ⟨fun _ _=>trivial,?_⟩;rw [Oper.semAt_eq _ _ _ hnd,hr];exact hK _ _ h
theorem DQ {l:Nat} {P:Program} {ops:Array Oper} {rest:List Oper} {o:Oper} {a:Act} {Q:Exit->Act->World->Prop} (d:Option Tmp) (hw:Region.wanted o (yielded ops a.tmps)=true) (hd:o.dst=d) (hnd:∀ c,o.op≠.defer c) (f:FuncId) (args:Array Value)
  (hr:(execOp a.eval o).run P w=.ok (.enter f args) w) (h:Calls P f args w fun e w'=>∃ v,e=.returned v/\wpListIn (Fence.wide.inRound l) n P ops Q rest (a.put d v) w'):wpListIn (Fence.wide.inRound l) n P ops Q (o :: rest) a w:=by
 subst hd;refine wpListIn_step fun K hK=>?_;rw [if_pos hw];refine ⟨fun _ _=>trivial,?_⟩;rw [Oper.semAt_eq _ _ _ hnd,hr];refine ⟨(fun hh=>by cases hh),(CallsIn.inRound l (callsIn_wide.2 h)).mono ?_⟩;rintro e w' ⟨v,rfl,hv⟩;exact hK _ _ hv
theorem fW {l:Nat} {P:Program} {ops:Array Oper} {rest:List Oper} {o:Oper} {a:Act} {Q:Exit->Act->World->Prop} (d:Option Tmp) (hw:Region.wanted o (yielded ops a.tmps)=false) (hd:o.dst=d)
  (h:wpListIn (Fence.wide.inRound l) n P ops Q rest (a.put d undef) w):wpListIn (Fence.wide.inRound l) n P ops Q (o :: rest) a w:=by
 subst hd;unfold wpListIn;rw [if_neg (by rw [hw]; decide)];exact ⟨fun _ _=>trivial,h⟩
def Bf (Q:Exit->Act->World->Prop):Exit->Act->World->Prop
 | .normal,a,w=>Q .normal a w
 | _,_,_=>False
theorem zX {P:Program} {c:Code} {Q:Exit->Act->World->Prop} {a:Act} (h:c.wp P (Bf Q) a w):c.wp P Q a w :=
 wp_mono h fun e a w hq=>by cases e <;> first | exact hq | exact hq.elim
theorem lU {Q:Exit->Act->World->Prop} {a:Act} (h:Q .normal a w):Bf Q .normal a w:=h
end Go.Proofs.Rg
namespace Go.Proofs.YtpedbljnhnoohaaGreat
open Go.RowKit
open Go.Proofs
open Go.Shelf
attribute [local go_sem] Oper.semAt_some
def dD (m k:Nat):List (Fin m):=(List.finRange m).take k
theorem kY {m k:Nat} (h:k<m):dD m (k+1)=dD m k++[⟨k,h⟩]:=by
 unfold dD;rw [List.take_succ_eq_append_getElem (by rw [List.length_finRange]; exact h)];simp
theorem wY {m k:Nat} (h:k<=m):(dD m k).length=k:=by
 unfold dD;rw [List.length_take,List.length_finRange];omega
theorem DR (m:Nat):dD m 0=[]:=rfl
theorem GH (m:Nat):dD m m=List.finRange m:=by
 unfold dD;rw [List.take_of_length_le (by rw [List.length_finRange]; exact Nat.le_refl _)]
theorem Kn (F:Fence) (n:Nat) (h7:F.fn 97) (hro:F.round=none) (hn:1<=n) (l Bs n₀ m cap:Nat) (ad:Option Addr) (RV:Nat->Value) (hm:m<=1000000000) (M5:0<m->∃ b off,ad=some ⟨b,off,none⟩/\b<n₀) (J Jx:List (Fin m)->World->Prop)
  (hY:∀ pre x W,J pre W->pre.length<m->YieldAt F (n - 1) Tryz.prog l #[.int .i64 ((x.1:Nat):Int),RV x.1] W fun e W' =>
   (e=.returned (.bool true)/\J (pre++[x]) W'/\Below n₀ W W')∨(e=.returned (.bool false)/\Jx (pre++[x]) W'))
  (W:World) (wP:W.cell? ⟨Bs,2,none⟩=some (.slice ad m cap)) (hc:∀ b off,ad=some ⟨b,off,none⟩->∀ j,j<m->W.cell? ⟨b,off+j,none⟩=some (RV j)) (h0:J [] W) :
  CallsIn F n Tryz.prog 97 #[.func (.yield l) #[] #[],.pointer (some ⟨Bs,0,none⟩)] W fun e W'=>(∃ v,e=.returned v) /\
   ((∃ ys,ys=dD m m/\J ys W')∨(∃ pre,(∃ k,k<=m/\pre=dD m k)/\Jx pre W')):=by
 refine callsIn_of_wp Tryz.func97 rfl h7 ?_ hro;simp only [Tryz.ntmps97,List.size_toArray,List.length_cons,List.length_nil,Nat.reduceAdd,Nat.reduceSub,Array.replicate_succ,Array.replicate_zero,List.push_toArray,List.append_toArray,List.nil_append,List.cons_append]
 gi_wp2
 gi_loopw [8] (fun i wr=>∃ k:Nat,k<=m/\i=.int .i64 k/\J (dD m k) wr/\Below n₀ W wr)
  (fun i _=>m - (intOf i).toNat)
 case atStart=>exact ⟨0,Nat.zero_le _,rfl,h0,Below.refl _ _⟩
 case round =>
  obtain ⟨k,hk,rfl,MI,MJ⟩:=hrel
  by_cases aE:k<m
  ·obtain ⟨b,off,rfl,hb⟩:=M5 (by omega)
   have DE:wr.cell? ⟨b,off+k,none⟩=some (RV k):=(MJ.cell (p:=⟨b,off+k,none⟩) hb).trans (hc b off rfl k aE);obtain ⟨fn,tmps,assign,body,hy,hR⟩:=hY _ ⟨k,aE⟩ wr MI (by rw [wY hk]; exact aE)
   dsimp only at hy
   gi_wp2
   refine hR.mono ?_
   rintro e W3 (⟨rfl,TL,iu⟩ | ⟨rfl,ML⟩)
   ·gi_wp2
    go_roundw
    case rel=>exact ⟨k+1,by omega,by simp,by rw [kY aE]; exact TL,MJ.trans iu⟩
    case measure=>simp [intOf]; omega
   ·gi_wp2
    refine bodyPost_ret (results_none rfl _ _ _) rfl ?_;exact ⟨⟨_,rfl⟩,.inr ⟨_,⟨k+1,by omega,(kY aE).symm⟩,ML⟩⟩
  ·obtain rfl:k=m:=by omega
   gi_wp2
   go_end0
   exact ⟨⟨_,rfl⟩,.inl ⟨_,rfl,MI⟩⟩
end Go.Proofs.YtpedbljnhnoohaaGreat
namespace Go.Proofs.RF
open Go Go.RowKit
def ef (D:Nat) (W:World):Prop:=W.heap[D]?=some (.deferred (some []))
theorem ef.size {D:Nat} {W:World} (h:ef D W):D<W.heap.size:=(Array.getElem?_eq_some_iff.1 h).1
theorem ef.mF (h:ef D W) (hb:Below W.heap.size W W'):ef D W':=(hb.block D h.size).trans h
theorem ef.alloc {D:Nat} {W:World} (h:ef D W) (o:Obj):ef D (W.alloc o):=(Below.heap_alloc W o D h.size).trans h
theorem ef.drew {D:Nat} {W:World} (h:ef D W):ef D W.drew:=h
theorem ef.setCell {D:Nat} {W:World} (h:ef D W) (a:Addr) (v:Value):ef D (W.setCell a v) :=
 (KeepsOthers.setCell W a v).same D _ h rfl
theorem ef.cell {D:Nat} {o:Option (List Deferred)} {W:World} (h:ef D W) (a:Addr):(W.putObj D (.deferred o)).cell? a=W.cell? a:=by
 unfold World.cell?
 by_cases e:a.block=D
 ·rw [e,World.putObj_heap_same h.size,show W.heap[D]?=_ from h]
 ·rw [World.putObj_heap_other e]
theorem ef.frozen {D:Nat} {o:Option (List Deferred)} {W:World} (h:ef D W) (a:Addr):(W.putObj D (.deferred o)).frozen? a=W.frozen? a:=by
 unfold World.frozen?
 by_cases e:a.block=D
 ·rw [e,World.putObj_heap_same h.size,show W.heap[D]?=_ from h]
 ·rw [World.putObj_heap_other e]
def mark (D:Nat):Deferred:={ target:=.collected D,args:=#[] }
theorem leaves {n:Nat} {P:Program} {fn:Func} {tmps:Array Value} {R:Ending->World->Prop} (B:Nat):∀ (ds:List Nat) (W:World),ds.Nodup->(∀ D,D∈ds->ef D W/\B<=D) ->
  (∀ W',Below B W W'->(∀ a,W'.cell? a=W.cell? a)->(∀ a,W'.frozen? a=W.frozen? a)->∃ v,(results fn tmps).run P W'=.ok v W'/\R (.returned v) W') ->
  LeavesInM Fence.wide n P fn tmps R (ds.map mark) .returning W
 | [],W,_,_,h=>h W (Below.refl _ _) (fun _=>rfl) (fun _=>rfl)
 | D :: ds,W,hn,hD,h=>by
  rw [List.nodup_cons] at hn;obtain ⟨hd,hB⟩:=hD D (by simp);have hb:Below B W (W.putObj D (.deferred none)):=⟨rfl,rfl,rfl,by simp,fun k hk=>World.putObj_heap_other (by omega)⟩;refine ⟨by simp,.inl ⟨D,_,rfl,run_takeDeferred hd,leaves B ds _ hn.2 (fun D' gH=>?_) (fun W' h1 h2 h3=>?_)⟩⟩
  ·refine ⟨(World.putObj_heap_other ?_).trans (hD D' (by simp [gH])).1,(hD D' (by simp [gH])).2⟩
   intro e; exact hn.1 (e▸gH)
  ·exact h W' (hb.trans h1) (fun a=>(h2 a).trans (hd.cell a)) (fun a=>(h3 a).trans (hd.frozen a))
theorem fX {P:Program} {f:FuncId} {fn:Func} {c:Code} {args:Array Value} {R:Ending->World->Prop}
  (hf:P.funcs[f]?=some fn) (hb:fn.body=some c)
  (h:c.wp P (bodyPostM Fence.wide 0 P fn R) { tmps:=args++Array.replicate (fn.ntmps - args.size) undef,defers:=[] } w):Calls P f args w R :=
 callsIn_wide.1 (callsIn_of_wp_marks (n:=0) hf hb trivial (wpIn_wide.2 h))
end Go.Proofs.RF
namespace Go.Proofs.YtpedbljnhnoohaaGreat
open Go.Proofs
section
open Go.RowKit
open Go.Shelf
attribute [local irreducible] Go.Calls Go.wpList
structure KK (B n₀:Nat) (W W':World):Prop where
 keeps:KeepsFrom B W W'
 bX:Below n₀ W W'
 le:n₀<=W.heap.size
theorem KK.refl {B n₀:Nat} {W:World} (h:n₀<=W.heap.size):KK B n₀ W W:=⟨KeepsFrom.refl _ _,Below.refl _ _,h⟩
theorem KK.acc {qf:World} (h:KK B n₀ W W') (hb:Below W'.heap.size W' qf):KK B n₀ W qf :=
 ⟨h.keeps.trans ⟨hb.size,fun k o _ hk _=>(hb.block k (Array.getElem?_eq_some_iff.1 hk).1).trans hk⟩,h.bX.trans (hb.mono (Nat.le_trans h.le h.bX.size)),h.le⟩
theorem KK.set (h:KK B n₀ W W') {b o:Nat} (v:Value) (hb:n₀<=b):KK B n₀ W (W'.setCell ⟨b,o,none⟩ v) :=
 ⟨h.keeps.trans ((KeepsOthers.setCell _ _ _).from _),h.bX.setCell (p:=⟨b,o,none⟩) hb v,h.le⟩
theorem KK.grown {B n₀:Nat} {W W' qf:World} (h:KK B n₀ W W') {e:TypeId} {v:Value} {n size:Nat} {xs:List Value} (hr:W'.ownsRow n₀ e size v n xs) (hg:W'.grownBy qf v.ownBlock):KK B n₀ W qf :=
 ⟨h.keeps.trans ((KeepsOthers.of_grownBy hg (fun j o e1 e2=>by
  obtain ⟨_,h2⟩:=hr
  rcases h2 with ⟨h3,_⟩ | ⟨g,cap,cur,h3,ny,hc,_⟩
  ·rw [h3] at e1; simp [Value.ownBlock] at e1
  ·rw [h3] at e1
   simp [Value.ownBlock] at e1;subst e1;rw [hc] at e2
   cases e2; rfl)).from _),h.bX.grown hg (Nat.le_trans h.le h.bX.size) (fun j hj=>(hr.lt j hj).1),h.le⟩
theorem tE (n:Int) (ov rv:Value) (w:World) :
  Calls Tryz.prog 74 #[.agg #[.int .i64 n,ov,rv]] w fun e w'=>∃ fb,e=.returned (.func (.func 97) #[] #[.pointer (some ⟨fb,0,none⟩)])/\CL w' fb 2 rv/\Below w.heap.size w w':=by
 go_enter Tryz.func74,Tryz.ntmps74
 have aQ:=gR w (.int .i64 n) ov rv;go_upto_region 0 with (fail);refine d3 ?_;refine d4 1 (Rg.bq _ _ rfl rfl) ?_;go_frame;have hb:Below w.heap.size w (w.alloc (.cells #[.int .i64 n,ov,rv] 25)):=(Below.refl _ _).alloc (Nat.le_refl _) _;generalize w.alloc (.cells #[.int .i64 n,ov,rv] 25)=w1 at *;have H:=U aQ.2.2;have K:=U hb;clear aQ hb;go_wp2;go_ret;exact ⟨_,rfl,H.p,K.p⟩
structure Bg (n₀:Nat) (w:World) (ad:Option Addr) (m:Nat) (RV:Nat->Value):Prop where
 le:m<=1000000000
 M5:0<m->∃ b off,ad=some ⟨b,off,none⟩/\b<n₀
 cells:∀ b off,ad=some ⟨b,off,none⟩->∀ j,j<m->w.cell? ⟨b,off+j,none⟩=some (RV j)
 sz:n₀<=w.heap.size
theorem Bg.jj {ad:Option Addr} {m:Nat} {RV:Nat->Value} (h:Bg n₀ w ad m RV) (hb:Below n₀ w w'):Bg n₀ w' ad m RV :=
 ⟨h.le,h.M5,fun b off e j hj=>by
  obtain ⟨b',aaf,e',aE⟩:=h.M5 (by omega);rw [e] at e';simp only [Option.some.injEq,Addr.mk.injEq,and_true] at e';obtain ⟨rfl,rfl⟩:=e'
  exact (hb.cell (p:=⟨b,off+j,none⟩) aE).trans (h.cells b off e j hj),Nat.le_trans h.sz hb.size⟩
theorem uz {m fb:Nat} {ad:Option Addr} {RV:Nat->Value} (h:Bg n₀ w ad m RV) (lA:CL w fb 2 (.slice ad m cap)) (n:Nat) (hn:1<=n) :
  SeqStopsK Fence.wide n Tryz.prog 97 #[.pointer (some ⟨fb,0,none⟩)] (fun x:Fin m=>#[Value.int .i64 ((x.1:Nat):Int),RV x.1]) (Below n₀) (fun ys=>ys=dD m m) (fun pre=>∃ k,k<=m/\pre=dD m k) m w:=fun l J Jx W hW _ _ hY h0=>by
 have h':=h.jj (hW.mono h.sz);exact Kn Fence.wide n trivial rfl hn l fb n₀ m cap ad RV h.le h.M5 J Jx hY W ((hW.cell (p:=⟨fb,2,none⟩) lA.lt).trans lA.cell) h'.cells h0
theorem uA {g:Operand} {ps:Array Go.Tmp} {assign body:Code} {Q:Exit->Act->World->Prop} {a:Act} {m fb:Nat} {ad:Option Addr} {RV:Nat->Value}
  (hg:a.eval g=.func (.func 97) #[] #[.pointer (some ⟨fb,0,none⟩)]) (lA:CL w fb 2 (.slice ad m cap)) (h:Bg n₀ w ad m RV) (DS:ps.size=2)
  (I:List (Fin m)->World->Prop) (Ix:Code->List (Fin m)->World->Prop) (hI:OwnFrom w.heap.size I) (hIx:∀ c,OwnFrom w.heap.size (Ix c)) (h0:I [] w) (lV:Fin m->Act)
  (oy:∀ (l:Nat) (x:Fin m) (W:World) (K:Act->World->Prop),K (lV x) W->assign.wpIn (Fence.wide.inRound l) 1 Tryz.prog (Exit.then K (fun _ _ _=>False)) { tmps:=(ps.zip #[Value.int .i64 ((x.1:Nat):Int),RV x.1]).foldl (fun t (p,v)=>t.setIfInBounds p v) a.tmps,defers:=[] } W)
  (wZ:∀ (l:Nat) (pre:List (Fin m)) (x:Fin m) (W:World),I pre W->pre.length<m->body.wpIn (Fence.wide.inRound l) 1 Tryz.prog (ownPostG w.heap.size (Below n₀) I Ix (pre++[x]) W) (lV x) W)
  (w_:∀ (D:Nat) (W:World),w.heap.size<=D->I (dD m m) W->RF.ef D W->Q .normal { a with defers:=RF.mark D :: a.defers } W)
  (xd:∀ (D:Nat) (c:Code) (pre:List (Fin m)) (W:World),w.heap.size<=D->Ix c pre W->RF.ef D W->c.wp Tryz.prog Q { a with defers:=RF.mark D :: a.defers } W) :
  (Code.rangeFunc g ps assign body).wp Tryz.prog Q a w :=
 wpIn_wide.1 (wpIn_rangeFunc_ownG (F:=Fence.wide) (n:=3) rfl (by decide) (gf:=97) (lb:=#[.pointer (some ⟨fb,0,none⟩)]) hg trivial (enters_of Tryz.func97 (by kernel_rfl) rfl)
  (uz h lA 2 (by decide)) belowK_t (belowK_b h.sz) (Below.refl _ _) (fun _=>DS.symm) I Ix hI hIx h0 lV oy wZ
  (fun D xs W hD hx hi hd=>by subst hx; exact w_ D W hD hi hd) (fun D c pre W hD _ hi hd=>wpIn_wide.2 (xd D c pre W hD hi hd)))
end
section
open Go.Proofs.Cm (Gr Gd ak bT St)
theorem M6 {l:List Nat} {a b:Nat} (h:l.Pairwise (· < ·)) (hr:∀ x∈l,a<=x/\x<b):l.length<=b - a:=by
 have h1:l.Nodup:=h.imp (fun {x y} aE e=>by omega)
 have h2:=d_ (m:=List.range' a (b - a)) h1 (fun x hx=>by
  have:=hr x hx;rw [List.mem_range'_1]
  omega)
 rwa [List.length_range'] at h2
theorem df {α:Type} {l:List (List α)} {i:Nat} (h:i<l.length):l.getD i []=l[i]:=by rw [List.getD_eq_getElem?_getD,List.getElem?_eq_getElem h]; rfl
theorem GJ (h:ak n H O R) {r:List Nat} (hr:r∈R.flatten):∃ i k,i<n/\k<(O.getD i []).length/\r=(R.getD i []).getD k []:=by
 obtain ⟨l,hl,hr⟩:=List.mem_flatten.1 hr;obtain ⟨i,hi,rfl⟩:=List.getElem_of_mem hl;obtain ⟨k,hk,rfl⟩:=List.getElem_of_mem hr
 have bF:i<n:=by rw [<- h.iq]; exact hi
 have e1:=h.len i bF;rw [df hi] at e1;exact ⟨i,k,bF,by omega,by rw [df hi]; exact (Ko hk).symm⟩
where
 Ko {l:List (List Nat)} {k:Nat} (h:k<l.length):l.getD k []=l[k]:=by rw [List.getD_eq_getElem?_getD,List.getElem?_eq_getElem h]; rfl
theorem rh (h:ak n H O R) {r:List Nat} (hr:r∈R.flatten):H r:=by
 obtain ⟨i,k,hi,hk,rfl⟩:=GJ h hr;exact (h.rep i k hi hk).1.1.1
theorem GK (hH:bT n H) (h:ak n H O R) (x:List Nat):H x↔Gr n (·∈R.flatten) x:=by
 have iO:∀ s,s∈R.flatten->Gd n s:=fun s hs=>hH.gd s (rh h hs)
 constructor
 ·intro hx
  have key:∀ d i x,i+d=n->St H i x->Gr n (·∈R.flatten) x:=by
   intro d
   induction d with
   | zero =>
    intro i x hi hx
    obtain rfl:i=n:=by omega
    rw [Cm.Fx.all (hH.gd x hx.1) hx.2];exact .one
   | succ d ih =>
    intro i x hi hx
    have bF:i<n:=by omega
    have gx:=hH.gd x hx.1;have hp:=(h.orb i (Cm.ap x i) bF).2 ⟨x,hx,rfl⟩;obtain ⟨k,hk,e⟩:=List.getElem_of_mem hp;have hl:=(h.rep i k bF hk).1
    have e2:(O.getD i []).getD k 0=Cm.ap x i:=by rw [List.getD_eq_getElem?_getD,List.getElem?_eq_getElem hk]; exact e
    rw [e2] at hl;have e3:=h.len i bF
    have P9:(R.getD i []).getD k []∈R.flatten:=by
     have Uc:i<R.length:=by rw [h.iq]; exact bF
     rw [df Uc];rw [df Uc] at e3;rw [List.getD_eq_getElem?_getD,List.getElem?_eq_getElem (by omega)];exact List.mem_flatten.2 ⟨_,List.getElem_mem Uc,List.getElem_mem _⟩
    generalize (R.getD i []).getD k []=r at *;have gr:=iO r P9
    have Qt:St H (i+1) (Ma.aj x (Ma.aS r)):=by
     refine ⟨hH.mul _ _ hx.1 (hH.inv _ hl.1.1),fun j hj=>?_⟩;rw [Cm.br gx (by omega)]
     by_cases ej:j=i
     ·subst ej
      rw [<- hl.2];exact Cm.ee gr bF
     ·rw [hx.2 j (by omega)]
      exact Cm.Fx.inv gr (Nat.le_of_lt bF) hl.1.2 j (by omega)
    have h1:=ih (i+1) _ (by omega) Qt;have h2:=Gr.mul _ _ h1 (.gen r P9)
    rwa [Cm.mul_inv_cancel gx gr] at h2
  exact key n 0 x (by omega) ⟨hx,fun j hj=>absurd hj (Nat.not_lt_zero _)⟩
 ·intro hx
  exact Gr.sub hH (fun s hs=>rh h hs) hx
theorem hU (hH:bT n H) (h:ak n H O R) {i:Nat} (hi:i<n):(O.getD i []).length<=n - i:=by
 refine M6 (h.eK i hi) fun p hp=>?_;obtain ⟨x,hx,rfl⟩:=(h.orb i p hi).1 hp;have gx:=hH.gd x hx.1;refine ⟨Nat.le_of_not_lt fun aE=>?_,Cm.cy gx hi⟩;have e:=hx.2 _ aE;have:=Cm.jz gx (Nat.lt_trans aE hi) hi e;omega
def fK (n:Int) (OO:List (List Int)) (RR:List (List (List Int))):Prop:=∃ (N:Nat) (O:List (List Nat)) (R:List (List (List Nat))),n=((N:Nat):Int)/\1<=N/\N<=64/\OO=O.map Ma.ag/\RR=R.map (List.map Ma.ag)/\ak N (Gr N (·∈R.flatten)) O R/\∀ s∈R.flatten,Gd N s
def mG (n:Int) (OO:List (List Int)) (RR:List (List (List Int))) (c:Int):Prop:=(¬ (1<=n/\n<=64)/\c=2)∨((1<=n/\n<=64)/\((fK n OO RR/\c=0)∨(¬ fK n OO RR/\c=3)))
theorem mG.uniq {n:Int} {c c':Int} (h:mG n OO RR c) (h':mG n OO RR c'):c=c':=by
 rcases h with ⟨a,rfl⟩ | ⟨a,⟨b,rfl⟩ | ⟨b,rfl⟩⟩ <;> rcases h' with ⟨a',rfl⟩ | ⟨a',⟨b',rfl⟩ | ⟨b',rfl⟩⟩ <;> first | rfl | exact absurd a a' | exact absurd a' a | exact absurd b b' | exact absurd b' b
theorem mG.zero {n:Int} (h:mG n OO RR 0):fK n OO RR:=by
 rcases h with ⟨_,e⟩ | ⟨_,⟨b,_⟩ | ⟨_,e⟩⟩
 ·cases e
 ·exact b
 ·cases e
theorem mG.of {n:Int} (h:fK n OO RR):mG n OO RR 0:=by
 obtain ⟨N,O,R,e,h1,h2,_⟩:=id h;exact .inr ⟨by omega,.inl ⟨h,rfl⟩⟩
theorem fK.lens {n:Int} (h:fK n OO RR):(OO.length:Int)=n/\(RR.length:Int)=n:=by
 obtain ⟨N,O,R,rfl,h1,h2,rfl,rfl,hc,_⟩:=h;rw [List.length_map,List.length_map,hc.gK,hc.iq];exact ⟨rfl,rfl⟩
theorem fK.row {n:Int} (h:fK n OO RR) {i:Nat} (hi:i<RR.length) (jQ:i<OO.length):RR[i].length=OO[i].length/\(RR[i].length:Int)<=n - (i:Int):=by
 obtain ⟨N,O,R,rfl,h1,h2,rfl,rfl,hc,hg⟩:=h;rw [List.length_map] at hi jQ
 have bF:i<N:=by rw [<- hc.iq]; exact hi
 have e1:=hc.len i bF;have e2:=hU (Gr.dC (gs:=(·∈R.flatten)) hg) hc bF;rw [df jQ] at e1 e2;rw [df hi] at e1;simp only [List.getElem_map,List.length_map,Ma.ar];omega
theorem fK.perm {n:Int} (h:fK n OO RR) {i:Nat} (hi:i<RR.length) {x:List Int} (hx:x∈RR[i]):(x.length:Int)=n/\Ma.bB x=0:=by
 obtain ⟨N,O,R,rfl,h1,h2,rfl,rfl,hc,hg⟩:=h;rw [List.length_map] at hi;rw [List.getElem_map] at hx;obtain ⟨y,hy,rfl⟩:=List.mem_map.1 hx;have gy:=hg y (List.mem_flatten.2 ⟨_,List.getElem_mem hi,hy⟩);rw [Ma.ar,gy.2];exact ⟨rfl,Ma.km (by rw [Ma.ar,gy.2]; exact h1) (by rw [Ma.ar,gy.2]; exact h2) (Ma.lJ gy.1)⟩
theorem cH:∀ {a b:List (List Nat)},a.map Ma.ag=b.map Ma.ag->a=b
 | [],[],_=>rfl
 | [],_ :: _,h=>by simp at h
 | _ :: _,[],h=>by simp at h
 | x :: a,y :: b,h=>by
  simp only [List.map_cons,List.cons.injEq] at h;rw [Ma.fl h.1,cH h.2]
theorem pQ (R:List (List (List Nat))):(R.map (List.map Ma.ag)).flatten=R.flatten.map Ma.ag:=by
 induction R with
 | nil=>rfl
 | cons r R ih=>simp only [List.map_cons,List.flatten_cons,List.map_append,ih]
theorem fK.same (h1:1<=N) (h2:N<=64) (hg:∀ s∈gs,Gd N s) (iO:RR.flatten=gs.map Ma.ag) (hc:ak N (Gr N (·∈gs)) O R) :
  fK ((N:Nat):Int) OO RR↔OO=O.map Ma.ag/\RR=R.map (List.map Ma.ag):=by
 constructor
 ·rintro ⟨N',O',R',e,_,_,rfl,rfl,tA,_⟩
  obtain rfl:N=N':=by omega
  rw [pQ] at iO;have:=cH iO;subst this;obtain ⟨rfl,rfl⟩:=hc.uniq tA;exact ⟨rfl,rfl⟩
 ·rintro ⟨rfl,rfl⟩
  rw [pQ] at iO;have:=cH iO;subst this;exact ⟨N,O,R,rfl,h1,h2,rfl,rfl,hc,hg⟩
theorem zY (h1:1<=N) (h2:N<=64) (hg:∀ s∈gs,Gd N s) (hc:ak N (Gr N (·∈gs)) O R):fK ((N:Nat):Int) (O.map Ma.ag) (R.map (List.map Ma.ag)):=by
 have hH:=Gr.dC (n:=N) (gs:=(·∈gs)) hg;have e:Gr N (·∈gs)=Gr N (·∈R.flatten):=funext fun x=>propext (GK hH hc x);refine ⟨N,O,R,rfl,h1,h2,rfl,rfl,?_,fun s hs=>hH.gd s (rh hc hs)⟩;rw [<- e];exact hc
end
end Go.Proofs.YtpedbljnhnoohaaGreat
